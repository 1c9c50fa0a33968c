/- Contract of frame.Of where its place may not be. -/
import Derived.Test.YthkabhejfkekjaaFrame3
namespace Go.Proofs.Ythkabhejfkekjaa
open Go.RowKit

set_option maxRecDepth 100000 in
set_option maxHeartbeats 2000000 in
theorem fof_len (id first i : Nat) (xs : List UInt8) (A : Option Addr) (n c : Nat) (w : World) (hx : RdB w A n c xs) (hf : first < 18446744073709551616) (h0 : i ≤ 3192) (h : lenOk ((100 * i : Nat) : Int) n = false ∨ 2147483648 ≤ first) :
    Calls Try.prog 55 #[.int .u64 id, .int .u64 first, .slice A n c, .int .i64 i] w fun e w' => e = .returned (.tuple #[zfrm, .int .i64 3]) ∧ Below w.heap.size w w' := by
  have hB := (one_cells w #[.int .u64 0, .int .u64 0, .int .i64 0, .int .i64 0, .string ⟨([] : List UInt8).toArray⟩] 66).1
  have hh0 := alloc_new w (.cells #[.int .u64 0, .int .u64 0, .int .i64 0, .int .i64 0, .string ⟨([] : List UInt8).toArray⟩] 66 (0, 0))
  have KL := fun W => Lib.hid (flen_any ((100 * i : Nat) : Int) n W)
  have hcm := hx.cm
  have hnc := hx.nc
  unfold maxLen at hcm
  have e1 : (i : Int) * 100 = ((100 * i : Nat) : Int) := by omega
  have e3 : (first : Int) + (i : Int) = ((first + i : Nat) : Int) := by omega
  have hi0 : 0 ≤ (i : Int) := by omega
  have hi1 : (i : Int) ≤ 3192 := by omega
  have e2 : IntKind.u64.wrap (i : Int) = i := by rw [wrap_u64]; omega
  have e4 : IntKind.u64.wrap ((first + i : Nat) : Int) = (((first + i) % 18446744073709551616 : Nat) : Int) := by rw [wrap_u64]; omega
  have hm : 100 * i ≤ 319200 := by omega
  clear h0
  clear hf
  generalize hq : (first + i) % 18446744073709551616 = q at *
  clear hq
  generalize first + i = s at *
  generalize 100 * i = m at *
  generalize hZ : w.alloc (.cells #[.int .u64 0, .int .u64 0, .int .i64 0, .int .i64 0, .string ⟨([] : List UInt8).toArray⟩] 66) = w0 at *
  have hb1 := (one_cells w0 (frmCs q id m n []) 66).1
  have hh1 := alloc_new w0 (.cells (frmCs q id m n []) 66 (0, 0))
  have hlt := heap_lt hh0
  obtain ⟨⟨q0, q1, q2, q3, q4⟩, g0, g1, g2, g3, g4⟩ := five_cells hh1
  cases hok : lenOk (m : Int) n with
  | false =>
    rw [hok, if_neg (by decide)] at KL
    clear h hok
    go_enter Try.func55, Try.ntmps55
    go_wp2_with fail
    refine (KL _).out.mono ?_
    rintro e w' ⟨rfl, rfl⟩
    have hh0' := heap_below hb1 hh0
    replace hB := below_trans hB hb1
    generalize hZ1 : w0.alloc (.cells (frmCs q id m n []) 66) = w1 at *
    clear hZ1 hZ hh1 hb1 hh0 KL e3 e4
    obtain ⟨⟨z0, z1, z2, z3, z4⟩, f0, f1, f2, f3, f4⟩ := five_cells hh0'
    go_wp2_with fail
    have hh5 := five_heap hh0' (.int .u64 0) (.int .u64 0) (.int .i64 0) (.int .i64 0) (.string ⟨([] : List UInt8).toArray⟩)
    have hB6 := below_gbw (five_gb w1 w.heap.size (.int .u64 0) (.int .u64 0) (.int .i64 0) (.int .i64 0) (.string ⟨([] : List UInt8).toArray⟩)) hB (Nat.le_refl _)
    obtain ⟨⟨r0, r1, r2, r3, r4⟩, -⟩ := five_cells hh5
    refine bodyPost_ret (v := .tuple #[zfrm, .int .i64 3]) ?_ rfl ⟨rfl, hB6⟩
    simp only [five] at r0 r1 r2 r3 r4
    simp [results, Try.results55, go_sem, r0, r1, r2, r3, r4]
  | true =>
    rw [hok, if_pos rfl] at KL
    generalize min 100 ((n : Int) - (m : Int)) = l at *
    have k1 : decide ((2147483648 : Int) ≤ first) = true := by rw [decide_eq_true_iff]; rcases h with h | h; (rw [hok] at h; cases h); omega
    clear h hok
    go_enter Try.func55, Try.ntmps55
    go_wp2_with fail
    refine (KL _).out.mono ?_
    rintro e w' ⟨rfl, rfl⟩
    have hh0' := heap_below hb1 hh0
    replace hB := below_trans hB hb1
    generalize hZ1 : w0.alloc (.cells (frmCs q id m n []) 66) = w1 at *
    clear hZ1 hZ hh1 hb1 hh0 KL e3 e4
    obtain ⟨⟨z0, z1, z2, z3, z4⟩, f0, f1, f2, f3, f4⟩ := five_cells hh0'
    go_wp2_with fail
    have hh5 := five_heap hh0' (.int .u64 0) (.int .u64 0) (.int .i64 0) (.int .i64 0) (.string ⟨([] : List UInt8).toArray⟩)
    have hB6 := below_gbw (five_gb w1 w.heap.size (.int .u64 0) (.int .u64 0) (.int .i64 0) (.int .i64 0) (.string ⟨([] : List UInt8).toArray⟩)) hB (Nat.le_refl _)
    obtain ⟨⟨r0, r1, r2, r3, r4⟩, -⟩ := five_cells hh5
    refine bodyPost_ret (v := .tuple #[zfrm, .int .i64 3]) ?_ rfl ⟨rfl, hB6⟩
    simp only [five] at r0 r1 r2 r3 r4
    simp [results, Try.results55, go_sem, r0, r1, r2, r3, r4]
end Go.Proofs.Ythkabhejfkekjaa
