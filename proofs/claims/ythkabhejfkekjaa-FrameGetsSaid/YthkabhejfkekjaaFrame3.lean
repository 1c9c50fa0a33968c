/- Contract of frame.Of. No condition but lengths' bounds. -/
import Derived.Test.YthkabhejfkekjaaFrame2
namespace Go.Proofs.Ythkabhejfkekjaa
open Go.RowKit

/-- A struct of five cells laid into a block, cell by cell. -/
abbrev five (w : World) (g : Nat) (a b c d e : Value) : World := ((((w.setCell ⟨g, 0, none⟩ a).setCell ⟨g, 1, none⟩ b).setCell ⟨g, 2, none⟩ c).setCell ⟨g, 3, none⟩ d).setCell ⟨g, 4, none⟩ e
theorem five_heap {w : World} {g : Nat} {a0 b0 c0 d0 e0 : Value} {t : TypeId} (h : w.heap[g]? = some (.cells #[a0, b0, c0, d0, e0] t (0, 0))) (a b c d e : Value) : (five w g a b c d e).heap[g]? = some (.cells #[a, b, c, d, e] t (0, 0)) := by
  have h1 := set_heap (o := 0) h a
  have h2 := set_heap (o := 1) h1 b
  have h3 := set_heap (o := 2) h2 c
  have h4 := set_heap (o := 3) h3 d
  exact set_heap (o := 4) h4 e
theorem five_gb (w : World) (g : Nat) (a b c d e : Value) : w.grownBy (five w g a b c d e) (some g) :=
  ((((gb_set _ _ _ _).trans (gb_set _ _ _ _)).trans (gb_set _ _ _ _)).trans (gb_set _ _ _ _)).trans (gb_set _ _ _ _)
/-- The five cells of a block, and that none is frozen. -/
theorem five_cells {w : World} {g : Nat} {a b c d e : Value} {t : TypeId} (h : w.heap[g]? = some (.cells #[a, b, c, d, e] t (0, 0))) :
    (w.cell? ⟨g, 0, none⟩ = some a ∧ w.cell? ⟨g, 1, none⟩ = some b ∧ w.cell? ⟨g, 2, none⟩ = some c ∧ w.cell? ⟨g, 3, none⟩ = some d ∧ w.cell? ⟨g, 4, none⟩ = some e) ∧
    (w.frozen? ⟨g, 0, none⟩ = false ∧ w.frozen? ⟨g, 1, none⟩ = false ∧ w.frozen? ⟨g, 2, none⟩ = false ∧ w.frozen? ⟨g, 3, none⟩ = false ∧ w.frozen? ⟨g, 4, none⟩ = false) :=
  ⟨⟨cell_heap h, cell_heap h, cell_heap h, cell_heap h, cell_heap h⟩, frozen_heap h, frozen_heap h, frozen_heap h, frozen_heap h, frozen_heap h⟩

set_option maxRecDepth 100000 in
set_option maxHeartbeats 2000000 in
theorem fof_yes (id first i : Nat) (xs : List UInt8) (A : Option Addr) (n c : Nat) (w : World) (hx : RdB w A n c xs) (h1 : 100 * i < n) (h2 : n ≤ 3192) (h3 : id < 2147483648) (h4 : first + i < 2147483648) :
    Calls Try.prog 55 #[.int .u64 id, .int .u64 first, .slice A n c, .int .i64 i] w fun e w' => e = .returned (.tuple #[frm (first + i) id ((100 * i : Nat) : Int) n ((xs.drop (100 * i)).take (min 100 (n - 100 * i))), .int .i64 0]) ∧ Below w.heap.size w w' := by
  have hxl := hx.blen
  have hmay : MayF (first + i) id (100 * i) n ((xs.drop (100 * i)).take (min 100 (n - 100 * i))).length :=
    ⟨h4, h3, by omega, h2, h1, by omega, by rw [List.length_take, List.length_drop]; omega⟩
  have KL := fun W => Lib.hid (flen_any ((100 * i : Nat) : Int) n W)
  rw [lenOk_may hmay, if_pos rfl, show min 100 ((n : Int) - ((100 * i : Nat) : Int)) = ((min 100 (n - 100 * i) : Nat) : Int) by omega] at KL
  have KC := fun W => Lib.hid (fcheck_any (first + i) id ((100 * i : Nat) : Int) n ((xs.drop (100 * i)).take (min 100 (n - 100 * i))) W (by rw [List.length_take]; omega))
  rw [mayF_of hmay, if_pos rfl] at KC
  have hB := (one_cells w #[.int .u64 0, .int .u64 0, .int .i64 0, .int .i64 0, .string ⟨([] : List UInt8).toArray⟩] 66).1
  have hh0 := alloc_new w (.cells #[.int .u64 0, .int .u64 0, .int .i64 0, .int .i64 0, .string ⟨([] : List UInt8).toArray⟩] 66 (0, 0))
  have e1 : (i : Int) * 100 = ((100 * i : Nat) : Int) := by omega
  have e3 : (first : Int) + (i : Int) = ((first + i : Nat) : Int) := by omega
  have hi0 : 0 ≤ (i : Int) := by omega
  have hi1 : (i : Int) ≤ 3192 := by omega
  have e2 : IntKind.u64.wrap (i : Int) = i := by rw [wrap_u64]; omega
  have e4 : IntKind.u64.wrap ((first + i : Nat) : Int) = ((first + i : Nat) : Int) := by rw [wrap_u64]; omega
  have k1 : decide ((2147483648 : Int) ≤ first) = false := by rw [decide_eq_false_iff_not]; omega
  have hlast : 100 * i + min 100 (n - 100 * i) ≤ n := by omega
  obtain ⟨ad, rfl⟩ := hx.some_of_pos (by omega)
  have hcne : ¬ (c = 100 * i) := by have := hx.nc; omega
  have hrc := hx.bsliced (100 * i) (100 * i + min 100 (n - 100 * i)) (by omega) hlast
  rw [if_neg hcne, show 100 * i + min 100 (n - 100 * i) - 100 * i = min 100 (n - 100 * i) by omega, Option.map_some] at hrc
  have e5 : ((100 * i : Nat) : Int) + ((min 100 (n - 100 * i) : Nat) : Int) = ((100 * i + min 100 (n - 100 * i) : Nat) : Int) := by omega
  have hzl : 100 * i + min 100 (n - 100 * i) - 100 * i = min 100 (n - 100 * i) := by omega
  have hmz : 100 * i ≤ 100 * i + min 100 (n - 100 * i) := by omega
  have hnc := hx.nc
  have hcm := hx.cm
  unfold maxLen at hcm
  clear h4 h3 hmay hxl
  generalize first + i = q at *
  generalize 100 * i = m at *
  generalize min 100 (n - m) = l at *
  generalize (xs.drop m).take l = d at *
  generalize m + l = z at *
  generalize hZ : w.alloc (.cells #[.int .u64 0, .int .u64 0, .int .i64 0, .int .i64 0, .string ⟨([] : List UInt8).toArray⟩] 66) = w0 at *
  replace hrc := hrc.below hB
  have hb1 := (one_cells w0 (frmCs q id m n []) 66).1
  have hh1 := alloc_new w0 (.cells (frmCs q id m n []) 66 (0, 0))
  have hh0' := heap_below hb1 hh0
  replace hrc := hrc.below hb1
  have hlt := heap_lt hh0
  obtain ⟨⟨q0, q1, q2, q3, q4⟩, f0, f1, f2, f3, f4⟩ := five_cells hh1
  go_enter Try.func55, Try.ntmps55
  go_wp2_with fail
  refine (KL _).out.mono ?_
  rintro e w' ⟨rfl, rfl⟩
  replace hB := below_trans hB hb1
  generalize hZ1 : w0.alloc (.cells (frmCs q id m n []) 66) = w1 at *
  have hks := run_string_of (P := Try.prog) 22 9 5 Try.underlying22 Try.underlying5 Try.underlying9 hrc
  have hh2 := set_heap (o := 4) hh1 (.string ⟨d.toArray⟩)
  have hg2 := gb_set w1 w0.heap.size 4 (.string ⟨d.toArray⟩)
  have hh0'' := gb_heap hg2 hh0' (by simp; omega)
  replace hB := below_gbw hg2 hB (by omega)
  obtain ⟨⟨p0, p1, p2, p3, p4⟩, -⟩ := five_cells (a := .int .u64 q) (b := .int .u64 id) (c := .int .i64 m) (d := .int .i64 n) (e := .string ⟨d.toArray⟩) hh2
  clear KL e3 e4 hh1 hh0' hh0 hZ hb1 hx hg2
  go_wp2_with fail
  generalize hZ2 : w1.setCell ⟨w0.heap.size, 4, none⟩ (.string ⟨d.toArray⟩) = w2 at *
  refine (KC _).out.mono ?_
  rintro e w3 ⟨rfl, hb⟩
  have hh3 := heap_below hb hh2
  have hh4 := heap_below hb hh0''
  replace hB := below_trans hB hb
  clear KC hb hh2 hh0'' p0 p1 p2 p3 p4 q0 q1 q2 q3 q4 f0 f1 f2 f3 f4 hZ1 hZ2 hks
  obtain ⟨⟨p0, p1, p2, p3, p4⟩, -⟩ := five_cells (a := .int .u64 q) (b := .int .u64 id) (c := .int .i64 m) (d := .int .i64 n) (e := .string ⟨d.toArray⟩) hh3
  obtain ⟨⟨z0, z1, z2, z3, z4⟩, f0, f1, f2, f3, f4⟩ := five_cells hh4
  have hh5 := five_heap hh4 (.int .u64 q) (.int .u64 id) (.int .i64 m) (.int .i64 n) (.string ⟨d.toArray⟩)
  have hB6 := below_gbw (five_gb w3 w.heap.size (.int .u64 q) (.int .u64 id) (.int .i64 m) (.int .i64 n) (.string ⟨d.toArray⟩)) hB (Nat.le_refl _)
  go_wp2_with fail
  obtain ⟨⟨r0, r1, r2, r3, r4⟩, -⟩ := five_cells hh5
  refine bodyPost_ret (v := .tuple #[frm q id m n d, .int .i64 0]) ?_ rfl ⟨rfl, hB6⟩
  simp only [five] at r0 r1 r2 r3 r4
  simp [results, Try.results55, go_sem, r0, r1, r2, r3, r4]
/-- No frame of nothing. -/
abbrev zfrm : Value := .agg #[.int .u64 0, .int .u64 0, .int .i64 0, .int .i64 0, .string ⟨([] : List UInt8).toArray⟩]
set_option maxRecDepth 100000 in
set_option maxHeartbeats 2000000 in
theorem fof_bad (id first i : Nat) (xs : List UInt8) (A : Option Addr) (n c : Nat) (w : World) (hx : RdB w A n c xs) (h1 : 100 * i < n) (h2 : n ≤ 3192) (h3 : first < 2147483648) (h4 : 2147483648 ≤ id ∨ 2147483648 ≤ first + i) :
    Calls Try.prog 55 #[.int .u64 id, .int .u64 first, .slice A n c, .int .i64 i] w fun e w' => e = .returned (.tuple #[zfrm, .int .i64 3]) ∧ Below w.heap.size w w' := by
  have hxl := hx.blen
  have hok : lenOk ((100 * i : Nat) : Int) n = true := lenOk_nat.2 ⟨by omega, h2, h1, by omega⟩
  have KL := fun W => Lib.hid (flen_any ((100 * i : Nat) : Int) n W)
  rw [hok, if_pos rfl, show min 100 ((n : Int) - ((100 * i : Nat) : Int)) = ((min 100 (n - 100 * i) : Nat) : Int) by omega] at KL
  have KC := fun W => Lib.hid (fcheck_any (first + i) id ((100 * i : Nat) : Int) n ((xs.drop (100 * i)).take (min 100 (n - 100 * i))) W (by rw [List.length_take]; omega))
  rw [mayF_no (.inr (by omega)), if_neg (by decide)] at KC
  have hB := (one_cells w #[.int .u64 0, .int .u64 0, .int .i64 0, .int .i64 0, .string ⟨([] : List UInt8).toArray⟩] 66).1
  have hh0 := alloc_new w (.cells #[.int .u64 0, .int .u64 0, .int .i64 0, .int .i64 0, .string ⟨([] : List UInt8).toArray⟩] 66 (0, 0))
  have e1 : (i : Int) * 100 = ((100 * i : Nat) : Int) := by omega
  have e3 : (first : Int) + (i : Int) = ((first + i : Nat) : Int) := by omega
  have hi0 : 0 ≤ (i : Int) := by omega
  have hi1 : (i : Int) ≤ 3192 := by omega
  have e2 : IntKind.u64.wrap (i : Int) = i := by rw [wrap_u64]; omega
  have e4 : IntKind.u64.wrap ((first + i : Nat) : Int) = ((first + i : Nat) : Int) := by rw [wrap_u64]; omega
  have k1 : decide ((2147483648 : Int) ≤ first) = false := by rw [decide_eq_false_iff_not]; omega
  have hlast : 100 * i + min 100 (n - 100 * i) ≤ n := by omega
  obtain ⟨ad, rfl⟩ := hx.some_of_pos (by omega)
  have hcne : ¬ (c = 100 * i) := by have := hx.nc; omega
  have hrc := hx.bsliced (100 * i) (100 * i + min 100 (n - 100 * i)) (by omega) hlast
  rw [if_neg hcne, show 100 * i + min 100 (n - 100 * i) - 100 * i = min 100 (n - 100 * i) by omega, Option.map_some] at hrc
  have e5 : ((100 * i : Nat) : Int) + ((min 100 (n - 100 * i) : Nat) : Int) = ((100 * i + min 100 (n - 100 * i) : Nat) : Int) := by omega
  have hzl : 100 * i + min 100 (n - 100 * i) - 100 * i = min 100 (n - 100 * i) := by omega
  have hmz : 100 * i ≤ 100 * i + min 100 (n - 100 * i) := by omega
  have hnc := hx.nc
  have hcm := hx.cm
  unfold maxLen at hcm
  clear h4 h3 hok hxl
  generalize first + i = q at *
  generalize 100 * i = m at *
  generalize min 100 (n - m) = l at *
  generalize (xs.drop m).take l = d at *
  generalize m + l = z at *
  generalize hZ : w.alloc (.cells #[.int .u64 0, .int .u64 0, .int .i64 0, .int .i64 0, .string ⟨([] : List UInt8).toArray⟩] 66) = w0 at *
  replace hrc := hrc.below hB
  have hb1 := (one_cells w0 (frmCs q id m n []) 66).1
  have hh1 := alloc_new w0 (.cells (frmCs q id m n []) 66 (0, 0))
  have hh0' := heap_below hb1 hh0
  replace hrc := hrc.below hb1
  have hlt := heap_lt hh0
  obtain ⟨⟨q0, q1, q2, q3, q4⟩, f0, f1, f2, f3, f4⟩ := five_cells hh1
  go_enter Try.func55, Try.ntmps55
  go_wp2_with fail
  refine (KL _).out.mono ?_
  rintro e w' ⟨rfl, rfl⟩
  replace hB := below_trans hB hb1
  generalize hZ1 : w0.alloc (.cells (frmCs q id m n []) 66) = w1 at *
  have hks := run_string_of (P := Try.prog) 22 9 5 Try.underlying22 Try.underlying5 Try.underlying9 hrc
  have hh2 := set_heap (o := 4) hh1 (.string ⟨d.toArray⟩)
  have hg2 := gb_set w1 w0.heap.size 4 (.string ⟨d.toArray⟩)
  have hh0'' := gb_heap hg2 hh0' (by simp; omega)
  replace hB := below_gbw hg2 hB (by omega)
  obtain ⟨⟨p0, p1, p2, p3, p4⟩, -⟩ := five_cells (a := .int .u64 q) (b := .int .u64 id) (c := .int .i64 m) (d := .int .i64 n) (e := .string ⟨d.toArray⟩) hh2
  clear KL e3 e4 hh1 hh0' hh0 hZ hb1 hx hg2
  go_wp2_with fail
  generalize hZ2 : w1.setCell ⟨w0.heap.size, 4, none⟩ (.string ⟨d.toArray⟩) = w2 at *
  refine (KC _).out.mono ?_
  rintro e w3 ⟨rfl, hb⟩
  have hh3 := heap_below hb hh2
  have hh4 := heap_below hb hh0''
  replace hB := below_trans hB hb
  clear KC hb hh2 hh0'' p0 p1 p2 p3 p4 q0 q1 q2 q3 q4 f0 f1 f2 f3 f4 hZ1 hZ2 hks
  obtain ⟨⟨p0, p1, p2, p3, p4⟩, -⟩ := five_cells (a := .int .u64 q) (b := .int .u64 id) (c := .int .i64 m) (d := .int .i64 n) (e := .string ⟨d.toArray⟩) hh3
  obtain ⟨⟨z0, z1, z2, z3, z4⟩, f0, f1, f2, f3, f4⟩ := five_cells hh4
  have hh5 := five_heap hh4 (.int .u64 0) (.int .u64 0) (.int .i64 0) (.int .i64 0) (.string ⟨([] : List UInt8).toArray⟩)
  have hB6 := below_gbw (five_gb w3 w.heap.size (.int .u64 0) (.int .u64 0) (.int .i64 0) (.int .i64 0) (.string ⟨([] : List UInt8).toArray⟩)) hB (Nat.le_refl _)
  go_wp2_with fail
  obtain ⟨⟨r0, r1, r2, r3, r4⟩, -⟩ := five_cells hh5
  refine bodyPost_ret (v := .tuple #[zfrm, .int .i64 3]) ?_ rfl ⟨rfl, hB6⟩
  simp only [five] at r0 r1 r2 r3 r4
  simp [results, Try.results55, go_sem, r0, r1, r2, r3, r4]

set_option maxRecDepth 100000 in
set_option maxHeartbeats 2000000 in
theorem fof_out (id first : Nat) (i : Int) (xs : List UInt8) (A : Option Addr) (n c : Nat) (w : World) (hx : RdB w A n c xs) (h : i < 0 ∨ 3192 < i) :
    Calls Try.prog 55 #[.int .u64 id, .int .u64 first, .slice A n c, .int .i64 i] w fun e w' => e = .returned (.tuple #[zfrm, .int .i64 3]) ∧ Below w.heap.size w w' := by
  have hB := (one_cells w #[.int .u64 0, .int .u64 0, .int .i64 0, .int .i64 0, .string ⟨([] : List UInt8).toArray⟩] 66).1
  have hh0 := alloc_new w (.cells #[.int .u64 0, .int .u64 0, .int .i64 0, .int .i64 0, .string ⟨([] : List UInt8).toArray⟩] 66 (0, 0))
  generalize hZ : w.alloc (.cells #[.int .u64 0, .int .u64 0, .int .i64 0, .int .i64 0, .string ⟨([] : List UInt8).toArray⟩] 66) = w0 at *
  obtain ⟨⟨z0, z1, z2, z3, z4⟩, f0, f1, f2, f3, f4⟩ := five_cells hh0
  have hh5 := five_heap hh0 (.int .u64 0) (.int .u64 0) (.int .i64 0) (.int .i64 0) (.string ⟨([] : List UInt8).toArray⟩)
  have hB6 := below_gbw (five_gb w0 w.heap.size (.int .u64 0) (.int .u64 0) (.int .i64 0) (.int .i64 0) (.string ⟨([] : List UInt8).toArray⟩)) hB (Nat.le_refl _)
  rcases h with h | h
  case' inr => have h9 : ¬ (i < 0) := by omega
  all_goals
    go_enter Try.func55, Try.ntmps55
    go_wp2_with fail
    obtain ⟨⟨r0, r1, r2, r3, r4⟩, -⟩ := five_cells hh5
    refine bodyPost_ret (v := .tuple #[zfrm, .int .i64 3]) ?_ rfl ⟨rfl, hB6⟩
    simp only [five] at r0 r1 r2 r3 r4
    simp [results, Try.results55, go_sem, r0, r1, r2, r3, r4]

end Go.Proofs.Ythkabhejfkekjaa
