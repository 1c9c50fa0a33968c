/- Layer 5 (head): what bytes begin with; what must come at any rate. -/
import Derived.Test.YthkabhejfkekjaaHead3
namespace Go.Proofs.Ythkabhejfkekjaa
open Go.RowKit

/-- Do bytes begin so? -/
def isB (xs ys : List UInt8) : Bool := decide (ys.length ≤ xs.length) && (xs.take ys.length == ys)

set_option maxRecDepth 100000 in
set_option maxHeartbeats 1000000 in
theorem his_any (xs ys : List UInt8) (A B : Option Addr) (n c n2 c2 : Nat) (w : World) (hx : RdB w A n c xs) (hy : RdB w B n2 c2 ys) :
    Calls Try.prog 46 #[.slice A n c, .slice B n2 c2] w fun e w' => e = .returned (.bool (isB xs ys)) ∧ Below w.heap.size w w' := by
  have hB := Below.refl w.heap.size w
  have hm := hx.cm
  have hnc := hx.nc
  have hm2 := hy.cm
  have hnc2 := hy.nc
  unfold maxLen at hm hm2
  have HI : Hid (isB xs ys = (decide (n2 ≤ n) && (xs.take n2 == ys))) := by show _ = _; unfold isB; rw [hx.blen, hy.blen]
  generalize isB xs ys = r at *
  by_cases h : n2 ≤ n
  · have hk1 := fun j => run_string_of (P := Try.prog) 22 9 5 Try.underlying22 Try.underlying5 Try.underlying9 ((hx.btake n2 h).below (below_drewN (Below.refl _ _) j))
    have hk2 := fun j => run_string_of (P := Try.prog) 22 9 5 Try.underlying22 Try.underlying5 Try.underlying9 (hy.below (below_drewN (Below.refl _ _) j))
    have h1 : (n2 : Int) ≤ n := by omega
    have h2 : (n2 : Int) ≤ c := by omega
    go_enter Try.func46, Try.ntmps46
    go_wp2_with fail
    go_quiet (fail)
    go_wp2_with fail
    go_ret
    exact ⟨ret_bool (by rw [HI.out]; simp [h]), below_drewN hB _⟩
  · go_enter Try.func46, Try.ntmps46
    have h1 : ¬ ((n2 : Int) ≤ n) := by omega
    have h2 : (n : Int) < n2 := by omega
    go_wp2_with fail
    go_quiet (fail)
    go_wp2_with fail
    go_ret
    exact ⟨ret_bool (by rw [HI.out]; simp [h]), below_drewN hB _⟩
theorem hopen_any (w : World) : Calls Try.prog 77 #[] w fun e w' => e = .returned (.slice (some ⟨w.heap.size, 0, none⟩) 1 1) ∧ RdB w' (some ⟨w.heap.size, 0, none⟩) 1 1 [159] ∧ Below w.heap.size w w' := by
  go_enter Try.func77, Try.ntmps77
  go_wp2
  go_ret
  exact ⟨rfl, rd_one rfl, (Below.refl _ _).alloc (Nat.le_refl _) _⟩
theorem hbreak_any (w : World) : Calls Try.prog 47 #[] w fun e w' => e = .returned (.slice (some ⟨w.heap.size, 0, none⟩) 1 1) ∧ RdB w' (some ⟨w.heap.size, 0, none⟩) 1 1 [255] ∧ Below w.heap.size w w' := by
  go_enter Try.func47, Try.ntmps47
  go_wp2
  go_ret
  exact ⟨rfl, rd_one rfl, (Below.refl _ _).alloc (Nat.le_refl _) _⟩

/-- A Put of a kind that there is none of. -/
theorem hput_bad (m n : Int) (w : World) (hm : m < 0 ∨ 7 < m) :
    Calls Try.prog 41 #[.int .i64 m, .int .u64 n] w fun e w' => e = .returned (.tuple #[.slice none 0 0, .int .i64 2]) ∧ w = w' := by
  rcases hm with h | h
  · go_enter Try.func41, Try.ntmps41
    go_wp2
    go_ret2
    exact ⟨rfl, rfl⟩
  · have h0 : ¬ m < 0 := by omega
    go_enter Try.func41, Try.ntmps41
    go_wp2
    go_ret2
    exact ⟨rfl, rfl⟩

set_option maxRecDepth 100000 in
set_option maxHeartbeats 2000000 in
theorem awake05_any (w : World) : Calls Try.prog 40 #[] w fun e w' => e = .returned (.bool true) ∧ Below w.heap.size w w' := by
  have hB := Below.refl w.heap.size w
  have KP := Lib.hid (hput_any 2 300 w (by omega) (by omega))
  have KG := fun A W h => Lib.hid (hget_any [89, 1, 44, 7] A 4 4 W h (by omega))
  have KS := fun W => Lib.hid (size_any 300 W (by omega))
  have KI := fun A B W h1 h2 => Lib.hid (his_any [159] [159] A B 1 1 1 1 W h1 h2)
  simp only [show hget [89, 1, 44, 7] = (2, 300, 3, 0) from by decide +kernel, show headB 2 300 = [89, 1, 44] from by decide +kernel, show 1 + wideN 300 = 3 from rfl, show isB [159] [159] = true from rfl] at KP KG KS KI
  go_enter Try.func40, Try.ntmps40
  go_wp2_with fail
  refine KP.out.mono ?_
  rintro e w1 ⟨v, rfl, ho, hb⟩
  obtain ⟨A1, c1, rfl, hr, -⟩ := Rd.of_own ho
  replace hB := below_trans hB hb
  clear hb ho KP
  have h4 : RdB (w1.alloc (.cells #[.int .u8 89, .int .u8 1, .int .u8 44, .int .u8 7] 5)) (some ⟨w1.heap.size, 0, none⟩) 4 4 [89, 1, 44, 7] := cells_rd' rfl (by decide)
  have hb4 := (one_cells w1 #[.int .u8 89, .int .u8 1, .int .u8 44, .int .u8 7] 5).1
  go_wp2_with fail
  refine (KG _ _ h4).out.mono ?_
  rintro e w2 ⟨rfl, hb⟩
  replace hB := below_trans (below_trans hB hb4) hb
  replace hr := (hr.below hb4).below hb
  have ks := run_string_of (P := Try.prog) 22 9 5 Try.underlying22 Try.underlying5 Try.underlying9 hr
  clear hb hb4 h4 KG
  go_wp2_with (first
    | (go_at_call 44; refine (KS _).out.mono ?_; rintro e w3 ⟨rfl, hb⟩; replace hB := below_trans hB hb; clear hb)
    | (go_at_call 77; refine (hopen_any _).mono ?_; rintro e w4 ⟨rfl, hr4, hb⟩; replace hB := below_trans hB hb; clear hb)
    | fail)
  have hb5 := (one_cells w4 #[.int .u8 159] 5).1
  refine (KI _ _ _ (hr4.below hb5) (rd_one rfl)).out.mono ?_
  rintro e w5 ⟨rfl, hb⟩
  replace hB := below_trans (below_trans hB hb5) hb
  clear hb hb5 hr4 KI
  go_wp2_with fail
  go_ret
  exact ⟨rfl, hB⟩
end Go.Proofs.Ythkabhejfkekjaa
