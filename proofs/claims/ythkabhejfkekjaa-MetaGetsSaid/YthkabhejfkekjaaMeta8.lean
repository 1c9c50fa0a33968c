/- Layer 26 (meta): what must come at any rate. No condition. -/
import Derived.Test.YthkabhejfkekjaaMeta7
import Derived.Test.YthkabhejfkekjaaMeta5
namespace Go.Proofs.Ythkabhejfkekjaa
open Go.RowKit

abbrev rc0 (A : Option Addr) (n c : Nat) : Value := .agg #[.int .u64 3, .int .u64 9, .int .i64 1, .int .i64 5, .int .u64 7, .bool true, .int .i64 4, .slice A n c]
abbrev rcs0 (A : Option Addr) (n c : Nat) : Array Value := #[.int .u64 3, .int .u64 9, .int .i64 1, .int .i64 5, .int .u64 7, .bool true, .int .i64 4, .slice A n c]
theorem mayM0 : MayM 3 9 1 5 7 4 [2] := ⟨by decide, by decide, by decide, by decide, by decide, by decide, by decide, by decide, by decide, by decide, by decide⟩
theorem rc_cells (w : World) (A : Option Addr) (n c : Nat) (T : TypeId) :
    Below w.heap.size w (w.alloc (.cells (rcs0 A n c) T)) ∧
    ((w.alloc (.cells (rcs0 A n c) T)).cell? ⟨w.heap.size, 0, none⟩ = some (.int .u64 3) ∧ (w.alloc (.cells (rcs0 A n c) T)).cell? ⟨w.heap.size, 1, none⟩ = some (.int .u64 9) ∧ (w.alloc (.cells (rcs0 A n c) T)).cell? ⟨w.heap.size, 2, none⟩ = some (.int .i64 1) ∧ (w.alloc (.cells (rcs0 A n c) T)).cell? ⟨w.heap.size, 3, none⟩ = some (.int .i64 5) ∧ (w.alloc (.cells (rcs0 A n c) T)).cell? ⟨w.heap.size, 4, none⟩ = some (.int .u64 7) ∧ (w.alloc (.cells (rcs0 A n c) T)).cell? ⟨w.heap.size, 5, none⟩ = some (.bool true) ∧ (w.alloc (.cells (rcs0 A n c) T)).cell? ⟨w.heap.size, 6, none⟩ = some (.int .i64 4) ∧ (w.alloc (.cells (rcs0 A n c) T)).cell? ⟨w.heap.size, 7, none⟩ = some (.slice A n c)) := by
  obtain ⟨h, hc⟩ := one_cells w (rcs0 A n c) T
  exact ⟨h, hc 0 _ rfl, hc 1 _ rfl, hc 2 _ rfl, hc 3 _ rfl, hc 4 _ rfl, hc 5 _ rfl, hc 6 _ rfl, hc 7 _ rfl⟩

set_option maxRecDepth 100000 in
set_option maxHeartbeats 4000000 in
theorem awake26_any (w : World) : Calls Try.prog 61 #[] w fun e w' => e = .returned (.bool true) ∧ Below w.heap.size w w' := by
  have hB := (one_cells w #[.int .i64 2] 3).1
  have hr0 : RdI (w.alloc (.cells #[.int .i64 2] 3)) (some ⟨w.heap.size, 0, none⟩) 1 1 (ints [2]) := cells_rd' rfl (by decide)
  obtain ⟨xs, hxs⟩ : ∃ xs, xs = recB 3 9 1 5 7 1 [2] := ⟨_, rfl⟩
  have hl : xs.length = 23 := by rw [hxs, recB_length]; rfl
  have KP : ∀ A W, RdI W A 1 1 (ints [2]) → Hid (Calls Try.prog 62 #[rc0 A 1 1] W fun e w' => e = .returned (.tuple #[.string ⟨xs.toArray⟩, .int .i64 0]) ∧ Below W.heap.size W w') := fun A W hh => by
    rw [hxs]; exact Lib.hid (mput_any 3 9 1 5 7 true 4 [2] A 1 1 W hh mayM0)
  have KG : ∀ W, Hid (Calls Try.prog 67 #[.string ⟨xs.toArray⟩, .int .i64 4] W fun e w' => ∃ A n c, e = .returned (.tuple #[rc0 A n c, .int .i64 0]) ∧ RdI w' A n c (ints [2]) ∧ Below W.heap.size W w') := fun W => by
    rw [hxs]; exact Lib.hid (mget_ok 3 9 1 5 7 true 4 [2] W mayM0)
  have KS : ∀ A c B W, RdI W A 1 c (ints [2]) → RdI W B 1 1 (ints [2]) → Hid (Calls Try.prog 65 #[rc0 A 1 c, rc0 B 1 1] W fun e w' => e = .returned (.bool true) ∧ Below W.heap.size W w') := fun A c B W h1 h2 =>
    Lib.hid (msame_any 3 9 1 5 7 true 4 (ints [2]) 3 9 1 5 7 true 4 (ints [2]) A B 1 c 1 1 W h1 h2 (by decide) (by decide))
  have KU : ∀ W, Hid (Calls Try.prog 70 #[.int .u64 3, .int .u64 10] W fun e w' => e = .returned (.tuple #[.string ⟨#[0, 0, 0, 3, 0, 0, 0, 10]⟩, .int .i64 0]) ∧ Below W.heap.size W w') := fun W => Lib.hid (super_yes 3 10 W (by decide) (by decide))
  have KC : ∀ W, Hid (Calls Try.prog 71 #[.string ⟨#[0, 0, 0, 3, 0, 0, 0, 10]⟩] W fun e w' => e = .returned (.tuple #[.int .u64 3, .int .u64 10, .int .i64 0]) ∧ Below W.heap.size W w') := fun W => Lib.hid (counters_any 3 10 0 [0, 0, 0, 3, 0, 0, 0, 10] W (by decide) (cntF_put 3 10 (by decide) (by decide)))
  clear hxs
  go_enter Try.func61, Try.ntmps61
  obtain ⟨hb1, a0, a1, a2, a3, a4, a5, a6, a7⟩ := rc_cells (w.alloc (.cells #[.int .i64 2] 3)) (some ⟨w.heap.size, 0, none⟩) 1 1 91
  replace hB := below_trans hB hb1
  replace hr0 := hr0.below hb1
  rw [alloc_size] at a0 a1 a2 a3 a4 a5 a6 a7
  go_upto_region 2 with fail
  generalize (w.alloc (.cells #[.int .i64 2] 3)).alloc (.cells (rcs0 (some ⟨w.heap.size, 0, none⟩) 1 1) 91) = w1 at *
  clear hb1
  go_wp2_with fail
  refine (KP _ _ hr0).out.mono ?_
  rintro e w2 ⟨rfl, hb⟩
  replace hB := below_trans hB hb
  replace hr0 := hr0.below hb
  replace a0 := cell_below hb a0
  replace a1 := cell_below hb a1
  replace a2 := cell_below hb a2
  replace a3 := cell_below hb a3
  replace a4 := cell_below hb a4
  replace a5 := cell_below hb a5
  replace a6 := cell_below hb a6
  replace a7 := cell_below hb a7
  clear hb KP
  go_wp2_with fail
  refine (KG _).out.mono ?_
  rintro e w3 ⟨A3, n3, c3, rfl, hr3, hb⟩
  have hn3 : n3 = 1 := by have := hr3.ilen; simpa [ints] using this.symm
  subst hn3
  replace hB := below_trans hB hb
  replace hr0 := hr0.below hb
  replace a0 := cell_below hb a0
  replace a1 := cell_below hb a1
  replace a2 := cell_below hb a2
  replace a3 := cell_below hb a3
  replace a4 := cell_below hb a4
  replace a5 := cell_below hb a5
  replace a6 := cell_below hb a6
  replace a7 := cell_below hb a7
  clear hb KG
  obtain ⟨hb1, b0, b1, b2, b3, b4, b5, b6, b7⟩ := rc_cells w3 A3 1 c3 91
  replace hB := below_trans hB hb1
  replace hr0 := hr0.below hb1
  replace hr3 := hr3.below hb1
  replace a0 := cell_below hb1 a0
  replace a1 := cell_below hb1 a1
  replace a2 := cell_below hb1 a2
  replace a3 := cell_below hb1 a3
  replace a4 := cell_below hb1 a4
  replace a5 := cell_below hb1 a5
  replace a6 := cell_below hb1 a6
  replace a7 := cell_below hb1 a7
  go_upto_region 4 with fail
  generalize w3.alloc (.cells (rcs0 A3 1 c3) 91) = w4 at *
  clear hb1
  go_wp2_with fail
  refine (KU _).out.mono ?_
  rintro e w5 ⟨rfl, hb⟩
  replace hB := below_trans hB hb
  replace hr0 := hr0.below hb
  replace hr3 := hr3.below hb
  replace a0 := cell_below hb a0
  replace b0 := cell_below hb b0
  replace a1 := cell_below hb a1
  replace b1 := cell_below hb b1
  replace a2 := cell_below hb a2
  replace b2 := cell_below hb b2
  replace a3 := cell_below hb a3
  replace b3 := cell_below hb b3
  replace a4 := cell_below hb a4
  replace b4 := cell_below hb b4
  replace a5 := cell_below hb a5
  replace b5 := cell_below hb b5
  replace a6 := cell_below hb a6
  replace b6 := cell_below hb b6
  replace a7 := cell_below hb a7
  replace b7 := cell_below hb b7
  clear hb KU
  go_wp2_with fail
  refine (KC _).out.mono ?_
  rintro e w6 ⟨rfl, hb⟩
  replace hB := below_trans hB hb
  replace hr0 := hr0.below hb
  replace hr3 := hr3.below hb
  replace a0 := cell_below hb a0
  replace b0 := cell_below hb b0
  replace a1 := cell_below hb a1
  replace b1 := cell_below hb b1
  replace a2 := cell_below hb a2
  replace b2 := cell_below hb b2
  replace a3 := cell_below hb a3
  replace b3 := cell_below hb b3
  replace a4 := cell_below hb a4
  replace b4 := cell_below hb b4
  replace a5 := cell_below hb a5
  replace b5 := cell_below hb b5
  replace a6 := cell_below hb a6
  replace b6 := cell_below hb b6
  replace a7 := cell_below hb a7
  replace b7 := cell_below hb b7
  clear hb KC
  go_wp2_with fail
  refine (KS _ _ _ _ hr3 hr0).out.mono ?_
  rintro e w7 ⟨rfl, hb⟩
  go_wp2_with fail
  go_ret
  exact ⟨ret_bool (by simp), below_trans hB hb⟩
end Go.Proofs.Ythkabhejfkekjaa
