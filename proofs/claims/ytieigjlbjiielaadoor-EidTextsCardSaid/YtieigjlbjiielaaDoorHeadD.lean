/- Contracts of layer 5 (head). -/
import Derived.Test.YtieigjlbjiielaaDoorBe2D
import Derived.Test.YtieigjlbjiielaaDoorHeadPlainD
import Derived.Deep.RegionWith
namespace Go.Proofs.YtieigjlbjiielaaDoor
open Go.RowKit

set_option maxRecDepth 100000 in
theorem wide1_any (b n g : Nat) (w : World) (hb : b = 8 ∨ b = 16 ∨ b = 32) (hn : n < 18446744073709551616) (hc : w.cell? ⟨g, 0, none⟩ = some (.int .u64 (n : Int))) :
    Calls Tryd.prog 65 #[.int .i64 b, .pointer (some ⟨g, 0, none⟩)] w fun e w' => e = .returned (.bool (decide (n < 2 ^ b))) ∧ w = w' := by
  have Hn := Lib.hid hn
  clear hn
  rcases hb with rfl | rfl | rfl
  · have Hd : Hid (decide (n < 2 ^ 8) = decide ((n : Int) / 256 = 0)) := by show _ = _; rw [decide_eq_decide]; omega
    generalize decide (n < 2 ^ 8) = d at *
    go_enter Tryd.func65, Tryd.ntmps65
    go_wp2
    go_ret
    exact ⟨ret_bool Hd.out.symm, rfl⟩
  · have Hd : Hid (decide (n < 2 ^ 16) = decide ((n : Int) / 65536 = 0)) := by show _ = _; rw [decide_eq_decide]; omega
    generalize decide (n < 2 ^ 16) = d at *
    go_enter Tryd.func65, Tryd.ntmps65
    go_wp2
    go_ret
    exact ⟨ret_bool Hd.out.symm, rfl⟩
  · have Hd : Hid (decide (n < 2 ^ 32) = decide ((n : Int) / 4294967296 = 0)) := by show _ = _; rw [decide_eq_decide]; omega
    generalize decide (n < 2 ^ 32) = d at *
    go_enter Tryd.func65, Tryd.ntmps65
    go_wp2
    go_ret
    exact ⟨ret_bool Hd.out.symm, rfl⟩

set_option maxRecDepth 100000 in
set_option maxHeartbeats 1000000 in
theorem wide_any (n : Nat) (w : World) (hn : n < 18446744073709551616) :
    Calls Tryd.prog 57 #[.int .u64 n] w fun e w' => e = .returned (.int .i64 (wideN n : Nat)) ∧ Below w.heap.size w w' := by
  have hB : Below w.heap.size w (w.alloc (.cells #[.int .u64 (n : Int)] 22)) := (Below.refl _ _).alloc (Nat.le_refl _) _
  have hh := alloc_new w (.cells #[.int .u64 (n : Int)] 22 (0, 0))
  have hc : (w.alloc (.cells #[.int .u64 (n : Int)] 22)).cell? ⟨w.heap.size, 0, none⟩ = some (.int .u64 (n : Int)) := cell_heap hh
  have K8 := Lib.hid (wide1_any 8 n w.heap.size _ (.inl rfl) hn hc)
  have K16 := Lib.hid (wide1_any 16 n w.heap.size _ (.inr (.inl rfl)) hn hc)
  have K32 := Lib.hid (wide1_any 32 n w.heap.size _ (.inr (.inr rfl)) hn hc)
  have Hn := Lib.hid hn
  clear hn
  have HW : Hid (wideN n = if n < 24 then 0 else if n < 2 ^ 8 then 1 else if n < 2 ^ 16 then 2 else if n < 2 ^ 32 then 4 else 8) := rfl
  generalize wideN n = r at *
  generalize hd8 : decide (n < 2 ^ 8) = d8 at *
  generalize hd16 : decide (n < 2 ^ 16) = d16 at *
  generalize hd32 : decide (n < 2 ^ 32) = d32 at *
  have H8 := Lib.hid hd8
  have H16 := Lib.hid hd16
  have H32 := Lib.hid hd32
  clear hd8 hd16 hd32
  by_cases h24 : n < 24
  · have hr : r = 0 := by rw [HW.out, if_pos h24]
    subst hr
    go_enter Tryd.func57, Tryd.ntmps57
    go_wp2_with fail
    go_ret
    exact ⟨rfl, hB⟩
  · cases d8 with
    | true =>
      have hr : r = 1 := by rw [HW.out, if_neg h24, if_pos (of_decide_eq_true H8.out)]
      subst hr
      go_enter Tryd.func57, Tryd.ntmps57
      go_wp2_with (first
        | (go_at_call_of 65 (Value.int IntKind.i64 8); refine K8.out.mono ?_; rintro e w2 ⟨rfl, rfl⟩))
      go_ret
      exact ⟨rfl, hB⟩
    | false =>
      cases d16 with
      | true =>
        have hr : r = 2 := by rw [HW.out, if_neg h24, if_neg (of_decide_eq_false H8.out), if_pos (of_decide_eq_true H16.out)]
        subst hr
        go_enter Tryd.func57, Tryd.ntmps57
        go_wp2_with (first
          | (go_at_call_of 65 (Value.int IntKind.i64 8); refine K8.out.mono ?_; rintro e w2 ⟨rfl, rfl⟩)
          | (go_at_call_of 65 (Value.int IntKind.i64 16); refine K16.out.mono ?_; rintro e w2 ⟨rfl, rfl⟩))
        go_ret
        exact ⟨rfl, hB⟩
      | false =>
        cases d32 with
        | true =>
          have hr : r = 4 := by rw [HW.out, if_neg h24, if_neg (of_decide_eq_false H8.out), if_neg (of_decide_eq_false H16.out), if_pos (of_decide_eq_true H32.out)]
          subst hr
          go_enter Tryd.func57, Tryd.ntmps57
          go_wp2_with (first
            | (go_at_call_of 65 (Value.int IntKind.i64 8); refine K8.out.mono ?_; rintro e w2 ⟨rfl, rfl⟩)
            | (go_at_call_of 65 (Value.int IntKind.i64 16); refine K16.out.mono ?_; rintro e w2 ⟨rfl, rfl⟩)
            | (go_at_call_of 65 (Value.int IntKind.i64 32); refine K32.out.mono ?_; rintro e w2 ⟨rfl, rfl⟩))
          go_ret
          exact ⟨rfl, hB⟩
        | false =>
          have hr : r = 8 := by rw [HW.out, if_neg h24, if_neg (of_decide_eq_false H8.out), if_neg (of_decide_eq_false H16.out), if_neg (of_decide_eq_false H32.out)]
          subst hr
          go_enter Tryd.func57, Tryd.ntmps57
          go_wp2_with (first
            | (go_at_call_of 65 (Value.int IntKind.i64 8); refine K8.out.mono ?_; rintro e w2 ⟨rfl, rfl⟩)
            | (go_at_call_of 65 (Value.int IntKind.i64 16); refine K16.out.mono ?_; rintro e w2 ⟨rfl, rfl⟩)
            | (go_at_call_of 65 (Value.int IntKind.i64 32); refine K32.out.mono ?_; rintro e w2 ⟨rfl, rfl⟩))
          go_ret
          exact ⟨rfl, hB⟩

theorem hinfo_any (k : Nat) (w : World) (hk : k ≤ 8) :
    Calls Tryd.prog 59 #[.int .i64 k] w fun e w' => e = .returned (.int .i64 (infoN k : Nat)) ∧ w = w' := by
  unfold infoN
  by_cases h1 : k = 1
  · subst h1
    go_enter Tryd.func59, Tryd.ntmps59
    go_wp2
    go_ret
    exact ⟨rfl, rfl⟩
  · by_cases h2 : k = 2
    · subst h2
      go_enter Tryd.func59, Tryd.ntmps59
      go_wp2
      go_ret
      exact ⟨rfl, rfl⟩
    · by_cases h4 : k = 4
      · subst h4
        go_enter Tryd.func59, Tryd.ntmps59
        go_wp2
        go_ret
        exact ⟨rfl, rfl⟩
      · have i1 : ¬ ((k : Int) = 1) := by omega
        have i2 : ¬ ((k : Int) = 2) := by omega
        have i4 : ¬ ((k : Int) = 4) := by omega
        rw [if_neg h1, if_neg h2, if_neg h4]
        go_enter Tryd.func59, Tryd.ntmps59
        go_wp2
        go_ret
        exact ⟨rfl, rfl⟩

