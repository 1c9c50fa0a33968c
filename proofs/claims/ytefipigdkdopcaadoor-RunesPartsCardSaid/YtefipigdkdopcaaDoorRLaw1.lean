/- The law RunesParts of layer 4, walked. Asked: what the library's variables hold. -/
import Derived.Test.YtefipigdkdopcaaDoorAw3
namespace Go.Proofs.YtefipigdkdopcaaDoor
open Go.RowKit

set_option maxRecDepth 100000 in
theorem runesparts_law (s : List UInt8) (w : World) (hL : LV w) : Calls Tryd.prog 6 #[.string ⟨s.toArray⟩] w fun e w' => e = .returned (.bool true) ∧ Below w.heap.size w w' := by
  have KA := Lib.hid (awake04_any w hL)
  clear hL
  by_cases hn : 300 < s.length
  · go_enter Tryd.func6, Tryd.ntmps6
    go_wp2_with fail
    refine KA.out.mono ?_
    rintro e w1 ⟨rfl, hb⟩
    go_wp2_with fail
    go_ret
    exact ⟨rfl, hb⟩
  · have KW := fun W => Lib.hid (words_rd s W (by omega))
    have KL := fun W => Lib.hid (lines_rd s W (by omega))
    have KS1 : ∀ W, Hid (Calls Tryd.prog 22 #[.string ⟨s.toArray⟩, .int .u8 32, .int .u8 9, .bool true] W fun e w' => ∃ A c, e = .returned (.slice A (split2 32 9 true s).length c) ∧ RdS w' A (split2 32 9 true s).length c (split2 32 9 true s) ∧ Below W.heap.size W w') := fun W => Lib.hid (split_rd s 32 9 true 32 9 rfl rfl W (by omega))
    have KS2 : ∀ W, Hid (Calls Tryd.prog 22 #[.string ⟨s.toArray⟩, .int .u8 10, .int .u8 10, .bool false] W fun e w' => ∃ A c, e = .returned (.slice A (split2 10 10 false s).length c) ∧ RdS w' A (split2 10 10 false s).length c (split2 10 10 false s) ∧ Below W.heap.size W w') := fun W => Lib.hid (split_rd s 10 10 false 10 10 rfl rfl W (by omega))
    have KT : ∀ (l : List (List UInt8)) A B c k W, l.length ≤ 1000000 → Hid (RdS W A l.length c l) → Hid (RdS W B l.length k l) → Hid (Calls Tryd.prog 20 #[.slice A l.length c, .slice B l.length k] W fun e w' => e = .returned (.bool true) ∧ Below W.heap.size W w') := fun l A B c k W h h1 h2 => Lib.hid (texts_same l A B c k W h1.out h2.out h)
    have hl1 := split2_len 32 9 true s
    have hl2 := split2_len 10 10 false s
    generalize split2 32 9 true s = l1 at *
    generalize split2 10 10 false s = l2 at *
    go_enter Tryd.func6, Tryd.ntmps6
    go_wp2_with fail
    refine KA.out.mono ?_
    rintro e w1 ⟨rfl, hB⟩
    go_wp2_with fail
    refine (KW _).out.mono ?_
    rintro e w2 ⟨A, c, rfl, hr, hb⟩
    have HR := Lib.hid hr
    replace hB := below_trans hB hb
    clear hb hr
    go_wp2_with fail
    refine (KS1 _).out.mono ?_
    rintro e w3 ⟨B, k, rfl, hr, hb⟩
    have HR3 := Lib.hid (HR.out.below hb)
    have HS3 := Lib.hid hr
    replace hB := below_trans hB hb
    clear hb hr HR
    go_wp2_with fail
    refine (KT l1 _ _ _ _ _ (by omega) HR3 HS3).out.mono ?_
    rintro e w4 ⟨rfl, hb⟩
    replace hB := below_trans hB hb
    clear hb HR3 HS3
    go_wp2_with fail
    refine (KL _).out.mono ?_
    rintro e w5 ⟨A2, c2, rfl, hr, hb⟩
    have HR := Lib.hid hr
    replace hB := below_trans hB hb
    clear hb hr
    go_wp2_with fail
    refine (KS2 _).out.mono ?_
    rintro e w6 ⟨B2, k2, rfl, hr, hb⟩
    have HR3 := Lib.hid (HR.out.below hb)
    have HS3 := Lib.hid hr
    replace hB := below_trans hB hb
    clear hb hr HR
    go_wp2_with fail
    refine (KT l2 _ _ _ _ _ (by omega) HR3 HS3).out.mono ?_
    rintro e w7 ⟨rfl, hb⟩
    replace hB := below_trans hB hb
    clear hb HR3 HS3
    go_wp2_with fail
    go_ret
    exact ⟨rfl, hB⟩
end Go.Proofs.YtefipigdkdopcaaDoor
