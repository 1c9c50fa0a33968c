/- What must come of layer 4 at any rate. Asked: what the library's variables hold. -/
import Derived.Test.YtefipigdkdopcaaDoorAw1
import Derived.Test.YtefipigdkdopcaaDoorAw2
import Derived.Test.YtefipigdkdopcaaDoorWords2
import Derived.Test.YtefipigdkdopcaaDoorLines
namespace Go.Proofs.YtefipigdkdopcaaDoor
open Go.RowKit

theorem words_rd (xs : List UInt8) (w : World) (hN : xs.length ≤ 100000) :
    Calls Tryd.prog 21 #[.string ⟨xs.toArray⟩] w fun e w' => ∃ A c, e = .returned (.slice A (split2 32 9 true xs).length c) ∧ RdS w' A (split2 32 9 true xs).length c (split2 32 9 true xs) ∧ Below w.heap.size w w' :=
  (words_any xs w hN).mono (fun e w' ⟨v, he, ho, hb⟩ => by
    obtain ⟨A, c, rfl, hr, -⟩ := Rd.of_own ho
    exact ⟨A, c, he, hr, hb⟩)
theorem lines_rd (xs : List UInt8) (w : World) (hN : xs.length ≤ 100000) :
    Calls Tryd.prog 23 #[.string ⟨xs.toArray⟩] w fun e w' => ∃ A c, e = .returned (.slice A (split2 10 10 false xs).length c) ∧ RdS w' A (split2 10 10 false xs).length c (split2 10 10 false xs) ∧ Below w.heap.size w w' :=
  (lines_any xs w hN).mono (fun e w' ⟨v, he, ho, hb⟩ => by
    obtain ⟨A, c, rfl, hr, -⟩ := Rd.of_own ho
    exact ⟨A, c, he, hr, hb⟩)
theorem split_rd (xs : List UInt8) (a b : UInt8) (few : Bool) (A B : Int) (hA : A = (a.toNat : Int)) (hB' : B = (b.toNat : Int)) (w : World) (hN : xs.length ≤ 100000) :
    Calls Tryd.prog 22 #[.string ⟨xs.toArray⟩, .int .u8 A, .int .u8 B, .bool few] w fun e w' => ∃ A c, e = .returned (.slice A (split2 a b few xs).length c) ∧ RdS w' A (split2 a b few xs).length c (split2 a b few xs) ∧ Below w.heap.size w w' :=
  (split_any xs a b few A B hA hB' w hN).mono (fun e w' ⟨v, he, ho, hb⟩ => by
    obtain ⟨A, c, rfl, hr, -⟩ := Rd.of_own ho
    exact ⟨A, c, he, hr, hb⟩)
theorem split2_len (a b : UInt8) (few : Bool) (s : List UInt8) : (split2 a b few s).length ≤ s.length + 1 := by
  have := (spAt_part a b few s s.length (Nat.le_refl _)).choose_spec.2.2
  unfold split2 spEnd
  split
  · rw [List.length_append, List.length_singleton]; omega
  · omega
/-- Two texts laid at once. -/
theorem two_strs (w : World) (a b : List UInt8) : Below w.heap.size w (w.alloc (.cells #[.string ⟨a.toArray⟩, .string ⟨b.toArray⟩] 9)) ∧ RdS (w.alloc (.cells #[.string ⟨a.toArray⟩, .string ⟨b.toArray⟩] 9)) (some ⟨w.heap.size, 0, none⟩) 2 2 [a, b] := by
  refine ⟨(Below.refl _ _).alloc (Nat.le_refl _) _, rfl, Nat.le_refl _, by decide, fun h => (by cases h), fun ad e j u hu => ?_⟩
  cases e
  rw [add_plain0]
  have hh := alloc_new w (.cells #[.string ⟨a.toArray⟩, .string ⟨b.toArray⟩] 9 (0, 0))
  match j, hu with
  | 0, hu => cases hu; exact cell_heap hh
  | 1, hu => cases hu; exact cell_heap hh

set_option maxRecDepth 100000 in
theorem awake04_any (w : World) (hL : LV w) : Calls Tryd.prog 7 #[] w fun e w' => e = .returned (.bool true) ∧ Below w.heap.size w w' := by
  have HLV := Lib.hid hL
  clear hL
  have KB : ∀ W, Hid (LV W) → Hid (Calls Tryd.prog 9 #[.string ⟨#[97, 92, 50, 48, 46, 92, 53, 99, 46]⟩] W fun e w' => e = .returned (.tuple #[.string ⟨#[97, 32, 92]⟩, .int .i64 0]) ∧ Below W.heap.size W w') := fun W h => Lib.hid ((rback_any [97, 92, 50, 48, 46, 92, 53, 99, 46] W (by decide) h.out).mono (fun e w' h => ⟨by rw [h.1, aw_back]; rfl, h.2⟩))
  have KN : ∀ W, Hid (Calls Tryd.prog 12 #[.string ⟨#[45, 49, 50]⟩] W fun e w' => e = .returned (.tuple #[.int .i64 (-12), .bool true]) ∧ Below W.heap.size W w') := fun W => Lib.hid ((number_any [45, 49, 50] W (by decide)).mono (fun e w' h => ⟨by rw [h.1, aw_num.1, aw_num.2], h.2⟩))
  have KE : ∀ W, Hid (LV W) → Hid (Calls Tryd.prog 8 #[.string ⟨#[97, 32, 92]⟩] W fun e w' => e = .returned (.string ⟨#[97, 92, 50, 48, 46, 92, 53, 99, 46]⟩) ∧ Below W.heap.size W w') := fun W h => Lib.hid ((resc_any [97, 32, 92] W (by decide) h.out).mono (fun e w' h => ⟨by rw [h.1, aw_esc], h.2⟩))
  have KD : ∀ W, Hid (Calls Tryd.prog 11 #[.int .i64 305] W fun e w' => e = .returned (.string ⟨#[51, 48, 53]⟩) ∧ W = w') := fun W => Lib.hid ((rdigits_any 305 W (by decide) (by decide)).mono (fun e w' h => ⟨by rw [h.1, aw_d305], h.2⟩))
  have KC : ∀ W, Hid (Calls Tryd.prog 18 #[.string ⟨#[97, 195, 169]⟩] W fun e w' => e = .returned (.int .i64 2) ∧ Below W.heap.size W w') := fun W => Lib.hid ((rcount_any [97, 195, 169] W (by decide)).mono (fun e w' h => ⟨by rw [h.1, aw_count]; rfl, h.2⟩))
  have KW : ∀ W, Hid (Calls Tryd.prog 21 #[.string ⟨#[32, 97, 32, 32, 98]⟩] W fun e w' => ∃ A c, e = .returned (.slice A 2 c) ∧ RdS w' A 2 c [[97], [98]] ∧ Below W.heap.size W w') := fun W => Lib.hid ((words_rd [32, 97, 32, 32, 98] W (by decide)).mono (fun e w' h => by rw [aw_words] at h; exact h))
  have KP : ∀ W, Hid (Calls Tryd.prog 17 #[.string ⟨#[120]⟩] W fun e w' => e = .returned (.bool true) ∧ Below W.heap.size W w') := fun W => Lib.hid ((rPlain_any [120] W (by decide)).mono (fun e w' h => ⟨by rw [h.1, aw_plain], h.2⟩))
  have KR : ∀ W, Hid (LV W) → Hid (Calls Tryd.prog 16 #[.string ⟨#[195, 169]⟩] W fun e w' => e = .returned (.bool true) ∧ Below W.heap.size W w') := fun W h => Lib.hid ((rright_any [195, 169] W (by decide) h.out).mono (fun e w' h => ⟨by rw [h.1, aw_right], h.2⟩))
  have KT : ∀ A B c k W, Hid (RdS W A 2 c [[97], [98]]) → Hid (RdS W B 2 k [[97], [98]]) → Hid (Calls Tryd.prog 20 #[.slice A 2 c, .slice B 2 k] W fun e w' => e = .returned (.bool true) ∧ Below W.heap.size W w') := fun A B c k W h1 h2 => Lib.hid (texts_same [[97], [98]] A B c k W h1.out h2.out (by decide))
  have hB := Below.refl w.heap.size w
  go_enter Tryd.func7, Tryd.ntmps7
  go_wp2_with fail
  refine (KB _ HLV).out.mono ?_
  rintro e w1 ⟨rfl, hb⟩
  have HL1 := Lib.hid (HLV.out.below hb)
  replace hB := below_trans hB hb
  clear hb HLV
  go_wp2_with fail
  refine (KN _).out.mono ?_
  rintro e w2 ⟨rfl, hb⟩
  have HL2 := Lib.hid (HL1.out.below hb)
  replace hB := below_trans hB hb
  clear hb HL1
  go_wp2_with fail
  refine (KE _ HL2).out.mono ?_
  rintro e w3 ⟨rfl, hb⟩
  have HL3 := Lib.hid (HL2.out.below hb)
  replace hB := below_trans hB hb
  clear hb HL2
  go_wp2_with fail
  refine (KD _).out.mono ?_
  rintro e w4 ⟨rfl, rfl⟩
  go_wp2_with fail
  refine (KC _).out.mono ?_
  rintro e w5 ⟨rfl, hb⟩
  have HL5 := Lib.hid (HL3.out.below hb)
  replace hB := below_trans hB hb
  clear hb HL3
  go_wp2_with fail
  refine (KW _).out.mono ?_
  rintro e w6 ⟨A, c, rfl, hr, hb⟩
  have HL6 := Lib.hid (HL5.out.below hb)
  have HR := Lib.hid hr
  replace hB := below_trans hB hb
  clear hb HL5 hr
  go_wp2_with fail
  obtain ⟨hb, hr⟩ := two_strs w6 [97] [98]
  have HL7 := Lib.hid (HL6.out.below hb)
  have HR7 := Lib.hid (HR.out.below hb)
  have HS7 := Lib.hid hr
  replace hB := below_trans hB hb
  clear hb hr HL6 HR
  refine (KT _ _ _ _ _ HR7 HS7).out.mono ?_
  generalize w6.alloc (.cells #[.string ⟨([97] : List UInt8).toArray⟩, .string ⟨([98] : List UInt8).toArray⟩] 9) = w7 at *
  rintro e w8 ⟨rfl, hb⟩
  have HL8 := Lib.hid (HL7.out.below hb)
  replace hB := below_trans hB hb
  clear hb HL7 HR7 HS7
  go_wp2_with fail
  refine (KP _).out.mono ?_
  rintro e w9 ⟨rfl, hb⟩
  have HL9 := Lib.hid (HL8.out.below hb)
  replace hB := below_trans hB hb
  clear hb HL8
  go_wp2_with fail
  refine (KR _ HL9).out.mono ?_
  rintro e w10 ⟨rfl, hb⟩
  replace hB := below_trans hB hb
  clear hb
  go_wp2_with fail
  go_ret
  exact ⟨rfl, hB⟩
end Go.Proofs.YtefipigdkdopcaaDoor
