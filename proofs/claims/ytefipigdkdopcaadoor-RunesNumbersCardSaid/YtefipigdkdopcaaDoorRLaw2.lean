/- The law RunesNumbers of layer 4, walked. Asked: what the library's variables hold. -/
import Derived.Test.YtefipigdkdopcaaDoorAw3
namespace Go.Proofs.YtefipigdkdopcaaDoor
open Go.RowKit

theorem numOk_far {n : Int} (h : ¬ (-1099511627776 ≤ n ∧ n ≤ 1099511627776)) : numF (digI n) = 0 ∧ numOk (digI n) = false := by
  have e : numOk (digI n) = false := by rw [numOk_digI, decide_eq_false_iff_not]; exact h
  exact ⟨numF_false e, e⟩

set_option maxRecDepth 100000 in
set_option maxHeartbeats 1000000 in
theorem runesnumbers_law (n : Int) (s : List UInt8) (w : World) (hL : LV w) (h0 : -9223372036854775808 ≤ n) (h1 : n ≤ 9223372036854775807) : Calls Tryd.prog 4 #[.int .i64 n, .string ⟨s.toArray⟩] w fun e w' => e = .returned (.bool true) ∧ Below w.heap.size w w' := by
  have KA := fun W h => Lib.hid (awake04_any W h)
  have HL0 := Lib.hid hL
  clear hL
  have hB := Below.refl w.heap.size w
  by_cases hn : 60 < s.length
  · go_enter Tryd.func4, Tryd.ntmps4
    go_wp2_with fail
    refine (KA _ HL0.out).out.mono ?_
    rintro e w1 ⟨rfl, hb⟩
    go_wp2_with fail
    go_ret
    exact ⟨rfl, hb⟩
  · have KD := fun W => Lib.hid (rdigits_any n W h0 h1)
    have KR := fun W => Lib.hid (digits4_any n W h0 h1)
    have HLn : Hid ((digI n).length ≤ 21) := digI_len h0 h1
    have KN : ∀ (f : Int) (o : Bool), numF (digI n) = f ∧ numOk (digI n) = o → ∀ W, Hid (Calls Tryd.prog 12 #[.string ⟨(digI n).toArray⟩] W fun e w' => e = .returned (.tuple #[.int .i64 f, .bool o]) ∧ Below W.heap.size W w') := fun f o h W => Lib.hid ((number_any (digI n) W (by have := HLn.out; omega)).mono (fun e w' g => ⟨by rw [g.1, h.1, h.2], g.2⟩))
    have KS := fun W => Lib.hid (number_any s W (by omega))
    have HF : Hid ((numOk s = true → digI (numF s) = s ∧ -1099511627776 ≤ numF s ∧ numF s ≤ 1099511627776) ∧ (numOk s = false → numF s = 0)) := ⟨fun h => by
      have := numOk_true h
      rw [numF_true h]
      exact this, numF_false⟩
    have HK : Hid (∀ z : Int, -1099511627776 ≤ z → z ≤ 1099511627776 → ∀ W, Hid (Calls Tryd.prog 13 #[.int .i64 z] W fun e w' => e = .returned (.string ⟨(digI z).toArray⟩) ∧ W = w')) := fun z g0 g1 W => Lib.hid (digits4_any z W (by omega) (by omega))
    by_cases hnear : -1099511627776 ≤ n ∧ n ≤ 1099511627776
    · obtain ⟨n0, n1⟩ := hnear
      have KN2 := KN n true ⟨(numF_digI n0 n1).1, (numF_digI n0 n1).2⟩
      clear KN h0 h1
      generalize digI n = t at *
      cases ho : numOk s with
      | true =>
        obtain ⟨f1, f2, f3⟩ := HF.out.1 ho
        rw [ho] at KS
        clear HF ho
        have KX := HK.out (numF s) f2 f3
        clear HK
        rw [f1] at KX
        clear f1
        generalize numF s = x at *
        go_enter Tryd.func4, Tryd.ntmps4
        go_wp2_with fail
        refine (KD _).out.mono ?_
        rintro e w1 ⟨rfl, rfl⟩
        go_wp2_with fail
        refine (KN2 _).out.mono ?_
        rintro e w2 ⟨rfl, hb⟩
        have HL2 := Lib.hid (HL0.out.below hb)
        replace hB := below_trans hB hb
        clear hb HL0
        go_wp2_with fail
        refine (KR _).out.mono ?_
        rintro e w3 ⟨rfl, rfl⟩
        go_wp2_with fail
        refine (KS _).out.mono ?_
        rintro e w4 ⟨rfl, hb⟩
        have HL4 := Lib.hid (HL2.out.below hb)
        replace hB := below_trans hB hb
        clear hb HL2
        go_wp2_with fail
        refine (KA _ HL4.out).out.mono ?_
        rintro e w5 ⟨rfl, hb⟩
        replace hB := below_trans hB hb
        clear hb HL4
        go_wp2_with fail
        refine (KX _).out.mono ?_
        rintro e w6 ⟨rfl, rfl⟩
        go_wp2_with fail
        go_ret
        exact ⟨rfl, hB⟩
      | false =>
        have f1 := HF.out.2 ho
        rw [ho, f1] at KS
        clear HF ho HK f1
        go_enter Tryd.func4, Tryd.ntmps4
        go_wp2_with fail
        refine (KD _).out.mono ?_
        rintro e w1 ⟨rfl, rfl⟩
        go_wp2_with fail
        refine (KN2 _).out.mono ?_
        rintro e w2 ⟨rfl, hb⟩
        have HL2 := Lib.hid (HL0.out.below hb)
        replace hB := below_trans hB hb
        clear hb HL0
        go_wp2_with fail
        refine (KR _).out.mono ?_
        rintro e w3 ⟨rfl, rfl⟩
        go_wp2_with fail
        refine (KS _).out.mono ?_
        rintro e w4 ⟨rfl, hb⟩
        have HL4 := Lib.hid (HL2.out.below hb)
        replace hB := below_trans hB hb
        clear hb HL2
        go_wp2_with fail
        refine (KA _ HL4.out).out.mono ?_
        rintro e w5 ⟨rfl, hb⟩
        replace hB := below_trans hB hb
        clear hb HL4
        go_wp2_with fail
        go_ret
        exact ⟨rfl, hB⟩
    · have KN2 := KN 0 false (numOk_far hnear)
      clear KN h0 h1
      have hnear2 : n < -1099511627776 ∨ (¬ n < -1099511627776 ∧ 1099511627776 < n) := by omega
      clear hnear
      generalize digI n = t at *
      cases ho : numOk s with
      | true =>
        obtain ⟨f1, f2, f3⟩ := HF.out.1 ho
        rw [ho] at KS
        clear HF ho
        have KX := HK.out (numF s) f2 f3
        clear HK
        rw [f1] at KX
        clear f1
        generalize numF s = x at *
        rcases hnear2 with hfar | ⟨hfa, hfar⟩
        all_goals
          go_enter Tryd.func4, Tryd.ntmps4
          go_wp2_with fail
          refine (KD _).out.mono ?_
          rintro e w1 ⟨rfl, rfl⟩
          go_wp2_with fail
          refine (KN2 _).out.mono ?_
          rintro e w2 ⟨rfl, hb⟩
          have HL2 := Lib.hid (HL0.out.below hb)
          replace hB := below_trans hB hb
          clear hb HL0
          go_wp2_with fail
          refine (KR _).out.mono ?_
          rintro e w3 ⟨rfl, rfl⟩
          go_wp2_with fail
          refine (KS _).out.mono ?_
          rintro e w4 ⟨rfl, hb⟩
          have HL4 := Lib.hid (HL2.out.below hb)
          replace hB := below_trans hB hb
          clear hb HL2
          go_wp2_with fail
          refine (KA _ HL4.out).out.mono ?_
          rintro e w5 ⟨rfl, hb⟩
          replace hB := below_trans hB hb
          clear hb HL4
          go_wp2_with fail
          refine (KX _).out.mono ?_
          rintro e w6 ⟨rfl, rfl⟩
          go_wp2_with fail
          go_ret
          exact ⟨rfl, hB⟩
      | false =>
        have f1 := HF.out.2 ho
        rw [ho, f1] at KS
        clear HF ho HK f1
        rcases hnear2 with hfar | ⟨hfa, hfar⟩
        all_goals
          go_enter Tryd.func4, Tryd.ntmps4
          go_wp2_with fail
          refine (KD _).out.mono ?_
          rintro e w1 ⟨rfl, rfl⟩
          go_wp2_with fail
          refine (KN2 _).out.mono ?_
          rintro e w2 ⟨rfl, hb⟩
          have HL2 := Lib.hid (HL0.out.below hb)
          replace hB := below_trans hB hb
          clear hb HL0
          go_wp2_with fail
          refine (KR _).out.mono ?_
          rintro e w3 ⟨rfl, rfl⟩
          go_wp2_with fail
          refine (KS _).out.mono ?_
          rintro e w4 ⟨rfl, hb⟩
          have HL4 := Lib.hid (HL2.out.below hb)
          replace hB := below_trans hB hb
          clear hb HL2
          go_wp2_with fail
          refine (KA _ HL4.out).out.mono ?_
          rintro e w5 ⟨rfl, hb⟩
          replace hB := below_trans hB hb
          clear hb HL4
          go_wp2_with fail
          go_ret
          exact ⟨rfl, hB⟩
end Go.Proofs.YtefipigdkdopcaaDoor
