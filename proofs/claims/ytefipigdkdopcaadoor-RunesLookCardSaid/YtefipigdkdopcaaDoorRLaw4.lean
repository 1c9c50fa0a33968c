/- The law RunesLook of layer 4, walked. Asked: what the library's variables hold. -/
import Derived.Test.YtefipigdkdopcaaDoorAw3
namespace Go.Proofs.YtefipigdkdopcaaDoor
open Go.RowKit

theorem parts_count (xs : List UInt8) (i : Nat) : (partsF xs i).length = countF xs i := by
  fun_induction countF xs i with
  | case1 i h ih => rw [partsF, dif_pos h, List.length_cons, ih]
  | case2 i h => rw [partsF, dif_neg h]; rfl
theorem parts_some (xs : List UInt8) : decide (0 < (partsF xs 0).length) = !xs.isEmpty := by
  cases xs with
  | nil => rw [partsF, dif_neg (by simp)]; rfl
  | cons b r => rw [partsF, dif_pos (by simp)]; simp
def CutI (xs : List UInt8) (n : Int) (j k : Nat) (acc : List UInt8) : Prop :=
  acc.length ≤ k ∧ ((j : Int) ≤ n → acc = xs.take k ∧ cutF xs n 0 0 = cutF xs n k j) ∧ (n < (j : Int) → acc = xs.take (cutF xs n 0 0))
theorem CutI.start (xs : List UInt8) (n : Int) : CutI xs n 0 0 [] := by
  refine ⟨Nat.le_refl _, fun _ => ⟨by simp, rfl⟩, fun h => ?_⟩
  rw [cutF]
  split
  · rw [if_pos (by omega)]; simp
  · rename_i g
    have : xs.length = 0 := by omega
    rw [this]; simp
theorem CutI.more {xs : List UInt8} {n : Int} {j k : Nat} {acc : List UInt8} (h : CutI xs n j k acc) (hk : k < xs.length) (hj : (j : Int) < n) : CutI xs n (j + 1) (k + widAt xs k) (acc ++ (xs.drop k).take (widAt xs k)) := by
  obtain ⟨h0, h1, -⟩ := h
  obtain ⟨e1, e2⟩ := h1 (by omega)
  refine ⟨?_, fun _ => ⟨?_, ?_⟩, fun g => by omega⟩
  · rw [List.length_append, List.length_take]; omega
  · rw [e1, List.take_add]
  · rw [e2]
    conv => lhs; rw [cutF]
    rw [dif_pos hk, if_neg (by omega)]
theorem CutI.stay {xs : List UInt8} {n : Int} {j k : Nat} {acc : List UInt8} (h : CutI xs n j k acc) (hk : k < xs.length) (hj : ¬ (j : Int) < n) : CutI xs n (j + 1) (k + widAt xs k) acc := by
  obtain ⟨h0, h1, h2⟩ := h
  refine ⟨by omega, fun g => by omega, fun _ => ?_⟩
  by_cases he : (j : Int) = n
  · obtain ⟨e1, e2⟩ := h1 (by omega)
    have e3 : cutF xs n k j = k := by rw [cutF, dif_pos hk, if_pos (by omega)]
    rw [e1, e2, e3]
  · exact h2 (by omega)
theorem CutI.fin {xs : List UInt8} {n : Int} {j : Nat} {acc : List UInt8} (h : CutI xs n j xs.length acc) : acc = xs.take (cutF xs n 0 0) := by
  obtain ⟨h0, h1, h2⟩ := h
  by_cases he : (j : Int) ≤ n
  · obtain ⟨e1, e2⟩ := h1 he
    have e3 : cutF xs n xs.length j = xs.length := by rw [cutF, dif_neg (by omega)]
    rw [e1, e2, e3]
  · exact h2 (by omega)
theorem right_step (xs : List UInt8) (k : Nat) (hk : k < xs.length) : rightF xs k = (decide (0 ≤ valR ((xs.drop k).take (widAt xs k))) && rightF xs (k + widAt xs k)) := by
  conv => lhs; rw [rightF]
  rw [dif_pos hk, part_val]
  by_cases hb : brk (xs.drop k)
  · rw [if_pos hb]; simp [hb]
  · rw [if_neg hb]; simp [hb]
theorem plain_step (xs : List UInt8) (k : Nat) (hk : k < xs.length) : plainF xs k = (decide (32 < valR ((xs.drop k).take (widAt xs k)) ∧ valR ((xs.drop k).take (widAt xs k)) < 127) && plainF xs (k + widAt xs k)) := by
  conv => lhs; rw [plainF]
  rw [dif_pos hk, part_val]
  congr 1
  unfold plainB
  by_cases hb : brk (xs.drop k)
  · rw [if_pos hb]
    have : runeAt xs k = 65533 := by unfold runeAt; rw [hb]
    rw [this]
    rfl
  · rw [if_neg hb]
    rw [decide_eq_decide]
    omega

set_option maxRecDepth 100000 in
set_option maxHeartbeats 4000000 in
theorem runeslook_law (s : List UInt8) (n : Int) (w : World) (hL : LV w) : Calls Tryd.prog 5 #[.string ⟨s.toArray⟩, .int .i64 n] w fun e w' => e = .returned (.bool true) ∧ Below w.heap.size w w' := by
  have KA := fun W h => Lib.hid (awake04_any W h)
  have HL0 := Lib.hid hL
  clear hL
  have hB := Below.refl w.heap.size w
  by_cases hn : 300 < s.length
  · go_enter Tryd.func5, Tryd.ntmps5
    go_wp2_with fail
    refine (KA _ HL0.out).out.mono ?_
    rintro e w1 ⟨rfl, hb⟩
    go_wp2_with fail
    go_ret
    exact ⟨rfl, hb⟩
  · have KP := fun W => Lib.hid (parts4_any s W (by omega))
    have KR := fun W h => Lib.hid (rright_any s W (by omega) h)
    have KPl := fun W => Lib.hid (rPlain_any s W (by omega))
    have KCo := fun W => Lib.hid (rcount_any s W (by omega))
    have KCu := fun W => Lib.hid (rcut_any s n W (by omega))
    have HSt := fun j i h hj => Lib.hid (partsF_step s j i h hj)
    have HEn := fun j i h hi hj => Lib.hid (partsF_end s j i h hi hj)
    have hpl := partsF_len s 0
    have HC0 := Lib.hid (CutI.start s n)
    have HR0 : Hid (rightF s 0 = (true && rightF s 0)) := by show _ = _; simp
    obtain ⟨p0, hp0⟩ : ∃ p0, p0 = decide (0 < (partsF s 0).length) := ⟨_, rfl⟩
    have HP0 : Hid ((plainF s 0 && !s.isEmpty) = (p0 && plainF s 0)) := by show _ = _; rw [hp0, parts_some, Bool.and_comm]
    have hp1 : decide (0 < (partsF s 0).length) = p0 := hp0.symm
    have hp2 : decide ((0 : Int) < ((partsF s 0).length : Int)) = p0 := by rw [hp0, decide_eq_decide]; omega
    rw [← parts_count] at KCo
    clear hp0
    have hs300 : s.length ≤ 300 := by omega
    have HV : Hid (∀ k, k < s.length → ∃ v : Int, valR ((s.drop k).take (widAt s k)) = v) := fun k _ => ⟨_, rfl⟩
    generalize hLL : partsF s 0 = l at *
    have HS0 : Hid (l.drop 0 = partsF s 0) := hLL.symm
    clear hLL
    go_enter Tryd.func5, Tryd.ntmps5
    go_wp2_with fail
    refine (KP _).out.mono ?_
    rintro e w1 ⟨A, c, rfl, hr, hB1⟩
    have HL1 := Lib.hid (HL0.out.below hB1)
    replace hB := below_trans hB hB1
    clear KP HL0 hB1
    go_wp2_with fail
    go_loopw [6, 7, 8, 9, 10] (fun rv pv cv iv _ wr => ∃ (r p : Bool) (j k : Nat) (acc : List UInt8), rv = .bool r ∧ pv = .bool p ∧ cv = .string ⟨acc.toArray⟩ ∧ iv = .int .i64 j ∧ j ≤ l.length ∧ k ≤ s.length ∧ Hid (l.drop j = partsF s k) ∧ Hid (rightF s 0 = (r && rightF s k)) ∧ Hid ((plainF s 0 && !s.isEmpty) = (p && plainF s k)) ∧ Hid (CutI s n j k acc) ∧ Below w1.heap.size w1 wr) (fun _ _ _ iv _ _ => l.length - (intOf iv).toNat)
    case atStart => exact ⟨true, p0, 0, 0, [], rfl, rfl, rfl, rfl, by omega, by omega, HS0, HR0, HP0, HC0, Below.refl _ _⟩
    case round =>
      obtain ⟨r, p, j, k, acc, rfl, rfl, rfl, rfl, hj, hk, HD, HR, HP, HC, hBr⟩ := hrel
      by_cases hlt : j < l.length
      · obtain ⟨hkl, hg, hd⟩ := (HSt j k HD hlt).out
        have HD2 := Lib.hid hd
        obtain ⟨w1', w2'⟩ := wid_pos s k hkl
        obtain ⟨ad, rfl, cj⟩ := hr.sat j hlt
        replace cj := cell_below hBr cj
        rw [hg] at cj
        obtain ⟨ph1, ph2, ph3⟩ := part_head s k hkl
        have KV := fun W => Lib.hid (value4_any ((s.drop k).take (widAt s k)) W ph2 (by omega))
        have HR2 : Hid (∀ x : Bool, x = (r && decide (0 ≤ valR ((s.drop k).take (widAt s k)))) → Hid (rightF s 0 = (x && rightF s (k + widAt s k)))) := by
          intro x hx
          show _ = _
          rw [hx]
          rw [HR.out, right_step s k hkl, Bool.and_assoc]
        have HP2 : Hid (∀ x : Bool, x = (p && decide (32 < valR ((s.drop k).take (widAt s k)) ∧ valR ((s.drop k).take (widAt s k)) < 127)) → Hid ((plainF s 0 && !s.isEmpty) = (x && plainF s (k + widAt s k)))) := by
          intro x hx
          show _ = _
          rw [hx]
          rw [HP.out, plain_step s k hkl, Bool.and_assoc]
        have HCm := Lib.hid (fun h => HC.out.more hkl h)
        have HCs := Lib.hid (fun h => HC.out.stay hkl h)
        have hacc := HC.out.1
        have hjl : (j : Int) < (l.length : Int) := by omega
        clear HD HR HP HC hg hd ph1 ph2 HV
        generalize valR ((s.drop k).take (widAt s k)) = v at *
        generalize (s.drop k).take (widAt s k) = q at *
        have hcat : ¬ (9223372036854775807 < acc.length + q.length) := by omega
        have h3 : (¬ (0 : Int) ≤ v ∧ ¬ (32 : Int) < v ∧ Hid (decide (0 ≤ v) = false ∧ decide (32 < v ∧ v < 127) = false)) ∨ ((0 : Int) ≤ v ∧ ¬ (32 : Int) < v ∧ Hid (decide (0 ≤ v) = true ∧ decide (32 < v ∧ v < 127) = false)) ∨ ((0 : Int) ≤ v ∧ (32 : Int) < v ∧ v < 127 ∧ Hid (decide (0 ≤ v) = true ∧ decide (32 < v ∧ v < 127) = true)) ∨ ((0 : Int) ≤ v ∧ (32 : Int) < v ∧ ¬ v < 127 ∧ Hid (decide (0 ≤ v) = true ∧ decide (32 < v ∧ v < 127) = false)) := by
          unfold Hid
          simp only [decide_eq_true_eq, decide_eq_false_iff_not]
          omega
        have h4 : (j : Int) < n ∨ ¬ (j : Int) < n := by omega
        rcases h3 with ⟨q1, q2, QE⟩ | ⟨q1, q2, QE⟩ | ⟨q1, q2, q3, QE⟩ | ⟨q1, q2, q3, QE⟩
        all_goals
          rw [QE.out.1] at HR2
          rw [QE.out.2] at HP2
          clear QE
          cases r
          all_goals
            cases p
            all_goals
              rcases h4 with h5 | h5
              · have HC2 := Lib.hid (HCm.out h5)
                clear HCm HCs
                go_wp2_with fail
                refine (KV _).out.mono ?_
                rintro e w3 ⟨rfl, hb3⟩
                replace hBr := below_then hBr hb3 hBr.size
                replace cj := cell_below hb3 cj
                clear hb3 KV
                go_wp2_with fail
                rw [cat_bytes]
                go_roundw
                case rel => exact ⟨_, _, j + 1, k + widAt s k, acc ++ q, rfl, rfl, rfl, by go_num, by omega, by omega, HD2, HR2.out _ (by first | rfl | (simp; omega)), HP2.out _ (by first | rfl | (simp; omega)), HC2, hBr⟩
                case measure => simp [intOf]; omega
              · have HC2 := Lib.hid (HCs.out h5)
                clear HCm HCs
                go_wp2_with fail
                refine (KV _).out.mono ?_
                rintro e w3 ⟨rfl, hb3⟩
                replace hBr := below_then hBr hb3 hBr.size
                replace cj := cell_below hb3 cj
                clear hb3 KV
                go_wp2_with fail
                go_roundw
                case rel => exact ⟨_, _, j + 1, k + widAt s k, acc, rfl, rfl, rfl, by go_num, by omega, by omega, HD2, HR2.out _ (by first | rfl | (simp; omega)), HP2.out _ (by first | rfl | (simp; omega)), HC2, hBr⟩
                case measure => simp [intOf]; omega
      · obtain rfl : j = l.length := by omega
        obtain rfl := (HEn _ k HD hk (Nat.le_refl _)).out
        have er : rightF s 0 = r := by
          rw [HR.out]
          conv => lhs; rhs; rw [rightF]
          rw [dif_neg (by omega), Bool.and_true]
        have ep : (plainF s 0 && !s.isEmpty) = p := by
          rw [HP.out]
          conv => lhs; rhs; rw [plainF]
          rw [dif_neg (by omega), Bool.and_true]
        have ec := HC.out.fin
        rw [er] at KR
        rw [ep] at KPl
        rw [← ec] at KCu
        clear HR HP HC HD er ep ec
        have HL2 := Lib.hid (HL1.out.below hBr)
        replace hB := below_trans hB hBr
        clear HL1
        go_wp2_with fail
        refine (KA _ HL2.out).out.mono ?_
        rintro e w3 ⟨rfl, hb⟩
        have HL3 := Lib.hid (HL2.out.below hb)
        replace hB := below_trans hB hb
        clear hb HL2
        go_wp2_with fail
        refine (KR _ HL3.out).out.mono ?_
        rintro e w4 ⟨rfl, hb⟩
        replace hB := below_trans hB hb
        clear hb HL3
        go_wp2_with fail
        refine (KPl _).out.mono ?_
        rintro e w5 ⟨rfl, hb⟩
        replace hB := below_trans hB hb
        clear hb
        go_wp2_with fail
        refine (KCo _).out.mono ?_
        rintro e w6 ⟨rfl, hb⟩
        replace hB := below_trans hB hb
        clear hb
        go_wp2_with fail
        refine (KCu _).out.mono ?_
        rintro e w7 ⟨rfl, hb⟩
        replace hB := below_trans hB hb
        clear hb
        go_wp2_with fail
        go_ret
        exact ⟨rfl, hB⟩
end Go.Proofs.YtefipigdkdopcaaDoor
