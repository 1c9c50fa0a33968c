/- Contracts of the reference's Escape and of runes.Escape. The second asks the library's two tables; the length's bound. -/
import Derived.Test.YtefipigdkdopcaaDoorRune8
import Derived.Lib.AppendStr
namespace Go.Proofs.YtefipigdkdopcaaDoor
open Go.RowKit

/-- The parts from place i on, j of them passed: where. -/
theorem partsF_step (xs : List UInt8) (j i : Nat) (h : Hid ((partsF xs 0).drop j = partsF xs i)) (hj : j < (partsF xs 0).length) : i < xs.length ∧ (partsF xs 0).getD j [] = (xs.drop i).take (widAt xs i) ∧ (partsF xs 0).drop (j + 1) = partsF xs (i + widAt xs i) := by
  have h := h.out
  have hlt : i < xs.length := by
    by_cases hlt : i < xs.length
    · exact hlt
    · have e : partsF xs i = [] := by rw [partsF, dif_neg hlt]
      rw [e] at h
      have := congrArg List.length h
      rw [List.length_drop, List.length_nil] at this
      omega
  have e : partsF xs i = (xs.drop i).take (widAt xs i) :: partsF xs (i + widAt xs i) := by
    conv => lhs; rw [partsF]
    rw [dif_pos hlt]
  rw [e, List.drop_eq_getElem_cons hj] at h
  obtain ⟨h1, h2⟩ := List.cons.inj h
  exact ⟨hlt, by rw [List.getD_eq_getElem?_getD, List.getElem?_eq_getElem hj]; exact h1, h2⟩
theorem partsF_end (xs : List UInt8) (j i : Nat) (h : Hid ((partsF xs 0).drop j = partsF xs i)) (hi : i ≤ xs.length) (hj : (partsF xs 0).length ≤ j) : i = xs.length := by
  have h := h.out
  rw [List.drop_eq_nil_of_le hj] at h
  by_cases hlt : i < xs.length
  · rw [partsF, dif_pos hlt] at h; cases h
  · omega

set_option maxRecDepth 100000 in
set_option maxHeartbeats 2000000 in
theorem refesc_any (xs : List UInt8) (w : World) (hN : xs.length ≤ 100000) : Calls Tryd.prog 10 #[.string ⟨xs.toArray⟩] w fun e w' => e = .returned (.string ⟨(escF xs 0).toArray⟩) ∧ Below w.heap.size w w' := by
  have KP := fun W => Lib.hid (parts4_any xs W hN)
  have HSt := fun j i h hj => Lib.hid (partsF_step xs j i h hj)
  have HEn := fun j i h hi hj => Lib.hid (partsF_end xs j i h hi hj)
  have hpl := partsF_len xs 0
  generalize hL : partsF xs 0 = l at *
  have HS0 : Hid (l.drop 0 = partsF xs 0) := hL.symm
  clear hL
  go_enter Tryd.func10, Tryd.ntmps10
  go_wp2_with fail
  refine (KP _).out.mono ?_
  rintro e w1 ⟨A, c, rfl, hr, hB⟩
  clear KP
  go_wp2_with fail
  go_loopw [3, 5, 6] (fun t i _ wr => ∃ (j k : Nat) (acc : List UInt8), i = .int .i64 j ∧ t = .string ⟨acc.toArray⟩ ∧ j ≤ l.length ∧ k ≤ xs.length ∧ acc.length ≤ 11 * k ∧ Hid (l.drop j = partsF xs k) ∧ Hid (escF xs 0 = acc ++ escF xs k) ∧ Below w1.heap.size w1 wr) (fun _ i _ _ => l.length - (intOf i).toNat)
  case atStart => exact ⟨0, 0, [], rfl, rfl, by omega, by omega, by simp, HS0, rfl, Below.refl _ _⟩
  case round =>
    obtain ⟨j, k, acc, rfl, rfl, hj, hk, hacc, HD, HG, hBr⟩ := hrel
    by_cases hlt : j < l.length
    · obtain ⟨hkl, hg, hd⟩ := (HSt j k HD hlt).out
      have HD2 := Lib.hid hd
      obtain ⟨w1', w2'⟩ := wid_pos xs k hkl
      obtain ⟨ad, rfl, cj⟩ := hr.sat j hlt
      replace cj := cell_below hBr cj
      rw [hg] at cj
      obtain ⟨ph1, ph2, ph3⟩ := part_head xs k hkl
      have KV := fun W => Lib.hid (value4_any ((xs.drop k).take (widAt xs k)) W ph2 (by omega))
      rw [part_val] at KV
      have HE : Hid (escF xs 0 = (acc ++ escOne xs k) ++ escF xs (k + widAt xs k)) := by
        show _ = _
        rw [HG.out]
        conv => lhs; rw [escF]
        rw [dif_pos hkl]
        simp
      have hel := escOne_len xs k hkl
      have HO : Hid (escOne xs k = if brk (xs.drop k) then [92, 120] ++ twoN (at8 xs k) ++ [46] else if plainB (runeAt xs k) = true ∧ runeAt xs k ≠ 92 then [UInt8.ofNat (runeAt xs k)] else [92] ++ twoN (runeAt xs k) ++ [46]) := rfl
      have hpp := plain_part xs k hkl
      have hrl := rune_le xs k hkl
      have hb8 := at8_lt xs k
      have hjl : (j : Int) < (l.length : Int) := by omega
      have hacc2 : acc.length ≤ 1100000 := by omega
      clear HD HG hg hd
      by_cases hb : brk (xs.drop k)
      · rw [if_pos hb] at HO KV
        have KT := fun W => Lib.hid (two4_any (at8 xs k) W (by omega))
        have htl := (twoN_len (n := at8 xs k) (by omega)).1
        have hidx : (∀ h : 0 < (⟨((xs.drop k).take (widAt xs k)).toArray⟩ : ByteArray).size, ((⟨((xs.drop k).take (widAt xs k)).toArray⟩ : ByteArray)[0]'h) = ((xs.drop k).take (widAt xs k)).getD 0 0) ∧ (∀ h : 0 < ((xs.drop k).take (widAt xs k)).length, ((xs.drop k).take (widAt xs k))[0]'h = ((xs.drop k).take (widAt xs k)).getD 0 0) := ⟨fun h => index_list _ 0 h, fun h => by rw [List.getD_eq_getElem?_getD, List.getElem?_eq_getElem h]; rfl⟩
        obtain ⟨i0, i1⟩ := hidx
        have hph : (((xs.drop k).take (widAt xs k)).getD 0 0).toNat = at8 xs k := ph1
        clear hpp hb ph1
        generalize ((xs.drop k).take (widAt xs k)).getD 0 0 = c0 at *
        generalize (xs.drop k).take (widAt xs k) = p at *
        generalize at8 xs k = b at *
        generalize twoN b = tw at *
        generalize escOne xs k = eo at *
        have hpl0 : (0 : Int) < (p.length : Int) := by omega
        have l1 : ¬ (9223372036854775807 < acc.length + [(92 : UInt8), 120].length) := by simp; omega
        have l2 : ¬ (9223372036854775807 < (acc ++ [(92 : UInt8), 120]).length + tw.length) := by simp; omega
        have l3 : ¬ (9223372036854775807 < (acc ++ [(92 : UInt8), 120] ++ tw).length + [(46 : UInt8)].length) := by simp; omega
        go_wp2_with fail
        refine (KV _).out.mono ?_
        rintro e w3 ⟨rfl, hb3⟩
        replace hBr := below_then hBr hb3 hBr.size
        replace cj := cell_below hb3 cj
        clear hb3 KV
        go_wp2_with fail
        refine (KT _).out.mono ?_
        rintro e w4 ⟨rfl, rfl⟩
        rw [show (⟨acc.toArray⟩ : ByteArray) ++ ⟨#[92, 120]⟩ = ⟨(acc ++ [92, 120]).toArray⟩ from cat_bytes _ _]
        go_wp2_with fail
        rw [cat_bytes]
        go_roundw
        case rel => exact ⟨j + 1, k + widAt xs k, acc ++ eo, by go_num, by rw [HO.out]; simp, by omega, by omega, by simp; omega, HD2, HE, hBr⟩
        case measure => simp [intOf]; omega
      · rw [if_neg hb] at HO KV
        have KT := fun W => Lib.hid (two4_any (runeAt xs k) W (by omega))
        have htl := (twoN_len (n := runeAt xs k) (by omega)).1
        clear hb ph1
        by_cases hpb : plainB (runeAt xs k) = true ∧ runeAt xs k ≠ 92
        · rw [if_pos hpb] at HO
          have hpq := (hpp hpb.1).1
          rw [hpq] at cj KV
          rw [← HO.out] at cj KV
          have h33 : 32 < runeAt xs k ∧ runeAt xs k < 127 := by have := hpb.1; unfold plainB at this; rwa [decide_eq_true_iff] at this
          obtain ⟨p1, p2⟩ := h33
          have p3 := hpb.2
          clear hpp hpb hpq KT HO
          generalize escOne xs k = eo at *
          generalize runeAt xs k = r at *
          have q1 : (32 : Int) < (r : Int) := by omega
          have q2 : (r : Int) < 127 := by omega
          have q3 : ((r : Int) != 92) = true := by rw [bne_iff_ne]; omega
          have l1 : ¬ (9223372036854775807 < acc.length + eo.length) := by omega
          go_wp2_with fail
          refine (KV _).out.mono ?_
          rintro e w3 ⟨rfl, hb3⟩
          replace hBr := below_then hBr hb3 hBr.size
          replace cj := cell_below hb3 cj
          clear hb3 KV
          go_wp2_with fail
          rw [cat_bytes]
          go_roundw
          case rel => exact ⟨j + 1, k + widAt xs k, acc ++ eo, by go_num, rfl, by omega, by omega, by simp; omega, HD2, HE, hBr⟩
          case measure => simp [intOf]; omega
        · rw [if_neg hpb] at HO
          have hways : ¬ 32 < runeAt xs k ∨ ¬ runeAt xs k < 127 ∨ runeAt xs k = 92 := by
            unfold plainB at hpb
            rw [decide_eq_true_iff] at hpb
            omega
          clear hpp hpb
          generalize escOne xs k = eo at *
          generalize runeAt xs k = r at *
          generalize twoN r = tw at *
          generalize (xs.drop k).take (widAt xs k) = p at *
          have l1 : ¬ (9223372036854775807 < acc.length + [(92 : UInt8)].length) := by simp; omega
          have l2 : ¬ (9223372036854775807 < (acc ++ [(92 : UInt8)]).length + tw.length) := by simp; omega
          have l3 : ¬ (9223372036854775807 < (acc ++ [(92 : UInt8)] ++ tw).length + [(46 : UInt8)].length) := by simp; omega
          have h3 : (¬ (32 : Int) < (r : Int)) ∨ ((32 : Int) < (r : Int) ∧ ¬ (r : Int) < 127) ∨ ((32 : Int) < (r : Int) ∧ (r : Int) < 127 ∧ ((r : Int) != 92) = false) := by
            rcases hways with h | h | h
            · exact .inl (by omega)
            · by_cases g : 32 < r
              · exact .inr (.inl ⟨by omega, by omega⟩)
              · exact .inl (by omega)
            · exact .inr (.inr ⟨by omega, by omega, by rw [bne_eq_false_iff_eq]; omega⟩)
          clear hways
          rcases h3 with q1 | ⟨q1, q2⟩ | ⟨q1, q2, q3⟩
          all_goals
            go_wp2_with fail
            refine (KV _).out.mono ?_
            rintro e w3 ⟨rfl, hb3⟩
            replace hBr := below_then hBr hb3 hBr.size
            replace cj := cell_below hb3 cj
            clear hb3 KV
            go_wp2_with fail
            refine (KT _).out.mono ?_
            rintro e w4 ⟨rfl, rfl⟩
            rw [show (⟨acc.toArray⟩ : ByteArray) ++ ⟨#[92]⟩ = ⟨(acc ++ [92]).toArray⟩ from cat_bytes _ _]
            go_wp2_with fail
            rw [cat_bytes]
            go_roundw
            case rel => exact ⟨j + 1, k + widAt xs k, acc ++ eo, by go_num, by rw [HO.out]; simp, by omega, by omega, by simp; omega, HD2, HE, hBr⟩
            case measure => simp [intOf]; omega
    · obtain rfl : j = l.length := by omega
      obtain rfl := (HEn _ k HD hk (Nat.le_refl _)).out
      have HE : Hid (escF xs 0 = acc) := by
        show _ = _
        rw [HG.out]
        conv => lhs; rhs; rw [escF]
        rw [dif_neg (by omega)]
        simp
      clear HG HD
      go_wp2_with fail
      go_ret
      exact ⟨by rw [HE.out]; rfl, below_then hB hBr hB.size⟩
end Go.Proofs.YtefipigdkdopcaaDoor
