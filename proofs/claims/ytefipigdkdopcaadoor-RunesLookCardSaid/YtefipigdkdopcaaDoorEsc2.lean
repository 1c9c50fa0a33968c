/- Contract of runes.Escape. It asks the library's two tables; the length's bound. -/
import Derived.Test.YtefipigdkdopcaaDoorEsc
namespace Go.Proofs.YtefipigdkdopcaaDoor
open Go.RowKit

section
variable {P : Program}
/-- 'append(b, s...)', s a text. -/
theorem wpl_append_str {w : World} {ops : Array Oper} {rest : List Oper} {o : Oper} {a : Act} {Q : Exit → Act → World → Prop} (hgd : o.guard = none) (sl x : Operand) (t u : TypeId)
    (ho : o.op = .call { callee := .builtin .append, args := #[sl, x], argTypes := #[t, u] })
    (base : Nat) (e : TypeId) (ht : P.underlying t = some (.slice e)) (hu : P.underlying u = some .string) (hinfo : (P.info? e).map (fun i => (i.zero, i.size, i.bytes)) = some (some (.int .u8 0), 1, 1))
    (v : Value) (ys : List UInt8) (hs : a.eval sl = v) (hown : w.ownsRow base e 1 v ys.length (bs ys)) (zs : List UInt8) (hx : a.eval x = .string ⟨zs.toArray⟩)
    (h63 : ys.length + zs.length ≤ 140737488355328) (hbase : base ≤ w.heap.size)
    (h : ∀ v' w', w'.ownsRow base e 1 v' (ys ++ zs).length (bs (ys ++ zs)) → w.grownBy w' v.ownBlock → wpList P ops Q rest (a.put o.dst v') w') : wpList P ops Q (o :: rest) a w := by
  obtain ⟨i, hi, hz0, hz1, hz2⟩ := info_parts hinfo
  refine Lib.wpList_append_own_string w hgd sl x t u ho base e i ht hu hi hz0 hz1 hz2 v ys.length (bs ys) hs hown ⟨zs.toArray⟩ hx (by rw [size_list]; unfold maxLen; omega) (by rw [size_list]; exact h63) hbase ?_
  intro v' w' ho' hg _
  refine h v' w' ?_ hg
  rw [size_list] at ho'
  rw [bs_append, List.length_append]
  exact ho'
end
theorem info_u8' : (Tryd.prog.info? 5).map (fun i => (i.zero, i.size, i.bytes)) = some (some (.int .u8 0), 1, 1) := by kernel_rfl

theorem decgo_any (xs : List UInt8) (i : Nat) (w : World) (hi : i < xs.length) (hL : LV w) :
    Calls Tryd.prog 24 #[.string ⟨(xs.drop i).toArray⟩] w fun e w' => e = .returned (.tuple #[.int .i32 (runeAt xs i : Nat), .int .i64 (widAt xs i : Nat)]) ∧ Below w.heap.size w w' :=
  (Tryd.utf8_DecodeRuneInString ⟨(xs.drop i).toArray⟩ w hL.tabs).mono (fun e w' h => ⟨by
    rw [h.1]
    have e2 : Lib.decodeGo ⟨(xs.drop i).toArray⟩ = decL (xs.drop i) := by
      unfold Lib.decodeGo
      rw [if_neg (by rw [size_list, List.length_drop]; omega)]
      rfl
    rw [e2]
    rfl, h.2⟩)

set_option maxRecDepth 100000 in
set_option maxHeartbeats 2000000 in
theorem resc_any (xs : List UInt8) (w : World) (hN : xs.length ≤ 100000) (hL : LV w) : Calls Tryd.prog 8 #[.string ⟨xs.toArray⟩] w fun e w' => e = .returned (.string ⟨(escF xs 0).toArray⟩) ∧ Below w.heap.size w w' := by
  obtain ⟨hI0, hB0⟩ := ItSt.start w xs
  have HLV := Lib.hid hL
  clear hL
  go_enter Tryd.func8, Tryd.ntmps8
  go_wp2_with fail
  generalize w.iter ⟨xs.toArray⟩ 0 = w0 at *
  go_loopw [3] (fun v wr => ∃ (k : Nat) (acc : List UInt8), k ≤ xs.length ∧ acc.length ≤ 11 * k ∧ Hid (escF xs 0 = acc ++ escF xs k) ∧ wr.ownsRow (w.heap.size + 1) 5 1 v acc.length (bs acc) ∧ ItSt w.heap.size xs k wr ∧ Below w.heap.size w wr) (fun _ wr => xs.length - wr.iterPos w.heap.size)
  case atStart => exact ⟨0, [], by omega, by simp, rfl, World.ownsRow_nil _ _ _ _, hI0, hB0⟩
  case round =>
    obtain ⟨k, acc, hk, hacc, HG, hown, hI, hB⟩ := hrel
    clear hI0 hB0
    by_cases hkl : k < xs.length
    · have hnx := hI.run hkl
      have HM := Lib.hid hI.pos
      have hI2 := hI.next (k + widAt xs k)
      have hB2 := below_iter hB (Nat.le_refl _) xs (k + widAt xs k)
      have hown2 := ItSt.own (xs := xs) hown (Nat.lt_succ_self _) (k + widAt xs k)
      obtain ⟨w1', w2'⟩ := wid_pos xs k hkl
      have HE : Hid (escF xs 0 = (acc ++ escOne xs k) ++ escF xs (k + widAt xs k)) := by
        show _ = _
        rw [HG.out]
        conv => lhs; rw [escF]
        rw [dif_pos hkl]
        simp
      have hel := escOne_len xs k hkl
      have HO : Hid (escOne xs k = if brk (xs.drop k) then [92, 120] ++ twoN (at8 xs k) ++ [46] else if plainB (runeAt xs k) = true ∧ runeAt xs k ≠ 92 then [UInt8.ofNat (runeAt xs k)] else [92] ++ twoN (runeAt xs k) ++ [46]) := rfl
      have hpp := plain_part xs k hkl
      have hrl := rune_le xs k hkl
      have hb8 := at8_lt xs k
      have hacc2 : acc.length ≤ 1100000 := by omega
      have hx := extract_list xs k xs.length
      rw [List.take_of_length_le (by rw [List.length_drop]; omega)] at hx
      have hkl1 : (k : Int) ≤ (xs.length : Int) := by omega
      have hkl2 : (k : Int) < (xs.length : Int) := by omega
      have hbk : brk (xs.drop k) ↔ (runeAt xs k = 65533 ∧ widAt xs k = 1) := by
        unfold brk runeAt widAt
        exact Prod.ext_iff
      have hwk : widAt xs k ≤ 4 := by rcases rune_at xs k hkl with h | h <;> omega
      have KD := fun W hL => Lib.hid (decgo_any xs k W hkl hL)
      clear HG hI hB hown
      generalize wr.iterAt w.heap.size ⟨xs.toArray⟩ (k + widAt xs k) = wi at *
      have hLi := HLV.out.below hB2
      replace KD := KD wi hLi
      by_cases hb : brk (xs.drop k)
      · rw [if_pos hb] at HO
        obtain ⟨hr5, hw1⟩ := hbk.1 hb
        have KT := fun W => Lib.hid (rdig_any (at8 xs k) W (by omega))
        have htl := (twoN_len (n := at8 xs k) (by omega)).1
        have hidx : (∀ h : k < (⟨xs.toArray⟩ : ByteArray).size, ((⟨xs.toArray⟩ : ByteArray)[k]'h) = xs.getD k 0) ∧ (∀ h : k < xs.length, xs[k]'h = xs.getD k 0) := ⟨fun h => index_list _ k h, fun h => by rw [List.getD_eq_getElem?_getD, List.getElem?_eq_getElem h]; rfl⟩
        obtain ⟨i0, i1⟩ := hidx
        have hph : (xs.getD k 0).toNat = at8 xs k := rfl
        clear hpp hb hbk
        rw [hr5] at hnx KD
        rw [hw1] at hI2 HE w1' w2' KD
        clear hr5 hw1
        generalize at8 xs k = b at *
        generalize xs.getD k 0 = c0 at *
        generalize twoN b = tw at *
        generalize escOne xs k = eo at *
        generalize xs.drop k = dk at *
        have hbi : (b : Int) < 256 := by omega
        have l2 : ¬ (9223372036854775807 < [(92 : UInt8), 120].length + tw.length) := by simp; omega
        have l3 : ¬ (9223372036854775807 < ([(92 : UInt8), 120] ++ tw).length + [(46 : UInt8)].length) := by simp; omega
        go_wp2_with fail
        refine KD.out.mono ?_
        rintro e w3 ⟨rfl, hb3⟩
        replace hB2 := below_then hB2 hb3 hB2.size
        replace hI2 := hI2.below hb3
        replace hown2 := own_below hown2 hb3
        clear hb3 KD hLi
        go_wp2_with fail
        refine (KT _).out.mono ?_
        rintro e w4 ⟨rfl, rfl⟩
        have hsz := hI2.sz
        go_wp2_with (first
          | (at_builtin; refine wpl_append_str rfl (.tmp 34) (.tmp 41) 39 9 rfl (w.heap.size + 1) 5 Tryd.underlying39 Tryd.underlying9 info_u8' _ acc rfl hown2 ([92, 120] ++ tw ++ [46]) (by first | rfl | simp) (by simp; omega) hsz ?_; intro v5 w5 hown5 hg5))
        have hI5 := hI2.grown hown2 (Nat.lt_succ_self _) hg5
        have hB5 := hB2.grown hg5 hB2.size (fun k hk => by have := (hown2.lt k hk).1; omega)
        clear hg5
        go_roundw
        case rel => exact ⟨k + 1, acc ++ eo, by omega, by simp; omega, HE, by rw [HO.out]; exact hown5, hI5, hB5⟩
        case measure => rw [hI5.pos, HM.out]; omega
      · rw [if_neg hb] at HO
        have KT := fun W => Lib.hid (rdig_any (runeAt xs k) W (by omega))
        have KP := fun W => Lib.hid (rplain_any (runeAt xs k) W hrl)
        have htl := (twoN_len (n := runeAt xs k) (by omega)).1
        have hnb : ¬ (runeAt xs k = 65533) ∨ ((runeAt xs k = 65533) ∧ ¬ (widAt xs k = 1)) := by
          by_cases h1 : runeAt xs k = 65533
          · exact .inr ⟨h1, fun h2 => hb (hbk.2 ⟨h1, h2⟩)⟩
          · exact .inl h1
        have hways : (((runeAt xs k : Int) == 65533) = false) ∨ (((runeAt xs k : Int) == 65533) = true ∧ ((widAt xs k : Int) == 1) = false) := by
          rcases hnb with h | ⟨h, h2⟩
          · exact .inl (by rw [beq_eq_false_iff_ne]; omega)
          · exact .inr ⟨by rw [beq_iff_eq]; omega, by rw [beq_eq_false_iff_ne]; omega⟩
        clear hb hbk hnb
        by_cases hpb : plainB (runeAt xs k) = true ∧ runeAt xs k ≠ 92
        · rw [if_pos hpb] at HO
          rw [hpb.1] at KP
          have h33 : 32 < runeAt xs k ∧ runeAt xs k < 127 := by have := hpb.1; unfold plainB at this; rwa [decide_eq_true_iff] at this
          obtain ⟨p1, p2⟩ := h33
          have p3 := hpb.2
          have hw1 : ((runeAt xs k : Int) == 65533) = false := by rw [beq_eq_false_iff_ne]; omega
          clear hpp hpb KT hways
          generalize escOne xs k = eo at *
          generalize runeAt xs k = r at *
          generalize xs.drop k = dk at *
          generalize widAt xs k = wd at *
          have q1 : (r : Int) < 127 := by omega
          have q3 : ((r : Int) != 92) = true := by rw [bne_iff_ne]; omega
          have hwr : IntKind.u8.wrap (r : Int) = r := by simp [IntKind.wrap, IntKind.signed, IntKind.bits]; omega
          go_wp2_with fail
          refine KD.out.mono ?_
          rintro e w3 ⟨rfl, hb3⟩
          replace hB2 := below_then hB2 hb3 hB2.size
          replace hI2 := hI2.below hb3
          replace hown2 := own_below hown2 hb3
          clear hb3 KD hLi
          go_wp2_with fail
          refine (KP _).out.mono ?_
          rintro e w4 ⟨rfl, rfl⟩
          have hsz := hI2.sz
          go_wp2_with (first
            | (at_builtin; refine wpl_append1 rfl (.tmp 50) (.tmp 53) 39 rfl (w.heap.size + 1) 5 (.int .u8 0) 1 1 Tryd.underlying39 info_u8' rfl (by decide) _ acc.length _ rfl hown2 #[.int .u8 (r : Int)] (0, 0) 1 rfl rfl one8 (by unfold maxLen; omega) (by omega) hsz ?_; intro v5 w5 hown5 hg5))
          have hI5 := hI2.grown hown2 (Nat.lt_succ_self _) hg5
          have hB5 := hB2.grown hg5 hB2.size (fun k hk => by have := (hown2.lt k hk).1; omega)
          clear hg5
          have hown6 : w5.ownsRow (w.heap.size + 1) 5 1 v5 (acc ++ eo).length (bs (acc ++ eo)) := by
            rw [bs_append, HO.out, List.length_append]
            have e : bs [UInt8.ofNat r] = [.int .u8 (r : Int)] := by
              simp only [bs, List.map_cons, List.map_nil, UInt8.toNat_ofNat']
              congr 2 <;> omega
            rw [e]
            exact hown5
          go_roundw
          case rel => exact ⟨k + wd, acc ++ eo, by omega, by simp; omega, HE, hown6, hI5, hB5⟩
          case measure => rw [hI5.pos, HM.out]; omega
        · rw [if_neg hpb] at HO
          have hways2 : plainB (runeAt xs k) = false ∨ (plainB (runeAt xs k) = true ∧ runeAt xs k = 92) := by
            cases hq : plainB (runeAt xs k) with
            | false => exact .inl rfl
            | true =>
              refine .inr ⟨rfl, ?_⟩
              by_cases h : runeAt xs k = 92
              · exact h
              · exact absurd ⟨hq, h⟩ hpb
          have hways3 : plainB (runeAt xs k) = false ∨ (plainB (runeAt xs k) = true ∧ ((runeAt xs k : Int) != 92) = false) := hways2.imp id (fun h => ⟨h.1, by rw [bne_eq_false_iff_eq]; omega⟩)
          clear hpp hpb hways2
          generalize hplb : plainB (runeAt xs k) = pb at *
          clear hplb
          generalize escOne xs k = eo at *
          generalize runeAt xs k = r at *
          generalize xs.drop k = dk at *
          generalize widAt xs k = wd at *
          generalize twoN r = tw at *
          have l2 : ¬ (9223372036854775807 < [(92 : UInt8)].length + tw.length) := by simp; omega
          have l3 : ¬ (9223372036854775807 < ([(92 : UInt8)] ++ tw).length + [(46 : UInt8)].length) := by simp; omega
          rcases hways with hq1 | ⟨hq1, hq2⟩ <;> rcases hways3 with rfl | ⟨rfl, hq3⟩
          all_goals
            go_wp2_with fail
            refine KD.out.mono ?_
            rintro e w3 ⟨rfl, hb3⟩
            replace hB2 := below_then hB2 hb3 hB2.size
            replace hI2 := hI2.below hb3
            replace hown2 := own_below hown2 hb3
            clear hb3 KD hLi
            go_wp2_with fail
            refine (KP _).out.mono ?_
            rintro e w4 ⟨rfl, rfl⟩
            have hsz := hI2.sz
            go_wp2_with fail
            refine (KT _).out.mono ?_
            rintro e w4 ⟨rfl, rfl⟩
            go_wp2_with (first
              | (at_builtin; refine wpl_append_str rfl (.tmp 21) (.tmp 25) 39 9 rfl (w.heap.size + 1) 5 Tryd.underlying39 Tryd.underlying9 info_u8' _ acc rfl hown2 ([92] ++ tw ++ [46]) (by first | rfl | simp) (by simp; omega) hsz ?_; intro v5 w5 hown5 hg5))
            have hI5 := hI2.grown hown2 (Nat.lt_succ_self _) hg5
            have hB5 := hB2.grown hg5 hB2.size (fun k hk => by have := (hown2.lt k hk).1; omega)
            clear hg5
            go_roundw
            case rel => exact ⟨k + wd, acc ++ eo, by omega, by simp; omega, HE, by rw [HO.out]; exact hown5, hI5, hB5⟩
            case measure => rw [hI5.pos, HM.out]; omega
    · obtain rfl : k = xs.length := by omega
      have hnx := hI.stop hkl
      have HE : Hid (escF xs 0 = acc) := by
        show _ = _
        rw [HG.out]
        conv => lhs; rhs; rw [escF]
        rw [dif_neg (by omega)]
        simp
      obtain ⟨A, c, rfl, hr, -⟩ := Rd.of_own hown
      have hst := run_string_of (P := Tryd.prog) 39 9 5 Tryd.underlying39 Tryd.underlying5 Tryd.underlying9 hr
      clear HG
      go_wp2_with fail
      go_ret
      exact ⟨by rw [HE.out]; rfl, hB⟩
end Go.Proofs.YtefipigdkdopcaaDoor
