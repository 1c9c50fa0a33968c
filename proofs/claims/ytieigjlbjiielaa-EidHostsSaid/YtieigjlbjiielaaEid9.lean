/- The law EidHosts of layer 7, walked. Asked: that the library's variable holds a number. -/
import Derived.Test.YtieigjlbjiielaaEid8
namespace Go.Proofs.Ytieigjlbjiielaa
open Go.RowKit

/-- A text cut at the first byte c. -/
def cutAtB (c : UInt8) : List UInt8 → Option (List UInt8 × List UInt8)
  | [] => none
  | b :: r => if b = c then some ([], r) else (cutAtB c r).map (fun p => (b :: p.1, p.2))
theorem index_one (c : UInt8) (s : List UInt8) : (∀ p, cutAtB c s = some p → Lib.index s [c] = (p.1.length : Int) ∧ s = p.1 ++ c :: p.2) ∧ (cutAtB c s = none → Lib.index s [c] = -1) := by
  induction s with
  | nil => exact ⟨(fun p h => by cases h), (fun _ => by simp [Lib.index])⟩
  | cons b r ih =>
    unfold cutAtB Lib.index
    by_cases hb : b = c
    · subst hb
      rw [if_pos rfl]
      refine ⟨fun p h => ?_, (fun h => by cases h)⟩
      cases h
      simp
    · have hb2 : ([c] : List UInt8).isPrefixOf (b :: r) = false := by have hb' : ¬ c = b := fun e => hb e.symm
                                                                      simp [List.isPrefixOf, hb']
      rw [if_neg hb, hb2]
      cases hc : cutAtB c r with
      | none =>
        have := ih.2 hc
        rw [this]
        exact ⟨(fun p h => by cases h), (fun _ => by simp)⟩
      | some q =>
        obtain ⟨h1, h2⟩ := ih.1 q hc
        rw [h1]
        refine ⟨fun p h => ?_, (fun h => by cases h)⟩
        simp only [Option.map_some, Option.some.injEq] at h
        subst h
        refine ⟨?_, by conv => lhs; rw [h2]
                       simp⟩
        have : ((q.1.length : Int) == -1) = false := by rw [beq_eq_false_iff_ne]; omega
        simp only [Bool.false_eq_true, if_false, this, List.length_cons]
        omega
theorem cut_eq (c : UInt8) (s : List UInt8) : Lib.cut s [c] = match cutAtB c s with | some p => (p.1, p.2, true) | none => (s, [], false) := by
  obtain ⟨h1, h2⟩ := index_one c s
  unfold Lib.cut
  cases hc : cutAtB c s with
  | none =>
    rw [h2 hc]
    simp
  | some p =>
    obtain ⟨g1, g2⟩ := h1 p hc
    rw [g1]
    rw [if_pos (by simp)]
    dsimp only
    rw [Int.toNat_natCast]
    refine Prod.ext ?_ (Prod.ext ?_ rfl)
    · show s.take p.1.length = p.1
      rw [g2]; simp
    · show s.drop (p.1.length + [c].length) = p.2
      rw [g2]; simp

theorem cut_while (c : UInt8) (s : List UInt8) : (Lib.cut s [c]).1 = s.takeWhile (fun b => !(b == c)) := by
  rw [cut_eq]
  have key : ∀ l : List UInt8, (match cutAtB c l with | some p => p.1 | none => l) = l.takeWhile (fun b => !(b == c)) := by
    intro l
    induction l with
    | nil => rfl
    | cons b r ih =>
      unfold cutAtB
      by_cases hb : b = c
      · rw [if_pos hb, List.takeWhile_cons]
        have : (!(b == c)) = false := by simp [hb]
        rw [this]
        rfl
      · rw [if_neg hb, List.takeWhile_cons]
        have : (!(b == c)) = true := by simp [hb]
        rw [this, if_pos rfl, ← ih]
        cases cutAtB c r <;> rfl
  rw [← key s]
  cases cutAtB c s <;> rfl
theorem host_while {sc : Int} {nm : List UInt8} {nd sv : Nat} (h : rightE sc nm nd sv = true) : hostE sc nm nd = (if sc = 2 then digs nd else []) ++ (nm.drop 2).takeWhile (fun b => !(b == 47)) := by
  unfold hostE
  rcases right_cases h with ⟨rfl, rfl, rfl, rfl⟩ | ⟨rfl, rfl, rfl, hne, hnm⟩ | ⟨rfl, rfl⟩
  · rfl
  · rw [if_neg (by decide), if_neg hne, if_neg (by decide), cut_while]; rfl
  · rw [if_pos rfl]; simp
theorem ext_one (nm : List UInt8) (j : Nat) (h : j < nm.length) : (⟨nm.toArray⟩ : ByteArray).extract j (j + 1) = ⟨([nm.getD j 0] : List UInt8).toArray⟩ := by
  rw [← take_one nm j h]
  apply ByteArray.ext
  simp [ByteArray.extract, ByteArray.copySlice]

set_option maxRecDepth 100000 in
set_option maxHeartbeats 4000000 in
theorem eidhosts_law (sc : Int) (nm : List UInt8) (nd sv : Nat) (w : World) (hL : LM w) (hd : nd < 18446744073709551616) (hs : sv < 18446744073709551616) : Calls Try.prog 8 #[eidV sc nm nd sv] w fun e w' => e = .returned (.bool true) ∧ Below w.heap.size w w' := by
  obtain ⟨hB, c0, c1, c2, c3⟩ := eid_cells w sc nm nd sv
  have KA := fun W h => Lib.hid (awake07_any W h)
  have HL0 := Lib.hid (hL.below hB)
  clear hL
  by_cases hn : 200 < nm.length
  · have hn' : (200 : Int) < (nm.length : Int) := by omega
    go_enter Try.func8, Try.ntmps8
    go_upto_region 1 with fail
    generalize w.alloc (.cells #[.int .i64 sc, .string ⟨nm.toArray⟩, .int .u64 (nd : Int), .int .u64 (sv : Int)] 29) = w0 at *
    go_wp2_with fail
    refine (KA _ HL0.out).out.mono ?_
    rintro e w1 ⟨rfl, hb⟩
    go_wp2_with fail
    go_ret
    exact ⟨rfl, below_trans hB hb⟩
  have hn' : ¬ (200 : Int) < (nm.length : Int) := by omega
  have KR := fun W => Lib.hid (rright_any sc nm nd sv W (by omega))
  cases hr : rightE sc nm nd sv with
  | false =>
    rw [hr] at KR
    clear hr
    go_enter Try.func8, Try.ntmps8
    go_upto_region 1 with fail
    generalize w.alloc (.cells #[.int .i64 sc, .string ⟨nm.toArray⟩, .int .u64 (nd : Int), .int .u64 (sv : Int)] 29) = w0 at *
    go_wp2_with fail
    refine (KR _).out.mono ?_
    rintro e w1 ⟨rfl, hb⟩
    have HL1 := Lib.hid (HL0.out.below hb)
    replace hB := below_trans hB hb
    clear hb HL0
    go_wp2_with fail
    refine (KA _ HL1.out).out.mono ?_
    rintro e w2 ⟨rfl, hb⟩
    go_wp2_with fail
    go_ret
    exact ⟨rfl, below_trans hB hb⟩
  | true =>
    rw [hr] at KR
    have KH := fun W h => Lib.hid (ehost_yes sc nm nd sv W hr hd h)
    have HW := Lib.hid (host_while hr)
    have KD := fun W => Lib.hid (digits7_any nd W hd)
    have hdl := digs_len hd
    have hnm : nm.length ≤ 200 := by omega
    have hsc : sc = 2 ∨ (sc = 1 ∧ (sc == 2) = false) := by
      rcases right_cases hr with ⟨rfl, _⟩ | ⟨rfl, _⟩ | ⟨rfl, _⟩
      · exact .inr ⟨rfl, rfl⟩
      · exact .inr ⟨rfl, rfl⟩
      · exact .inl rfl
    have HI : Hid (∀ j, (∀ h : j < (⟨nm.toArray⟩ : ByteArray).size, ((⟨nm.toArray⟩ : ByteArray)[j]'h) = nm.getD j 0) ∧ (∀ h : j < nm.length, nm[j]'h = nm.getD j 0)) := fun j => ⟨fun h => index_list nm j h, fun h => by rw [List.getD_eq_getElem?_getD, List.getElem?_eq_getElem h]; rfl⟩
    have HX := Lib.hid (ext_one nm)
    have HDr : Hid (∀ j, j < nm.length → nm.drop j = nm.getD j 0 :: nm.drop (j + 1)) := fun j hj => by
      rw [List.drop_eq_getElem_cons hj, List.getD_eq_getElem?_getD, List.getElem?_eq_getElem hj]; rfl
    generalize hostE sc nm nd = ho at *
    clear hr hd hs hn
    rcases hsc with rfl | ⟨rfl, hsc2⟩
    all_goals
      first | rw [if_pos rfl] at HW | rw [if_neg (by decide)] at HW
      go_enter Try.func8, Try.ntmps8
      go_upto_region 1 with fail
      generalize w.alloc (.cells #[.int .i64 _, .string ⟨nm.toArray⟩, .int .u64 (nd : Int), .int .u64 (sv : Int)] 29) = w0 at *
      go_wp2_with fail
      refine (KR _).out.mono ?_
      rintro e w1 ⟨rfl, hb⟩
      have HL1 := Lib.hid (HL0.out.below hb)
      replace hB := below_trans hB hb
      replace c0 := cell_below hb c0
      replace c1 := cell_below hb c1
      replace c2 := cell_below hb c2
      replace c3 := cell_below hb c3
      clear hb HL0 KR
      go_wp2_with (refine (KD _).out.mono ?_; rintro e w2 ⟨rfl, rfl⟩)
      generalize digs nd = dg at *
      go_loop [3, 4] (fun t i => ∃ (j : Nat) (acc : List UInt8), t = .string ⟨acc.toArray⟩ ∧ i = .int .i64 j ∧ j ≤ nm.length + 2 ∧ acc.length ≤ 20 + j ∧ Hid (ho = acc ++ (nm.drop j).takeWhile (fun b => !(b == 47)))) (fun _ i => nm.length + 2 - (intOf i).toNat)
      case atStart => first | exact ⟨2, dg, rfl, rfl, by omega, by omega, HW⟩ | exact ⟨2, [], rfl, rfl, by omega, by simp, HW⟩
      case round =>
        obtain ⟨j, acc, rfl, rfl, hj, hal, HG⟩ := hrel
        by_cases hlt : j < nm.length
        · have hlt' : (j : Int) < (nm.length : Int) := by omega
          obtain ⟨i1, i2⟩ := HI.out j
          have hx := HX.out j hlt
          have hdr := Lib.hid (HDr.out j hlt)
          have hcat : ¬ (9223372036854775807 < acc.length + 1) := by omega
          generalize nm.getD j 0 = c at *
          by_cases hc : c = 47
          · subst hc
            have HG2 : Hid (ho = acc) := by
              show _ = _
              rw [HG.out, hdr.out, List.takeWhile_cons]
              simp
            clear HG hdr
            go_wp2_with fail
            refine (KA _ HL1.out).out.mono ?_
            rintro e w3 ⟨rfl, hb⟩
            have HL3 := Lib.hid (HL1.out.below hb)
            replace hB := below_trans hB hb
            replace c0 := cell_below hb c0
            replace c1 := cell_below hb c1
            replace c2 := cell_below hb c2
            replace c3 := cell_below hb c3
            clear hb HL1
            go_wp2_with fail
            refine (KH _ HL3.out).out.mono ?_
            rintro e w4 ⟨rfl, hb⟩
            rw [HG2.out]
            go_wp2_with fail
            go_ret
            exact ⟨ret_bool (by simp), below_trans hB hb⟩
          · have hc2 : ((c.toNat : Int) != 47) = true := by
              rw [bne_iff_ne]
              intro e
              apply hc
              apply UInt8.toNat.inj
              show c.toNat = 47
              omega
            have hc3 : ¬ ((c.toNat : Int) = 47) := by rw [bne_iff_ne] at hc2; exact hc2
            have HG2 : Hid (ho = (acc ++ [c]) ++ (nm.drop (j + 1)).takeWhile (fun b => !(b == 47))) := by
              show _ = _
              rw [HG.out, hdr.out, List.takeWhile_cons]
              have : (!(c == 47)) = true := by simp [hc]
              rw [this, if_pos rfl]
              simp
            clear HG hdr hc
            go_wp2_with fail
            rw [cat_bytes]
            go_round
            case rel => exact ⟨j + 1, acc ++ [c], rfl, by go_num, by omega, by simp; omega, HG2⟩
            case measure => simp [intOf]; omega
        · have hlt' : ¬ (j : Int) < (nm.length : Int) := by omega
          have HG2 : Hid (ho = acc) := by
            show _ = _
            rw [HG.out, List.drop_eq_nil_of_le (by omega)]
            simp
          clear HG
          go_wp2_with fail
          refine (KA _ HL1.out).out.mono ?_
          rintro e w3 ⟨rfl, hb⟩
          have HL3 := Lib.hid (HL1.out.below hb)
          replace hB := below_trans hB hb
          replace c0 := cell_below hb c0
          replace c1 := cell_below hb c1
          replace c2 := cell_below hb c2
          replace c3 := cell_below hb c3
          clear hb HL1
          go_wp2_with fail
          refine (KH _ HL3.out).out.mono ?_
          rintro e w4 ⟨rfl, hb⟩
          rw [HG2.out]
          go_wp2_with fail
          go_ret
          exact ⟨ret_bool (by simp), below_trans hB hb⟩
end Go.Proofs.Ytieigjlbjiielaa
