/- Contract of eid.Parse. Asked: that the library's variable holds a number; the length's bound. -/
import Derived.Test.YtieigjlbjiielaaDoorEid4E
namespace Go.Proofs.YtieigjlbjiielaaDoor
open Go.RowKit

/-- What the library's variable holds. -/
def LM (w : World) : Prop := ∃ m : Int, w.cell? ⟨2, 0, none⟩ = some (.int .i64 m)
theorem LM.below {w w1 : World} (h : LM w) (hb : Below w.heap.size w w1) : LM w1 := by
  obtain ⟨m, hm⟩ := h
  exact ⟨m, cell_below hb hm⟩
theorem cut_le (s p : List UInt8) : (Lib.cut s p).1.length ≤ s.length ∧ (Lib.cut s p).2.1.length ≤ s.length := by
  unfold Lib.cut
  split
  · refine ⟨by simp; try omega, by simp; try omega⟩
  · exact ⟨Nat.le_refl _, by simp⟩
theorem trim_le (s p : List UInt8) : (Lib.trimPrefix s p).length ≤ s.length := by
  unfold Lib.trimPrefix
  split
  · simp
  · exact Nat.le_refl _
theorem ecut_any (s p : List UInt8) (w : World) (hN : s.length ≤ 1000) (hL : LM w) : Calls Tryd.prog 33 #[.string ⟨s.toArray⟩, .string ⟨p.toArray⟩] w fun e w' => e = .returned (.tuple #[.string ⟨(Lib.cut s p).1.toArray⟩, .string ⟨(Lib.cut s p).2.1.toArray⟩, .bool (Lib.cut s p).2.2]) ∧ Below w.heap.size w w' := by
  obtain ⟨m, hm⟩ := hL
  refine (Tryd.strings_Cut ⟨s.toArray⟩ ⟨p.toArray⟩ m w (by rw [size_list]; omega) hm).mono (fun e w' h => ?_)
  obtain ⟨he, n, rfl⟩ := h
  exact ⟨he, below_drewN (Below.refl _ _) n⟩
theorem ecutp_any (s p : List UInt8) (w : World) : Calls Tryd.prog 34 #[.string ⟨s.toArray⟩, .string ⟨p.toArray⟩] w fun e w' => e = .returned (.tuple #[.string ⟨(Lib.trimPrefix s p).toArray⟩, .bool (Lib.hasPrefix s p)]) ∧ w = w' :=
  (Tryd.strings_CutPrefix ⟨s.toArray⟩ ⟨p.toArray⟩ w).mono (fun e w' h => ⟨h.1, h.2.symm⟩)
/-- What Parse answers: a name whose text that is, or an error. -/
def parsed (e : Ending) (s : List UInt8) : Prop :=
  (∃ (sc : Int) (nm : List UInt8) (nd sv : Nat), e = .returned (.tuple #[eidV sc nm nd sv, .int .i64 0]) ∧ rightE sc nm nd sv = true ∧ textE sc nm nd sv = s ∧ nm.length ≤ 1000 ∧ nd < 18446744073709551616 ∧ sv < 18446744073709551616) ∨
  e = .returned (.tuple #[eidV 0 [] 0 0, .int .i64 6])

/-- The end of Parse: the name's text is asked. -/
theorem text_any (sc : Int) (nm : List UInt8) (nd sv : Nat) (w : World) (hd : nd < 18446744073709551616) (hs : sv < 18446744073709551616) : Calls Tryd.prog 12 #[eidV sc nm nd sv] w fun e w' => e = .returned (.tuple #[.string ⟨(if rightE sc nm nd sv then textE sc nm nd sv else []).toArray⟩, .int .i64 (if rightE sc nm nd sv then 0 else 2 : Nat)]) ∧ Below w.heap.size w w' := by
  cases h : rightE sc nm nd sv with
  | true => exact (etext_yes sc nm nd sv w h hd hs).mono (fun e w' g => ⟨by rw [g.1]; rfl, g.2⟩)
  | false => exact (etext_no sc nm nd sv w h).mono (fun e w' g => ⟨by rw [g.1]; rfl, g.2⟩)

set_option maxRecDepth 100000 in
set_option maxHeartbeats 4000000 in
theorem eparse_any (s : List UInt8) (w : World) (hN : s.length ≤ 1000) (hL : LM w) : Calls Tryd.prog 17 #[.string ⟨s.toArray⟩] w fun e w' => parsed e s ∧ Below w.heap.size w w' := by
  obtain ⟨hB, hc⟩ := one_cells w #[.int .i64 0, .string ⟨#[]⟩, .int .u64 0, .int .u64 0] 40
  have hR := alloc_new w (.cells #[.int .i64 0, .string ⟨#[]⟩, .int .u64 0, .int .u64 0] 40 (0, 0))
  have HL1 := Lib.hid (hL.below hB)
  have K1 : ∀ W, Hid (Calls Tryd.prog 34 #[.string ⟨s.toArray⟩, .string ⟨#[105, 112, 110, 58]⟩] W fun e w' => e = .returned (.tuple #[.string ⟨(Lib.trimPrefix s [105, 112, 110, 58]).toArray⟩, .bool (Lib.hasPrefix s [105, 112, 110, 58])]) ∧ W = w') := fun W => Lib.hid (ecutp_any s [105, 112, 110, 58] W)
  have K2 : ∀ W, Hid (Calls Tryd.prog 34 #[.string ⟨s.toArray⟩, .string ⟨#[100, 116, 110, 58]⟩] W fun e w' => e = .returned (.tuple #[.string ⟨(Lib.trimPrefix s [100, 116, 110, 58]).toArray⟩, .bool (Lib.hasPrefix s [100, 116, 110, 58])]) ∧ W = w') := fun W => Lib.hid (ecutp_any s [100, 116, 110, 58] W)
  have hl1 := trim_le s [105, 112, 110, 58]
  have hl2 := trim_le s [100, 116, 110, 58]
  generalize Lib.trimPrefix s [105, 112, 110, 58] = t1 at *
  generalize Lib.trimPrefix s [100, 116, 110, 58] = t2 at *
  generalize Lib.hasPrefix s [100, 116, 110, 58] = b2 at *
  have hlt := heap_lt hR
  clear hc hL
  cases hp : Lib.hasPrefix s [105, 112, 110, 58] with
  | true =>
    rw [hp] at K1
    clear hp K2 hl2
    have KC : ∀ W, LM W → Hid (Calls Tryd.prog 33 #[.string ⟨t1.toArray⟩, .string ⟨#[46]⟩] W fun e w' => e = .returned (.tuple #[.string ⟨(Lib.cut t1 [46]).1.toArray⟩, .string ⟨(Lib.cut t1 [46]).2.1.toArray⟩, .bool (Lib.cut t1 [46]).2.2]) ∧ Below W.heap.size W w') := fun W h => Lib.hid (ecut_any t1 [46] W (by omega) h)
    obtain ⟨g1, g2⟩ := cut_le t1 [46]
    generalize (Lib.cut t1 [46]).1 = u1 at *
    generalize (Lib.cut t1 [46]).2.1 = u2 at *
    generalize (Lib.cut t1 [46]).2.2 = u3 at *
    go_enter Tryd.func17, Tryd.ntmps17
    go_upto_region 1 with fail
    generalize w.alloc (.cells #[.int .i64 0, .string ⟨#[]⟩, .int .u64 0, .int .u64 0] 40) = w1 at *
    go_wp2_with fail
    refine (enone_any _).mono ?_
    rintro e w2 ⟨rfl, hb⟩
    have HL2 := Lib.hid (HL1.out.below hb)
    replace hR := heap_below hb hR
    replace hB := below_trans hB hb
    clear hb HL1
    go_upto_region 2 with fail
    have hC := alloc_new w2 (.cells #[.int .i64 1, .string ⟨([] : List UInt8).toArray⟩, .int .u64 0, .int .u64 0] 40 (0, 0))
    have hbA := (one_cells w2 #[.int .i64 1, .string ⟨([] : List UInt8).toArray⟩, .int .u64 0, .int .u64 0] 40).1
    have HL3 := Lib.hid (HL2.out.below hbA)
    have hgs : w.heap.size < w2.heap.size := heap_lt hR
    replace hR := heap_below hbA hR
    replace hB := below_trans hB hbA
    clear HL2 hbA
    generalize w2.alloc (.cells #[.int .i64 1, .string ⟨([] : List UInt8).toArray⟩, .int .u64 0, .int .u64 0] 40) = w3 at *
    generalize w2.heap.size = g4 at *
    go_wp2_with fail
    refine (K1 _).out.mono ?_
    rintro e w4 ⟨rfl, rfl⟩
    go_wp2_with fail
    refine (KC _ HL3.out).out.mono ?_
    rintro e w5 ⟨rfl, hb⟩
    replace hR := heap_below hb hR
    replace hC := heap_below hb hC
    replace hB := below_trans hB hb
    clear hb HL3 K1 KC
    go_wp2_with fail
    refine (enumber_any u1 _ (by omega)).mono ?_
    rintro e w6 ⟨⟨n1, hn1, -, rfl⟩, hb⟩
    replace hR := heap_below hb hR
    replace hC := heap_below hb hC
    replace hB := below_trans hB hb
    clear hb
    go_wp2_with fail
    refine (enumber_any u2 _ (by omega)).mono ?_
    rintro e w7 ⟨⟨n2, hn2, -, rfl⟩, hb⟩
    replace hR := heap_below hb hR
    replace hC := heap_below hb hC
    replace hB := below_trans hB hb
    clear hb
    obtain ⟨⟨y0, y1, y2, y3⟩, k0, k1, k2, k3⟩ := four_cells hC
    go_upto_region 8 with fail
    have hC2 := four_heap hC (.int .i64 2) (.string ⟨([] : List UInt8).toArray⟩) (.int .u64 (n1 : Int)) (.int .u64 (n2 : Int))
    have hG := four_gb w7 g4 (.int .i64 2) (.string ⟨([] : List UInt8).toArray⟩) (.int .u64 (n1 : Int)) (.int .u64 (n2 : Int))
    have hR2 := gb_heap hG hR (by simp; omega)
    have hB2 := below_gbw hG hB (by omega)
    generalize ((((w7.setCell ⟨g4, 0, none⟩ (.int .i64 2)).setCell ⟨g4, 1, none⟩ (.string ⟨([] : List UInt8).toArray⟩)).setCell ⟨g4, 2, none⟩ (.int .u64 (n1 : Int))).setCell ⟨g4, 3, none⟩ (.int .u64 (n2 : Int))) = wz at *
    clear hC hG hR hB y0 y1 y2 y3 k0 k1 k2 k3
    have hC := hC2
    have hR := hR2
    have hB := hB2
    clear hC2 hR2 hB2
    obtain ⟨⟨q0, q1, q2, q3⟩, -⟩ := four_cells hC
    have KT := fun W => Lib.hid (text_any (2) ([] : List UInt8) n1 n2 W hn1 hn2)
    cases hr : rightE (2) ([] : List UInt8) n1 n2 with
    | false =>
      rw [hr] at KT
      simp only [Bool.false_eq_true, if_false] at KT
      go_wp2_with fail
      refine (KT _).out.mono ?_
      rintro e w8 ⟨rfl, hb⟩
      replace hR := heap_below hb hR
      replace hB := below_trans hB hb
      clear hb
      obtain ⟨⟨z0, z1, z2, z3⟩, f0, f1, f2, f3⟩ := four_cells hR
      go_wp2_with fail
      have hh9 := four_heap hR (.int .i64 0) (.string ⟨([] : List UInt8).toArray⟩) (.int .u64 0) (.int .u64 0)
      have hB9 := below_gbw (four_gb w8 w.heap.size (.int .i64 0) (.string ⟨([] : List UInt8).toArray⟩) (.int .u64 0) (.int .u64 0)) hB (Nat.le_refl _)
      obtain ⟨⟨r0, r1, r2, r3⟩, -⟩ := four_cells hh9
      refine bodyPost_ret (v := .tuple #[eidV 0 ([] : List UInt8) 0 0, .int .i64 6]) ?_ rfl ⟨.inr rfl, hB9⟩
      simp [results, Tryd.results17, go_sem, r0, r1, r2, r3]
    | true =>
      rw [hr] at KT
      simp only [if_true] at KT
      by_cases hts : textE (2) ([] : List UInt8) n1 n2 = s
      · have HTS := Lib.hid hts
        have HRT := Lib.hid hr
        rw [hts] at KT
        clear hts hr
        go_wp2_with fail
        refine (KT _).out.mono ?_
        rintro e w8 ⟨rfl, hb⟩
        replace hR := heap_below hb hR
        replace hC := heap_below hb hC
        replace hB := below_trans hB hb
        clear hb q0 q1 q2 q3
        obtain ⟨⟨q0, q1, q2, q3⟩, -⟩ := four_cells hC
        obtain ⟨⟨z0, z1, z2, z3⟩, f0, f1, f2, f3⟩ := four_cells hR
        go_wp2_with fail
        have hh9 := four_heap hR (.int .i64 2) (.string ⟨([] : List UInt8).toArray⟩) (.int .u64 (n1 : Int)) (.int .u64 (n2 : Int))
        have hB9 := below_gbw (four_gb w8 w.heap.size (.int .i64 2) (.string ⟨([] : List UInt8).toArray⟩) (.int .u64 (n1 : Int)) (.int .u64 (n2 : Int))) hB (Nat.le_refl _)
        obtain ⟨⟨r0, r1, r2, r3⟩, -⟩ := four_cells hh9
        refine bodyPost_ret (v := .tuple #[eidV 2 ([] : List UInt8) (n1 : Int) (n2 : Int), .int .i64 0]) ?_ rfl ⟨.inl ⟨2, [], n1, n2, rfl, HRT.out, HTS.out, by decide, hn1, hn2⟩, hB9⟩
        simp [results, Tryd.results17, go_sem, r0, r1, r2, r3]
      · have hts2 : (textE (2) ([] : List UInt8) n1 n2 == s) = false := by simpa using hts
        clear hts hr
        generalize textE (2) ([] : List UInt8) n1 n2 = tx at *
        go_wp2_with fail
        refine (KT _).out.mono ?_
        rintro e w8 ⟨rfl, hb⟩
        replace hR := heap_below hb hR
        replace hB := below_trans hB hb
        clear hb
        obtain ⟨⟨z0, z1, z2, z3⟩, f0, f1, f2, f3⟩ := four_cells hR
        go_wp2_with fail
        have hh9 := four_heap hR (.int .i64 0) (.string ⟨([] : List UInt8).toArray⟩) (.int .u64 0) (.int .u64 0)
        have hB9 := below_gbw (four_gb w8 w.heap.size (.int .i64 0) (.string ⟨([] : List UInt8).toArray⟩) (.int .u64 0) (.int .u64 0)) hB (Nat.le_refl _)
        obtain ⟨⟨r0, r1, r2, r3⟩, -⟩ := four_cells hh9
        refine bodyPost_ret (v := .tuple #[eidV 0 ([] : List UInt8) 0 0, .int .i64 6]) ?_ rfl ⟨.inr rfl, hB9⟩
        simp [results, Tryd.results17, go_sem, r0, r1, r2, r3]
  | false =>
    rw [hp] at K1
    clear hp hl1
    go_enter Tryd.func17, Tryd.ntmps17
    go_upto_region 1 with fail
    generalize w.alloc (.cells #[.int .i64 0, .string ⟨#[]⟩, .int .u64 0, .int .u64 0] 40) = w1 at *
    go_wp2_with fail
    refine (enone_any _).mono ?_
    rintro e w2 ⟨rfl, hb⟩
    have HL2 := Lib.hid (HL1.out.below hb)
    replace hR := heap_below hb hR
    replace hB := below_trans hB hb
    clear hb HL1
    go_upto_region 2 with fail
    have hC := alloc_new w2 (.cells #[.int .i64 1, .string ⟨([] : List UInt8).toArray⟩, .int .u64 0, .int .u64 0] 40 (0, 0))
    have hbA := (one_cells w2 #[.int .i64 1, .string ⟨([] : List UInt8).toArray⟩, .int .u64 0, .int .u64 0] 40).1
    have HL3 := Lib.hid (HL2.out.below hbA)
    have hgs : w.heap.size < w2.heap.size := heap_lt hR
    replace hR := heap_below hbA hR
    replace hB := below_trans hB hbA
    clear HL2 hbA
    generalize w2.alloc (.cells #[.int .i64 1, .string ⟨([] : List UInt8).toArray⟩, .int .u64 0, .int .u64 0] 40) = w3 at *
    generalize w2.heap.size = g4 at *
    by_cases hdn : s = [100, 116, 110, 58, 110, 111, 110, 101]
    · have hdn2 : (s == [100, 116, 110, 58, 110, 111, 110, 101]) = true := by simpa using hdn
      clear K2 hdn
      go_wp2_with fail
      refine (K1 _).out.mono ?_
      rintro e w4 ⟨rfl, rfl⟩
      clear K1
      go_upto_region 8 with fail
      obtain ⟨⟨q0, q1, q2, q3⟩, -⟩ := four_cells hC
      have KT := fun W => Lib.hid (text_any (1) ([] : List UInt8) 0 0 W (by decide) (by decide))
      cases hr : rightE (1) ([] : List UInt8) 0 0 with
      | false =>
        rw [hr] at KT
        simp only [Bool.false_eq_true, if_false] at KT
        go_wp2_with fail
        refine (KT _).out.mono ?_
        rintro e w8 ⟨rfl, hb⟩
        replace hR := heap_below hb hR
        replace hB := below_trans hB hb
        clear hb
        obtain ⟨⟨z0, z1, z2, z3⟩, f0, f1, f2, f3⟩ := four_cells hR
        go_wp2_with fail
        have hh9 := four_heap hR (.int .i64 0) (.string ⟨([] : List UInt8).toArray⟩) (.int .u64 0) (.int .u64 0)
        have hB9 := below_gbw (four_gb w8 w.heap.size (.int .i64 0) (.string ⟨([] : List UInt8).toArray⟩) (.int .u64 0) (.int .u64 0)) hB (Nat.le_refl _)
        obtain ⟨⟨r0, r1, r2, r3⟩, -⟩ := four_cells hh9
        refine bodyPost_ret (v := .tuple #[eidV 0 ([] : List UInt8) 0 0, .int .i64 6]) ?_ rfl ⟨.inr rfl, hB9⟩
        simp [results, Tryd.results17, go_sem, r0, r1, r2, r3]
      | true =>
        rw [hr] at KT
        simp only [if_true] at KT
        by_cases hts : textE (1) ([] : List UInt8) 0 0 = s
        · have HTS := Lib.hid hts
          have HRT := Lib.hid hr
          rw [hts] at KT
          clear hts hr
          go_wp2_with fail
          refine (KT _).out.mono ?_
          rintro e w8 ⟨rfl, hb⟩
          replace hR := heap_below hb hR
          replace hC := heap_below hb hC
          replace hB := below_trans hB hb
          clear hb q0 q1 q2 q3
          obtain ⟨⟨q0, q1, q2, q3⟩, -⟩ := four_cells hC
          obtain ⟨⟨z0, z1, z2, z3⟩, f0, f1, f2, f3⟩ := four_cells hR
          go_wp2_with fail
          have hh9 := four_heap hR (.int .i64 1) (.string ⟨([] : List UInt8).toArray⟩) (.int .u64 (0 : Int)) (.int .u64 (0 : Int))
          have hB9 := below_gbw (four_gb w8 w.heap.size (.int .i64 1) (.string ⟨([] : List UInt8).toArray⟩) (.int .u64 (0 : Int)) (.int .u64 (0 : Int))) hB (Nat.le_refl _)
          obtain ⟨⟨r0, r1, r2, r3⟩, -⟩ := four_cells hh9
          refine bodyPost_ret (v := .tuple #[eidV 1 ([] : List UInt8) (0 : Int) (0 : Int), .int .i64 0]) ?_ rfl ⟨.inl ⟨1, [], 0, 0, rfl, HRT.out, HTS.out, by decide, (by decide), (by decide)⟩, hB9⟩
          simp [results, Tryd.results17, go_sem, r0, r1, r2, r3]
        · have hts2 : (textE (1) ([] : List UInt8) 0 0 == s) = false := by simpa using hts
          clear hts hr
          generalize textE (1) ([] : List UInt8) 0 0 = tx at *
          go_wp2_with fail
          refine (KT _).out.mono ?_
          rintro e w8 ⟨rfl, hb⟩
          replace hR := heap_below hb hR
          replace hB := below_trans hB hb
          clear hb
          obtain ⟨⟨z0, z1, z2, z3⟩, f0, f1, f2, f3⟩ := four_cells hR
          go_wp2_with fail
          have hh9 := four_heap hR (.int .i64 0) (.string ⟨([] : List UInt8).toArray⟩) (.int .u64 0) (.int .u64 0)
          have hB9 := below_gbw (four_gb w8 w.heap.size (.int .i64 0) (.string ⟨([] : List UInt8).toArray⟩) (.int .u64 0) (.int .u64 0)) hB (Nat.le_refl _)
          obtain ⟨⟨r0, r1, r2, r3⟩, -⟩ := four_cells hh9
          refine bodyPost_ret (v := .tuple #[eidV 0 ([] : List UInt8) 0 0, .int .i64 6]) ?_ rfl ⟨.inr rfl, hB9⟩
          simp [results, Tryd.results17, go_sem, r0, r1, r2, r3]
    · have hdn2 : (s == [100, 116, 110, 58, 110, 111, 110, 101]) = false := by simpa using hdn
      clear hdn
      go_wp2_with fail
      refine (K1 _).out.mono ?_
      rintro e w4 ⟨rfl, rfl⟩
      clear K1
      go_wp2_with fail
      refine (K2 _).out.mono ?_
      rintro e w4 ⟨rfl, rfl⟩
      clear K2
      obtain ⟨⟨y0, y1, y2, y3⟩, k0, k1, k2, k3⟩ := four_cells hC
      go_upto_region 8 with fail
      have hC2 := set_heap (o := 1) hC (.string ⟨t2.toArray⟩)
      have hG := gb_set w3 g4 1 (.string ⟨t2.toArray⟩)
      have hR2 := gb_heap hG hR (by simp; omega)
      have hB2 := below_gbw hG hB (by omega)
      generalize w3.setCell ⟨g4, 1, none⟩ (.string ⟨t2.toArray⟩) = wz at *
      clear hC hG hR hB y0 y1 y2 y3 k0 k1 k2 k3
      have hC : wz.heap[g4]? = some (.cells #[.int .i64 1, .string ⟨t2.toArray⟩, .int .u64 0, .int .u64 0] 40 (0, 0)) := hC2
      have hR := hR2
      have hB := hB2
      clear hC2 hR2 hB2
      obtain ⟨⟨q0, q1, q2, q3⟩, -⟩ := four_cells hC
      have KT := fun W => Lib.hid (text_any (1) (t2) 0 0 W (by decide) (by decide))
      cases hr : rightE (1) (t2) 0 0 with
      | false =>
        rw [hr] at KT
        simp only [Bool.false_eq_true, if_false] at KT
        go_wp2_with fail
        refine (KT _).out.mono ?_
        rintro e w8 ⟨rfl, hb⟩
        replace hR := heap_below hb hR
        replace hB := below_trans hB hb
        clear hb
        obtain ⟨⟨z0, z1, z2, z3⟩, f0, f1, f2, f3⟩ := four_cells hR
        go_wp2_with fail
        have hh9 := four_heap hR (.int .i64 0) (.string ⟨([] : List UInt8).toArray⟩) (.int .u64 0) (.int .u64 0)
        have hB9 := below_gbw (four_gb w8 w.heap.size (.int .i64 0) (.string ⟨([] : List UInt8).toArray⟩) (.int .u64 0) (.int .u64 0)) hB (Nat.le_refl _)
        obtain ⟨⟨r0, r1, r2, r3⟩, -⟩ := four_cells hh9
        refine bodyPost_ret (v := .tuple #[eidV 0 ([] : List UInt8) 0 0, .int .i64 6]) ?_ rfl ⟨.inr rfl, hB9⟩
        simp [results, Tryd.results17, go_sem, r0, r1, r2, r3]
      | true =>
        rw [hr] at KT
        simp only [if_true] at KT
        by_cases hts : textE (1) (t2) 0 0 = s
        · have HTS := Lib.hid hts
          have HRT := Lib.hid hr
          rw [hts] at KT
          clear hts hr
          go_wp2_with fail
          refine (KT _).out.mono ?_
          rintro e w8 ⟨rfl, hb⟩
          replace hR := heap_below hb hR
          replace hC := heap_below hb hC
          replace hB := below_trans hB hb
          clear hb q0 q1 q2 q3
          obtain ⟨⟨q0, q1, q2, q3⟩, -⟩ := four_cells hC
          obtain ⟨⟨z0, z1, z2, z3⟩, f0, f1, f2, f3⟩ := four_cells hR
          go_wp2_with fail
          have hh9 := four_heap hR (.int .i64 1) (.string ⟨(t2).toArray⟩) (.int .u64 (0 : Int)) (.int .u64 (0 : Int))
          have hB9 := below_gbw (four_gb w8 w.heap.size (.int .i64 1) (.string ⟨(t2).toArray⟩) (.int .u64 (0 : Int)) (.int .u64 (0 : Int))) hB (Nat.le_refl _)
          obtain ⟨⟨r0, r1, r2, r3⟩, -⟩ := four_cells hh9
          refine bodyPost_ret (v := .tuple #[eidV 1 (t2) (0 : Int) (0 : Int), .int .i64 0]) ?_ rfl ⟨.inl ⟨1, t2, 0, 0, rfl, HRT.out, HTS.out, by omega, (by decide), (by decide)⟩, hB9⟩
          simp [results, Tryd.results17, go_sem, r0, r1, r2, r3]
        · have hts2 : (textE (1) (t2) 0 0 == s) = false := by simpa using hts
          clear hts hr
          generalize textE (1) (t2) 0 0 = tx at *
          go_wp2_with fail
          refine (KT _).out.mono ?_
          rintro e w8 ⟨rfl, hb⟩
          replace hR := heap_below hb hR
          replace hB := below_trans hB hb
          clear hb
          obtain ⟨⟨z0, z1, z2, z3⟩, f0, f1, f2, f3⟩ := four_cells hR
          go_wp2_with fail
          have hh9 := four_heap hR (.int .i64 0) (.string ⟨([] : List UInt8).toArray⟩) (.int .u64 0) (.int .u64 0)
          have hB9 := below_gbw (four_gb w8 w.heap.size (.int .i64 0) (.string ⟨([] : List UInt8).toArray⟩) (.int .u64 0) (.int .u64 0)) hB (Nat.le_refl _)
          obtain ⟨⟨r0, r1, r2, r3⟩, -⟩ := four_cells hh9
          refine bodyPost_ret (v := .tuple #[eidV 0 ([] : List UInt8) 0 0, .int .i64 6]) ?_ rfl ⟨.inr rfl, hB9⟩
          simp [results, Tryd.results17, go_sem, r0, r1, r2, r3]
end Go.Proofs.YtieigjlbjiielaaDoor
