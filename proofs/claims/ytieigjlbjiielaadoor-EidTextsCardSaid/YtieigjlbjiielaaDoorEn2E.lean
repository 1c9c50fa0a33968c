/- eid.Parse reads the text of a name that may be. Asked: that the library's variable holds a number. -/
import Derived.Test.YtieigjlbjiielaaDoorEid7E
import Derived.Test.YtieigjlbjiielaaDoorEn1E
namespace Go.Proofs.YtieigjlbjiielaaDoor
open Go.RowKit

/-- A text cut at the first byte c. -/
def cutAtB (c : UInt8) : List UInt8 → Option (List UInt8 × List UInt8)
  | [] => none
  | b :: r => if b = c then some ([], r) else (cutAtB c r).map (fun p => (b :: p.1, p.2))
theorem index_one (c : UInt8) (s : List UInt8) : (∀ p, cutAtB c s = some p → Lib.index s [c] = (p.1.length : Int) ∧ s = p.1 ++ c :: p.2) ∧ (cutAtB c s = none → Lib.index s [c] = -1) := by
  induction s with
  | nil => exact ⟨(fun p h => by cases h), (fun _ => by simp [Lib.index])⟩
  | cons b r ih =>
    unfold cutAtB Lib.index
    by_cases hb : b = c
    · subst hb
      rw [if_pos rfl]
      refine ⟨fun p h => ?_, (fun h => by cases h)⟩
      cases h
      simp
    · have hb2 : ([c] : List UInt8).isPrefixOf (b :: r) = false := by have hb' : ¬ c = b := fun e => hb e.symm
                                                                      simp [List.isPrefixOf, hb']
      rw [if_neg hb, hb2]
      cases hc : cutAtB c r with
      | none =>
        have := ih.2 hc
        rw [this]
        exact ⟨(fun p h => by cases h), (fun _ => by simp)⟩
      | some q =>
        obtain ⟨h1, h2⟩ := ih.1 q hc
        rw [h1]
        refine ⟨fun p h => ?_, (fun h => by cases h)⟩
        simp only [Option.map_some, Option.some.injEq] at h
        subst h
        refine ⟨?_, by conv => lhs; rw [h2]
                       simp⟩
        have : ((q.1.length : Int) == -1) = false := by rw [beq_eq_false_iff_ne]; omega
        simp only [Bool.false_eq_true, if_false, this, List.length_cons]
        omega
theorem cut_eq (c : UInt8) (s : List UInt8) : Lib.cut s [c] = match cutAtB c s with | some p => (p.1, p.2, true) | none => (s, [], false) := by
  obtain ⟨h1, h2⟩ := index_one c s
  unfold Lib.cut
  cases hc : cutAtB c s with
  | none =>
    rw [h2 hc]
    simp
  | some p =>
    obtain ⟨g1, g2⟩ := h1 p hc
    rw [g1]
    rw [if_pos (by simp)]
    dsimp only
    rw [Int.toNat_natCast]
    refine Prod.ext ?_ (Prod.ext ?_ rfl)
    · show s.take p.1.length = p.1
      rw [g2]; simp
    · show s.drop (p.1.length + [c].length) = p.2
      rw [g2]; simp
theorem cutAtB_free (c : UInt8) (p r : List UInt8) (h : ∀ d ∈ p, d ≠ c) : cutAtB c (p ++ c :: r) = some (p, r) := by
  induction p with
  | nil => simp [cutAtB]
  | cons d q ih =>
    rw [List.cons_append]
    unfold cutAtB
    rw [if_neg (h d (by simp)), ih (fun e he => h e (by simp [he]))]
    rfl
theorem cut_dot (a b : List UInt8) (h : ∀ c ∈ a, isD c) : Lib.cut (a ++ [46] ++ b) [46] = (a, b, true) := by
  rw [cut_eq, List.append_assoc, show [46] ++ b = 46 :: b from rfl, cutAtB_free 46 a b (fun d hd e => by
    have := h d hd
    subst e
    unfold isD at this
    exact absurd this (by decide))]
theorem ipn_pre (t : List UInt8) : Lib.trimPrefix ([105, 112, 110, 58] ++ t) [105, 112, 110, 58] = t ∧ Lib.hasPrefix ([105, 112, 110, 58] ++ t) [105, 112, 110, 58] = true := by
  have h : Lib.hasPrefix ([105, 112, 110, 58] ++ t) [105, 112, 110, 58] = true := by simp [Lib.hasPrefix, List.isPrefixOf]
  exact ⟨by unfold Lib.trimPrefix; rw [if_pos h]; rfl, h⟩
theorem dtn_pre (t : List UInt8) : Lib.trimPrefix ([100, 116, 110, 58] ++ t) [100, 116, 110, 58] = t ∧ Lib.hasPrefix ([100, 116, 110, 58] ++ t) [100, 116, 110, 58] = true := by
  have h : Lib.hasPrefix ([100, 116, 110, 58] ++ t) [100, 116, 110, 58] = true := by simp [Lib.hasPrefix, List.isPrefixOf]
  exact ⟨by unfold Lib.trimPrefix; rw [if_pos h]; rfl, h⟩
theorem dtn_noipn (t : List UInt8) : Lib.hasPrefix ([100, 116, 110, 58] ++ t) [105, 112, 110, 58] = false := by simp [Lib.hasPrefix, List.isPrefixOf]

set_option maxRecDepth 100000 in
set_option maxHeartbeats 1000000 in
theorem eparse_ipn (s t1 u1 u2 : List UInt8) (n1 n2 : Nat) (w : World) (hL : LM w)
    (K1 : ∀ W, Hid (Calls Tryd.prog 34 #[.string ⟨s.toArray⟩, .string ⟨#[105, 112, 110, 58]⟩] W fun e w' => e = .returned (.tuple #[.string ⟨t1.toArray⟩, .bool true]) ∧ W = w'))
    (KC : ∀ W, LM W → Hid (Calls Tryd.prog 33 #[.string ⟨t1.toArray⟩, .string ⟨#[46]⟩] W fun e w' => e = .returned (.tuple #[.string ⟨u1.toArray⟩, .string ⟨u2.toArray⟩, .bool true]) ∧ Below W.heap.size W w'))
    (KN5 : ∀ W, Hid (Calls Tryd.prog 35 #[.string ⟨u1.toArray⟩] W fun e w' => e = .returned (.int .u64 (n1 : Int)) ∧ Below W.heap.size W w'))
    (KN1 : ∀ W, Hid (Calls Tryd.prog 35 #[.string ⟨u2.toArray⟩] W fun e w' => e = .returned (.int .u64 (n2 : Int)) ∧ Below W.heap.size W w'))
    (KT : ∀ W, Hid (Calls Tryd.prog 12 #[eidV 2 [] (n1 : Int) (n2 : Int)] W fun e w' => e = .returned (.tuple #[.string ⟨s.toArray⟩, .int .i64 0]) ∧ Below W.heap.size W w')) :
    Calls Tryd.prog 17 #[.string ⟨s.toArray⟩] w fun e w' => e = .returned (.tuple #[eidV 2 [] (n1 : Int) (n2 : Int), .int .i64 0]) ∧ Below w.heap.size w w' := by
  obtain ⟨hB, hc⟩ := one_cells w #[.int .i64 0, .string ⟨#[]⟩, .int .u64 0, .int .u64 0] 40
  have hR := alloc_new w (.cells #[.int .i64 0, .string ⟨#[]⟩, .int .u64 0, .int .u64 0] 40 (0, 0))
  have HL1 := Lib.hid (hL.below hB)
  have hlt := heap_lt hR
  clear hc hL
  go_enter Tryd.func17, Tryd.ntmps17
  go_upto_region 1 with fail
  generalize w.alloc (.cells #[.int .i64 0, .string ⟨#[]⟩, .int .u64 0, .int .u64 0] 40) = w1 at *
  go_wp2_with fail
  refine (enone_any _).mono ?_
  rintro e w2 ⟨rfl, hb⟩
  have HL2 := Lib.hid (HL1.out.below hb)
  replace hR := heap_below hb hR
  replace hB := below_trans hB hb
  clear hb HL1
  go_upto_region 2 with fail
  have hC := alloc_new w2 (.cells #[.int .i64 1, .string ⟨([] : List UInt8).toArray⟩, .int .u64 0, .int .u64 0] 40 (0, 0))
  have hbA := (one_cells w2 #[.int .i64 1, .string ⟨([] : List UInt8).toArray⟩, .int .u64 0, .int .u64 0] 40).1
  have HL3 := Lib.hid (HL2.out.below hbA)
  have hgs : w.heap.size < w2.heap.size := heap_lt hR
  replace hR := heap_below hbA hR
  replace hB := below_trans hB hbA
  clear HL2 hbA
  generalize w2.alloc (.cells #[.int .i64 1, .string ⟨([] : List UInt8).toArray⟩, .int .u64 0, .int .u64 0] 40) = w3 at *
  generalize w2.heap.size = g4 at *
  go_wp2_with fail
  refine (K1 _).out.mono ?_
  rintro e w4 ⟨rfl, rfl⟩
  go_wp2_with fail
  refine (KC _ HL3.out).out.mono ?_
  rintro e w5 ⟨rfl, hb⟩
  replace hR := heap_below hb hR
  replace hC := heap_below hb hC
  replace hB := below_trans hB hb
  clear hb HL3 K1 KC
  go_wp2_with fail
  refine (KN5 _).out.mono ?_
  rintro e w6 ⟨rfl, hb⟩
  replace hR := heap_below hb hR
  replace hC := heap_below hb hC
  replace hB := below_trans hB hb
  clear hb
  go_wp2_with fail
  refine (KN1 _).out.mono ?_
  rintro e w7 ⟨rfl, hb⟩
  replace hR := heap_below hb hR
  replace hC := heap_below hb hC
  replace hB := below_trans hB hb
  clear hb
  obtain ⟨⟨y0, y1, y2, y3⟩, k0, k1, k2, k3⟩ := four_cells hC
  go_upto_region 8 with fail
  have hC2 := four_heap hC (.int .i64 2) (.string ⟨([] : List UInt8).toArray⟩) (.int .u64 (n1 : Int)) (.int .u64 (n2 : Int))
  have hG := four_gb w7 g4 (.int .i64 2) (.string ⟨([] : List UInt8).toArray⟩) (.int .u64 (n1 : Int)) (.int .u64 (n2 : Int))
  have hR2 := gb_heap hG hR (by simp; omega)
  have hB2 := below_gbw hG hB (by omega)
  generalize ((((w7.setCell ⟨g4, 0, none⟩ (.int .i64 2)).setCell ⟨g4, 1, none⟩ (.string ⟨([] : List UInt8).toArray⟩)).setCell ⟨g4, 2, none⟩ (.int .u64 (n1 : Int))).setCell ⟨g4, 3, none⟩ (.int .u64 (n2 : Int))) = wz at *
  clear hC hG hR hB y0 y1 y2 y3 k0 k1 k2 k3
  have hC := hC2
  have hR := hR2
  have hB := hB2
  clear hC2 hR2 hB2
  obtain ⟨⟨q0, q1, q2, q3⟩, -⟩ := four_cells hC
  go_wp2_with fail
  refine (KT _).out.mono ?_
  rintro e w8 ⟨rfl, hb⟩
  replace hR := heap_below hb hR
  replace hC := heap_below hb hC
  replace hB := below_trans hB hb
  clear hb q0 q1 q2 q3
  obtain ⟨⟨q0, q1, q2, q3⟩, -⟩ := four_cells hC
  obtain ⟨⟨z0, z1, z2, z3⟩, f0, f1, f2, f3⟩ := four_cells hR
  go_wp2_with fail
  have hh9 := four_heap hR (.int .i64 2) (.string ⟨([] : List UInt8).toArray⟩) (.int .u64 (n1 : Int)) (.int .u64 (n2 : Int))
  have hB9 := below_gbw (four_gb w8 w.heap.size (.int .i64 2) (.string ⟨([] : List UInt8).toArray⟩) (.int .u64 (n1 : Int)) (.int .u64 (n2 : Int))) hB (Nat.le_refl _)
  obtain ⟨⟨r0, r1, r2, r3⟩, -⟩ := four_cells hh9
  refine bodyPost_ret (v := .tuple #[eidV 2 [] (n1 : Int) (n2 : Int), .int .i64 0]) ?_ rfl ⟨rfl, hB9⟩
  simp [results, Tryd.results17, go_sem, r0, r1, r2, r3]
set_option maxRecDepth 100000 in
set_option maxHeartbeats 1000000 in
theorem eparse_nobody (s t1 : List UInt8) (hdn2 : (s == [100, 116, 110, 58, 110, 111, 110, 101]) = true) (w : World)
    (K1 : ∀ W, Hid (Calls Tryd.prog 34 #[.string ⟨s.toArray⟩, .string ⟨#[105, 112, 110, 58]⟩] W fun e w' => e = .returned (.tuple #[.string ⟨t1.toArray⟩, .bool false]) ∧ W = w'))
    (KT : ∀ W, Hid (Calls Tryd.prog 12 #[eidV 1 [] 0 0] W fun e w' => e = .returned (.tuple #[.string ⟨s.toArray⟩, .int .i64 0]) ∧ Below W.heap.size W w')) :
    Calls Tryd.prog 17 #[.string ⟨s.toArray⟩] w fun e w' => e = .returned (.tuple #[eidV 1 [] 0 0, .int .i64 0]) ∧ Below w.heap.size w w' := by
  obtain ⟨hB, hc⟩ := one_cells w #[.int .i64 0, .string ⟨#[]⟩, .int .u64 0, .int .u64 0] 40
  have hR := alloc_new w (.cells #[.int .i64 0, .string ⟨#[]⟩, .int .u64 0, .int .u64 0] 40 (0, 0))
  have hlt := heap_lt hR
  clear hc
  go_enter Tryd.func17, Tryd.ntmps17
  go_upto_region 1 with fail
  generalize w.alloc (.cells #[.int .i64 0, .string ⟨#[]⟩, .int .u64 0, .int .u64 0] 40) = w1 at *
  go_wp2_with fail
  refine (enone_any _).mono ?_
  rintro e w2 ⟨rfl, hb⟩
  replace hR := heap_below hb hR
  replace hB := below_trans hB hb
  clear hb
  go_upto_region 2 with fail
  have hC := alloc_new w2 (.cells #[.int .i64 1, .string ⟨([] : List UInt8).toArray⟩, .int .u64 0, .int .u64 0] 40 (0, 0))
  have hbA := (one_cells w2 #[.int .i64 1, .string ⟨([] : List UInt8).toArray⟩, .int .u64 0, .int .u64 0] 40).1
  have hgs : w.heap.size < w2.heap.size := heap_lt hR
  replace hR := heap_below hbA hR
  replace hB := below_trans hB hbA
  clear hbA
  generalize w2.alloc (.cells #[.int .i64 1, .string ⟨([] : List UInt8).toArray⟩, .int .u64 0, .int .u64 0] 40) = w3 at *
  generalize w2.heap.size = g4 at *
  go_wp2_with fail
  refine (K1 _).out.mono ?_
  rintro e w4 ⟨rfl, rfl⟩
  clear K1
  go_upto_region 8 with fail
  obtain ⟨⟨q0, q1, q2, q3⟩, -⟩ := four_cells hC
  go_wp2_with fail
  refine (KT _).out.mono ?_
  rintro e w8 ⟨rfl, hb⟩
  replace hR := heap_below hb hR
  replace hC := heap_below hb hC
  replace hB := below_trans hB hb
  clear hb q0 q1 q2 q3
  obtain ⟨⟨q0, q1, q2, q3⟩, -⟩ := four_cells hC
  obtain ⟨⟨z0, z1, z2, z3⟩, f0, f1, f2, f3⟩ := four_cells hR
  go_wp2_with fail
  have hh9 := four_heap hR (.int .i64 1) (.string ⟨([] : List UInt8).toArray⟩) (.int .u64 (0 : Int)) (.int .u64 (0 : Int))
  have hB9 := below_gbw (four_gb w8 w.heap.size (.int .i64 1) (.string ⟨([] : List UInt8).toArray⟩) (.int .u64 (0 : Int)) (.int .u64 (0 : Int))) hB (Nat.le_refl _)
  obtain ⟨⟨r0, r1, r2, r3⟩, -⟩ := four_cells hh9
  refine bodyPost_ret (v := .tuple #[eidV 1 ([] : List UInt8) (0 : Int) (0 : Int), .int .i64 0]) ?_ rfl ⟨rfl, hB9⟩
  simp [results, Tryd.results17, go_sem, r0, r1, r2, r3]
set_option maxRecDepth 100000 in
set_option maxHeartbeats 1000000 in
theorem eparse_dtn (s t1 : List UInt8) (t2 : List UInt8) (b2 : Bool) (hdn2 : (s == [100, 116, 110, 58, 110, 111, 110, 101]) = false) (w : World)
    (K1 : ∀ W, Hid (Calls Tryd.prog 34 #[.string ⟨s.toArray⟩, .string ⟨#[105, 112, 110, 58]⟩] W fun e w' => e = .returned (.tuple #[.string ⟨t1.toArray⟩, .bool false]) ∧ W = w'))
    (K2 : ∀ W, Hid (Calls Tryd.prog 34 #[.string ⟨s.toArray⟩, .string ⟨#[100, 116, 110, 58]⟩] W fun e w' => e = .returned (.tuple #[.string ⟨t2.toArray⟩, .bool b2]) ∧ W = w'))
    (KT : ∀ W, Hid (Calls Tryd.prog 12 #[eidV 1 t2 0 0] W fun e w' => e = .returned (.tuple #[.string ⟨s.toArray⟩, .int .i64 0]) ∧ Below W.heap.size W w')) :
    Calls Tryd.prog 17 #[.string ⟨s.toArray⟩] w fun e w' => e = .returned (.tuple #[eidV 1 t2 0 0, .int .i64 0]) ∧ Below w.heap.size w w' := by
  obtain ⟨hB, hc⟩ := one_cells w #[.int .i64 0, .string ⟨#[]⟩, .int .u64 0, .int .u64 0] 40
  have hR := alloc_new w (.cells #[.int .i64 0, .string ⟨#[]⟩, .int .u64 0, .int .u64 0] 40 (0, 0))
  have hlt := heap_lt hR
  clear hc
  go_enter Tryd.func17, Tryd.ntmps17
  go_upto_region 1 with fail
  generalize w.alloc (.cells #[.int .i64 0, .string ⟨#[]⟩, .int .u64 0, .int .u64 0] 40) = w1 at *
  go_wp2_with fail
  refine (enone_any _).mono ?_
  rintro e w2 ⟨rfl, hb⟩
  replace hR := heap_below hb hR
  replace hB := below_trans hB hb
  clear hb
  go_upto_region 2 with fail
  have hC := alloc_new w2 (.cells #[.int .i64 1, .string ⟨([] : List UInt8).toArray⟩, .int .u64 0, .int .u64 0] 40 (0, 0))
  have hbA := (one_cells w2 #[.int .i64 1, .string ⟨([] : List UInt8).toArray⟩, .int .u64 0, .int .u64 0] 40).1
  have hgs : w.heap.size < w2.heap.size := heap_lt hR
  replace hR := heap_below hbA hR
  replace hB := below_trans hB hbA
  clear hbA
  generalize w2.alloc (.cells #[.int .i64 1, .string ⟨([] : List UInt8).toArray⟩, .int .u64 0, .int .u64 0] 40) = w3 at *
  generalize w2.heap.size = g4 at *
  go_wp2_with fail
  refine (K1 _).out.mono ?_
  rintro e w4 ⟨rfl, rfl⟩
  clear K1
  go_wp2_with fail
  refine (K2 _).out.mono ?_
  rintro e w4 ⟨rfl, rfl⟩
  clear K2
  obtain ⟨⟨y0, y1, y2, y3⟩, k0, k1, k2, k3⟩ := four_cells hC
  go_upto_region 8 with fail
  have hC2 := set_heap (o := 1) hC (.string ⟨t2.toArray⟩)
  have hG := gb_set w3 g4 1 (.string ⟨t2.toArray⟩)
  have hR2 := gb_heap hG hR (by simp; omega)
  have hB2 := below_gbw hG hB (by omega)
  generalize w3.setCell ⟨g4, 1, none⟩ (.string ⟨t2.toArray⟩) = wz at *
  clear hC hG hR hB y0 y1 y2 y3 k0 k1 k2 k3
  have hC : wz.heap[g4]? = some (.cells #[.int .i64 1, .string ⟨t2.toArray⟩, .int .u64 0, .int .u64 0] 40 (0, 0)) := hC2
  have hR := hR2
  have hB := hB2
  clear hC2 hR2 hB2
  obtain ⟨⟨q0, q1, q2, q3⟩, -⟩ := four_cells hC
  go_wp2_with fail
  refine (KT _).out.mono ?_
  rintro e w8 ⟨rfl, hb⟩
  replace hR := heap_below hb hR
  replace hC := heap_below hb hC
  replace hB := below_trans hB hb
  clear hb q0 q1 q2 q3
  obtain ⟨⟨q0, q1, q2, q3⟩, -⟩ := four_cells hC
  obtain ⟨⟨z0, z1, z2, z3⟩, f0, f1, f2, f3⟩ := four_cells hR
  go_wp2_with fail
  have hh9 := four_heap hR (.int .i64 1) (.string ⟨(t2).toArray⟩) (.int .u64 (0 : Int)) (.int .u64 (0 : Int))
  have hB9 := below_gbw (four_gb w8 w.heap.size (.int .i64 1) (.string ⟨(t2).toArray⟩) (.int .u64 (0 : Int)) (.int .u64 (0 : Int))) hB (Nat.le_refl _)
  obtain ⟨⟨r0, r1, r2, r3⟩, -⟩ := four_cells hh9
  refine bodyPost_ret (v := .tuple #[eidV 1 (t2) (0 : Int) (0 : Int), .int .i64 0]) ?_ rfl ⟨rfl, hB9⟩
  simp [results, Tryd.results17, go_sem, r0, r1, r2, r3]

theorem eparse_yes (sc : Int) (nm : List UInt8) (nd sv : Nat) (w : World) (h : rightE sc nm nd sv = true) (hd : nd < 18446744073709551616) (hs : sv < 18446744073709551616) (hL : LM w) :
    Calls Tryd.prog 17 #[.string ⟨(textE sc nm nd sv).toArray⟩] w fun e w' => e = .returned (.tuple #[eidV sc nm nd sv, .int .i64 0]) ∧ Below w.heap.size w w' := by
  have KT := fun W => Lib.hid (etext_yes sc nm nd sv W h hd hs)
  rcases right_cases h with ⟨rfl, rfl, rfl, rfl⟩ | ⟨rfl, rfl, rfl, hne, hnm⟩ | ⟨rfl, rfl⟩
  · have e : textE 1 [] 0 0 = [100, 116, 110, 58, 110, 111, 110, 101] := rfl
    refine eparse_nobody _ (textE 1 [] 0 0) (by rw [e]; rfl) w (fun W => Lib.hid ((ecutp_any _ [105, 112, 110, 58] W).mono (fun e' w' h => ⟨by rw [h.1, e]; rfl, h.2⟩))) KT
  · have e : textE 1 nm 0 0 = [100, 116, 110, 58] ++ nm := by
      unfold textE
      rw [if_neg (by decide), if_neg hne]
    have h3 : ∃ r, nm = 47 :: r := by
      have hl := named_len hnm
      have h3 : 3 ≤ nm.length := by
        unfold namedF at hnm
        rw [Bool.and_eq_true, decide_eq_true_iff] at hnm
        exact hnm.1.1
      rw [namedF_eq nm h3 hl, Bool.and_eq_true, decide_eq_true_iff] at hnm
      match nm, hnm.1 with
      | a :: r, h => exact ⟨r, by simp at h; rw [h.1]⟩
    refine eparse_dtn _ (textE 1 nm 0 0) nm true ?_ w (fun W => Lib.hid ((ecutp_any _ [105, 112, 110, 58] W).mono (fun e' w' h => ⟨by rw [h.1, e, dtn_noipn, Lib.trimPrefix, dtn_noipn]; rfl, h.2⟩)))
      (fun W => Lib.hid ((ecutp_any _ [100, 116, 110, 58] W).mono (fun e' w' h => ⟨by rw [h.1, e, (dtn_pre nm).1, (dtn_pre nm).2], h.2⟩))) KT
    obtain ⟨r, rfl⟩ := h3
    rw [e]
    rfl
  · have e : textE 2 [] nd sv = [105, 112, 110, 58] ++ (digs nd ++ [46] ++ digs sv) := by
      unfold textE
      rw [if_pos rfl]
      simp
    have l1 := digs_len hd
    have l2 := digs_len hs
    exact eparse_ipn _ (digs nd ++ [46] ++ digs sv) (digs nd) (digs sv) nd sv w hL (fun W => Lib.hid ((ecutp_any _ [105, 112, 110, 58] W).mono (fun e' w' h => ⟨by rw [h.1, e, (ipn_pre _).1, (ipn_pre _).2], h.2⟩)))
      (fun W hw => Lib.hid ((ecut_any (digs nd ++ [46] ++ digs sv) [46] W (by simp; omega) hw).mono (fun e' w' h => ⟨by rw [h.1, cut_dot _ _ (digs_all nd)], h.2⟩))) (fun W => Lib.hid (enumber_of nd W hd)) (fun W => Lib.hid (enumber_of sv W hs)) KT
end Go.Proofs.YtieigjlbjiielaaDoor
