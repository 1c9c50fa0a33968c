/- The law EidTexts, walked. It asks what the library's variables hold. -/
import Derived.Test.YtieigjlbjiielaaDoorEt3
import Derived.Test.YtieigjlbjiielaaDoorEid8E
namespace Go.Proofs.YtieigjlbjiielaaDoor
open Go.RowKit

/-- What the library's variables hold. -/
structure LT (w : World) : Prop where
  tabs : Lib.Utf8Tabs 0 1 w
  mx : LM w
theorem LT.below {w w1 : World} (h : LT w) (hb : Below w.heap.size w w1) : LT w1 := ⟨tabs_below h.tabs hb, h.mx.below hb⟩

set_option maxRecDepth 100000 in
set_option maxHeartbeats 4000000 in
theorem eidtexts_no (sc : Int) (nm : List UInt8) (nd sv : Nat) (w : World) (hL : LT w) (hl : nm.length ≤ 200) (hr : rightE sc nm nd sv = false) :
    Calls Tryd.prog 4 #[eidV sc nm nd sv] w fun e w' => e = .returned (.bool true) ∧ Below w.heap.size w w' := by
  obtain ⟨hB, c0, c1, c2, c3⟩ := eid_cells w sc nm nd sv
  have HLP := Lib.hid (hL.below hB)
  have K1 := fun W => Lib.hid (etext_no sc nm nd sv W hr)
  have K2 := fun W => Lib.hid (evalue_no sc nm nd sv W hr)
  have K3 : ∀ W, Hid (Calls Tryd.prog 14 #[eidV sc nm nd sv] W fun e w' => e = .returned (.bool false) ∧ Below W.heap.size W w') := fun W => Lib.hid (by
    have := rright_any sc nm nd sv W (by omega)
    rw [hr] at this
    exact this)
  have K4 : ∀ W, Hid (Calls Tryd.prog 15 #[eidV sc nm nd sv] W fun e w' => e = .returned (.bool false) ∧ Below W.heap.size W w') := fun W => Lib.hid (by
    have := eright_any sc nm nd sv W
    rw [hr] at this
    exact this)
  have K5 := fun W => Lib.hid (ehost_no sc nm nd sv W hr)
  have hl' : ¬ (200 < (nm.length : Int)) := by omega
  clear hL hl hr
  go_enter Tryd.func4, Tryd.ntmps4
  go_upto_region 1 with fail
  generalize w.alloc (.cells #[.int .i64 sc, .string ⟨nm.toArray⟩, .int .u64 (nd : Int), .int .u64 (sv : Int)] 40) = w0 at *
  go_wp2_with fail
  refine (K1 _).out.mono ?_
  rintro e w1 ⟨rfl, hb⟩
  replace hB := below_trans hB hb
  have HL1 := Lib.hid (HLP.out.below hb)
  clear HLP
  have HLP := HL1
  clear HL1
  replace c0 := cell_below hb c0
  replace c1 := cell_below hb c1
  replace c2 := cell_below hb c2
  replace c3 := cell_below hb c3
  clear hb
  go_wp2_with fail
  refine (K2 _).out.mono ?_
  rintro e w2 ⟨rfl, hb⟩
  replace hB := below_trans hB hb
  have HL2 := Lib.hid (HLP.out.below hb)
  clear HLP
  have HLP := HL2
  clear HL2
  replace c0 := cell_below hb c0
  replace c1 := cell_below hb c1
  replace c2 := cell_below hb c2
  replace c3 := cell_below hb c3
  clear hb
  go_wp2_with fail
  refine (K3 _).out.mono ?_
  rintro e w3 ⟨rfl, hb⟩
  replace hB := below_trans hB hb
  have HL3 := Lib.hid (HLP.out.below hb)
  clear HLP
  have HLP := HL3
  clear HL3
  replace c0 := cell_below hb c0
  replace c1 := cell_below hb c1
  replace c2 := cell_below hb c2
  replace c3 := cell_below hb c3
  clear hb
  go_wp2_with fail
  refine (awake07_any _ HLP.out.mx).mono ?_
  rintro e w4 ⟨rfl, hb⟩
  replace hB := below_trans hB hb
  have HL4 := Lib.hid (HLP.out.below hb)
  clear HLP
  have HLP := HL4
  clear HL4
  replace c0 := cell_below hb c0
  replace c1 := cell_below hb c1
  replace c2 := cell_below hb c2
  replace c3 := cell_below hb c3
  clear hb
  go_wp2_with fail
  refine (K4 _).out.mono ?_
  rintro e w5 ⟨rfl, hb⟩
  replace hB := below_trans hB hb
  have HL5 := Lib.hid (HLP.out.below hb)
  clear HLP
  have HLP := HL5
  clear HL5
  replace c0 := cell_below hb c0
  replace c1 := cell_below hb c1
  replace c2 := cell_below hb c2
  replace c3 := cell_below hb c3
  clear hb
  go_wp2_with fail
  refine (K5 _).out.mono ?_
  rintro e w6 ⟨rfl, hb⟩
  replace hB := below_trans hB hb
  have HL6 := Lib.hid (HLP.out.below hb)
  clear HLP
  have HLP := HL6
  clear HL6
  replace c0 := cell_below hb c0
  replace c1 := cell_below hb c1
  replace c2 := cell_below hb c2
  replace c3 := cell_below hb c3
  clear hb
  go_wp2_with fail
  go_ret
  exact ⟨rfl, hB⟩

set_option maxRecDepth 100000 in
set_option maxHeartbeats 8000000 in
theorem eidtexts_yes (sc : Int) (nm : List UInt8) (nd sv : Nat) (w : World) (hd : nd < 18446744073709551616) (hs : sv < 18446744073709551616) (hL : LT w) (hl : nm.length ≤ 200) (hr : rightE sc nm nd sv = true) :
    Calls Tryd.prog 4 #[eidV sc nm nd sv] w fun e w' => e = .returned (.bool true) ∧ Below w.heap.size w w' := by
  obtain ⟨hB, c0, c1, c2, c3⟩ := eid_cells w sc nm nd sv
  have HLP := Lib.hid (hL.below hB)
  have K1 := fun W => Lib.hid (etext_yes sc nm nd sv W hr hd hs)
  have K2 := fun W => Lib.hid (evalue_any sc nm nd sv W hr hd hs)
  have K3 : ∀ W, Hid (Calls Tryd.prog 14 #[eidV sc nm nd sv] W fun e w' => e = .returned (.bool true) ∧ Below W.heap.size W w') := fun W => Lib.hid (by
    have := rright_any sc nm nd sv W (by omega)
    rw [hr] at this
    exact this)
  have K4 : ∀ W, Hid (Calls Tryd.prog 15 #[eidV sc nm nd sv] W fun e w' => e = .returned (.bool true) ∧ Below W.heap.size W w') := fun W => Lib.hid (by
    have := eright_any sc nm nd sv W
    rw [hr] at this
    exact this)
  have K5 : ∀ W, LT W → Hid (Calls Tryd.prog 17 #[.string ⟨(textE sc nm nd sv).toArray⟩] W fun e w' => e = .returned (.tuple #[eidV sc nm nd sv, .int .i64 0]) ∧ Below W.heap.size W w') := fun W h => Lib.hid (eparse_yes sc nm nd sv W hr hd hs h.mx)
  have K6 := fun W => Lib.hid (rtext_yes sc nm nd sv W hd hs (by omega))
  have K7 := fun W => Lib.hid (rvalue_any sc nm nd sv W hr hd hs)
  have HR := Lib.hid hr
  have HD := Lib.hid hd
  have HS := Lib.hid hs
  obtain ⟨tx, htx⟩ : ∃ x, x = textE sc nm nd sv := ⟨_, rfl⟩
  simp only [← htx] at K1 K5 K6
  have hl' : ¬ (200 < (nm.length : Int)) := by omega
  clear hL hl hr hd hs htx
  go_enter Tryd.func4, Tryd.ntmps4
  go_upto_region 1 with fail
  generalize w.alloc (.cells #[.int .i64 sc, .string ⟨nm.toArray⟩, .int .u64 (nd : Int), .int .u64 (sv : Int)] 40) = w0 at *
  go_wp2_with fail
  refine (K1 _).out.mono ?_
  rintro e w1 ⟨rfl, hb⟩
  replace hB := below_trans hB hb
  have HL1 := Lib.hid (HLP.out.below hb)
  clear HLP
  have HLP := HL1
  clear HL1
  replace c0 := cell_below hb c0
  replace c1 := cell_below hb c1
  replace c2 := cell_below hb c2
  replace c3 := cell_below hb c3
  clear hb
  go_wp2_with fail
  refine (K2 _).out.mono ?_
  rintro e w2 ⟨A, c, rfl, har, hb⟩
  replace hB := below_trans hB hb
  have HL2 := Lib.hid (HLP.out.below hb)
  clear HLP
  have HLP := HL2
  clear HL2
  replace c0 := cell_below hb c0
  replace c1 := cell_below hb c1
  replace c2 := cell_below hb c2
  replace c3 := cell_below hb c3
  clear hb
  have HAR := Lib.hid har
  clear har
  go_wp2_with fail
  refine (K3 _).out.mono ?_
  rintro e w3 ⟨rfl, hb⟩
  replace hB := below_trans hB hb
  have HL3 := Lib.hid (HLP.out.below hb)
  clear HLP
  have HLP := HL3
  clear HL3
  replace c0 := cell_below hb c0
  replace c1 := cell_below hb c1
  replace c2 := cell_below hb c2
  replace c3 := cell_below hb c3
  replace HAR := Lib.hid (HAR.out.keep hb (fun _ h => h))
  clear hb
  go_wp2_with fail
  refine (K5 _ HLP.out).out.mono ?_
  rintro e w4 ⟨rfl, hb⟩
  replace hB := below_trans hB hb
  have HL4 := Lib.hid (HLP.out.below hb)
  clear HLP
  have HLP := HL4
  clear HL4
  replace c0 := cell_below hb c0
  replace c1 := cell_below hb c1
  replace c2 := cell_below hb c2
  replace c3 := cell_below hb c3
  replace HAR := Lib.hid (HAR.out.keep hb (fun _ h => h))
  clear hb
  obtain ⟨hb, p0, p1, p2, p3⟩ := eid_cells w4 sc nm nd sv
  replace hB := below_trans hB hb
  have HLQ := Lib.hid (HLP.out.below hb)
  clear HLP
  have HLP := HLQ
  clear HLQ
  replace c0 := cell_below hb c0
  replace c1 := cell_below hb c1
  replace c2 := cell_below hb c2
  replace c3 := cell_below hb c3
  replace HAR := Lib.hid (HAR.out.keep hb (fun _ h => h))
  clear hb
  go_upto_region 8 with fail
  generalize w4.alloc (.cells #[.int .i64 sc, .string ⟨nm.toArray⟩, .int .u64 (nd : Int), .int .u64 (sv : Int)] 40) = w5 at *
  go_wp2_with fail
  refine (eof_any HAR.out (of_val HR.out)).mono ?_
  rintro e w6 ⟨rfl, hb⟩
  replace hB := below_trans hB hb
  have HL6 := Lib.hid (HLP.out.below hb)
  clear HLP
  have HLP := HL6
  clear HL6
  replace c0 := cell_below hb c0
  replace c1 := cell_below hb c1
  replace c2 := cell_below hb c2
  replace c3 := cell_below hb c3
  replace p0 := cell_below hb p0
  replace p1 := cell_below hb p1
  replace p2 := cell_below hb p2
  replace p3 := cell_below hb p3
  replace HAR := Lib.hid (HAR.out.keep hb (fun _ h => h))
  clear hb
  obtain ⟨hb, q0, q1, q2, q3⟩ := eid_cells w6 sc nm nd sv
  replace hB := below_trans hB hb
  have HLQ := Lib.hid (HLP.out.below hb)
  clear HLP
  have HLP := HLQ
  clear HLQ
  replace c0 := cell_below hb c0
  replace c1 := cell_below hb c1
  replace c2 := cell_below hb c2
  replace c3 := cell_below hb c3
  replace p0 := cell_below hb p0
  replace p1 := cell_below hb p1
  replace p2 := cell_below hb p2
  replace p3 := cell_below hb p3
  replace HAR := Lib.hid (HAR.out.keep hb (fun _ h => h))
  clear hb
  go_upto_region 9 with fail
  generalize w6.alloc (.cells #[.int .i64 sc, .string ⟨nm.toArray⟩, .int .u64 (nd : Int), .int .u64 (sv : Int)] 40) = w7 at *
  go_wp2_with fail
  refine (awake07_any _ HLP.out.mx).mono ?_
  rintro e w8 ⟨rfl, hb⟩
  replace hB := below_trans hB hb
  have HL8 := Lib.hid (HLP.out.below hb)
  clear HLP
  have HLP := HL8
  clear HL8
  replace c0 := cell_below hb c0
  replace c1 := cell_below hb c1
  replace c2 := cell_below hb c2
  replace c3 := cell_below hb c3
  replace p0 := cell_below hb p0
  replace p1 := cell_below hb p1
  replace p2 := cell_below hb p2
  replace p3 := cell_below hb p3
  replace q0 := cell_below hb q0
  replace q1 := cell_below hb q1
  replace q2 := cell_below hb q2
  replace q3 := cell_below hb q3
  replace HAR := Lib.hid (HAR.out.keep hb (fun _ h => h))
  clear hb
  go_wp2_with fail
  refine (K4 _).out.mono ?_
  rintro e w9 ⟨rfl, hb⟩
  replace hB := below_trans hB hb
  have HL9 := Lib.hid (HLP.out.below hb)
  clear HLP
  have HLP := HL9
  clear HL9
  replace c0 := cell_below hb c0
  replace c1 := cell_below hb c1
  replace c2 := cell_below hb c2
  replace c3 := cell_below hb c3
  replace p0 := cell_below hb p0
  replace p1 := cell_below hb p1
  replace p2 := cell_below hb p2
  replace p3 := cell_below hb p3
  replace q0 := cell_below hb q0
  replace q1 := cell_below hb q1
  replace q2 := cell_below hb q2
  replace q3 := cell_below hb q3
  replace HAR := Lib.hid (HAR.out.keep hb (fun _ h => h))
  clear hb
  go_wp2_with fail
  refine (K6 _).out.mono ?_
  rintro e w10 ⟨rfl, hb⟩
  replace hB := below_trans hB hb
  have HL10 := Lib.hid (HLP.out.below hb)
  clear HLP
  have HLP := HL10
  clear HL10
  replace c0 := cell_below hb c0
  replace c1 := cell_below hb c1
  replace c2 := cell_below hb c2
  replace c3 := cell_below hb c3
  replace p0 := cell_below hb p0
  replace p1 := cell_below hb p1
  replace p2 := cell_below hb p2
  replace p3 := cell_below hb p3
  replace q0 := cell_below hb q0
  replace q1 := cell_below hb q1
  replace q2 := cell_below hb q2
  replace q3 := cell_below hb q3
  replace HAR := Lib.hid (HAR.out.keep hb (fun _ h => h))
  clear hb
  go_wp2_with fail
  refine (K7 _).out.mono ?_
  rintro e w11 ⟨cs, rfl, hvr, hb⟩
  replace hB := below_trans hB hb
  have HL11 := Lib.hid (HLP.out.below hb)
  clear HLP
  have HLP := HL11
  clear HL11
  replace c0 := cell_below hb c0
  replace c1 := cell_below hb c1
  replace c2 := cell_below hb c2
  replace c3 := cell_below hb c3
  replace p0 := cell_below hb p0
  replace p1 := cell_below hb p1
  replace p2 := cell_below hb p2
  replace p3 := cell_below hb p3
  replace q0 := cell_below hb q0
  replace q1 := cell_below hb q1
  replace q2 := cell_below hb q2
  replace q3 := cell_below hb q3
  replace HAR := Lib.hid (HAR.out.keep hb (fun _ h => h))
  clear hb
  have KA := Lib.hid (any_any hvr w11 (Below.refl _ _))
  clear hvr
  go_wp2_with fail
  refine KA.out.mono ?_
  rintro e w12 ⟨u, rfl, hau, hb⟩
  replace hB := below_trans hB hb
  have HL12 := Lib.hid (HLP.out.below hb)
  clear HLP
  have HLP := HL12
  clear HL12
  replace c0 := cell_below hb c0
  replace c1 := cell_below hb c1
  replace c2 := cell_below hb c2
  replace c3 := cell_below hb c3
  replace p0 := cell_below hb p0
  replace p1 := cell_below hb p1
  replace p2 := cell_below hb p2
  replace p3 := cell_below hb p3
  replace q0 := cell_below hb q0
  replace q1 := cell_below hb q1
  replace q2 := cell_below hb q2
  replace q3 := cell_below hb q3
  replace HAR := Lib.hid (HAR.out.keep hb (fun _ h => h))
  clear hb
  have KS := Lib.hid (isame_any w12 _ u _ (putok_val HAR.out HR.out HD.out HS.out HLP.out.tabs) (putok_val hau HR.out HD.out HS.out HLP.out.tabs))
  clear hau KA
  go_wp2_with fail
  refine KS.out.mono ?_
  rintro e w13 ⟨rfl, hb⟩
  replace hB := below_trans hB hb
  replace c0 := cell_below hb c0
  replace c1 := cell_below hb c1
  replace c2 := cell_below hb c2
  replace c3 := cell_below hb c3
  replace p0 := cell_below hb p0
  replace p1 := cell_below hb p1
  replace p2 := cell_below hb p2
  replace p3 := cell_below hb p3
  replace q0 := cell_below hb q0
  replace q1 := cell_below hb q1
  replace q2 := cell_below hb q2
  replace q3 := cell_below hb q3
  clear hb KS
  go_wp2_with fail
  go_ret
  exact ⟨rfl, hB⟩

theorem eidtexts_law (sc : Int) (nm : List UInt8) (nd sv : Nat) (w : World) (hd : nd < 18446744073709551616) (hs : sv < 18446744073709551616) (hL : LT w) :
    Calls Tryd.prog 4 #[eidV sc nm nd sv] w fun e w' => e = .returned (.bool true) ∧ Below w.heap.size w w' := by
  by_cases hl : nm.length ≤ 200
  · cases hr : rightE sc nm nd sv with
    | true => exact eidtexts_yes sc nm nd sv w hd hs hL hl hr
    | false => exact eidtexts_no sc nm nd sv w hL hl hr
  · obtain ⟨hB, c0, c1, c2, c3⟩ := eid_cells w sc nm nd sv
    have HL := Lib.hid (hL.below hB)
    have hl' : (200 : Int) < (nm.length : Int) := by omega
    clear hL hl hd hs
    go_enter Tryd.func4, Tryd.ntmps4
    go_upto_region 1 with fail
    generalize w.alloc (.cells #[.int .i64 sc, .string ⟨nm.toArray⟩, .int .u64 (nd : Int), .int .u64 (sv : Int)] 40) = w0 at *
    go_wp2_with fail
    refine (awake07_any _ HL.out.mx).mono ?_
    rintro e w1 ⟨rfl, hb⟩
    go_wp2_with fail
    go_ret
    exact ⟨rfl, below_trans hB hb⟩
end Go.Proofs.YtieigjlbjiielaaDoor
