/- The law EidValues, walked. Asked: that the library's variable holds a number. -/
import Derived.Test.YtieigjlbjiielaaVal10
namespace Go.Proofs.Ytieigjlbjiielaa
open Go.RowKit

set_option maxRecDepth 100000 in
set_option maxHeartbeats 2000000 in
theorem eidvalues_law {v : VT} {cs : List Value} (w : World) (h : VR w v cs) (hL : LM w) : Calls Try.prog 7 #[.agg cs.toArray] w fun e w' => e = .returned (.bool true) ∧ Below w.heap.size w w' := by
  have KS := fun W hb => Lib.hid (size_any h W hb)
  have KA := fun W hb => Lib.hid (any_any h W hb)
  have HV := Lib.hid h
  obtain ⟨k, n, s, A, m, c, rfl⟩ := h.form
  obtain ⟨sc, nm, nd, sv, er, hof⟩ := of_total v
  have HOF := Lib.hid hof
  clear hof h
  obtain ⟨hB, hc⟩ := one_cells w #[.int .i64 k, .int .u64 (n : Int), .string ⟨s.toArray⟩, .slice A m c] 45
  have c0 := hc 0 _ rfl
  have c1 := hc 1 _ rfl
  have c2 := hc 2 _ rfl
  have c3 := hc 3 _ rfl
  have HL0 := Lib.hid (hL.below hB)
  clear hc hL
  go_enter Try.func7, Try.ntmps7
  go_upto_region 1 with fail
  generalize w.alloc (.cells #[.int .i64 k, .int .u64 (n : Int), .string ⟨s.toArray⟩, .slice A m c] 45) = w0 at *
  go_wp2_with fail
  refine (KS _ hB).out.mono ?_
  rintro e w1 ⟨⟨x, y, rfl⟩, hb⟩
  have HL1 := Lib.hid (HL0.out.below hb)
  replace hB := below_trans hB hb
  replace c0 := cell_below hb c0
  replace c1 := cell_below hb c1
  replace c2 := cell_below hb c2
  replace c3 := cell_below hb c3
  clear hb KS HL0
  by_cases hd : 10 < x
  · go_wp2_with fail
    refine (awake07_any _ HL1.out).mono ?_
    rintro e w2 ⟨rfl, hb⟩
    go_wp2_with fail
    go_ret
    exact ⟨rfl, below_trans hB hb⟩
  by_cases hn : 100 < y
  · go_wp2_with fail
    refine (awake07_any _ HL1.out).mono ?_
    rintro e w2 ⟨rfl, hb⟩
    go_wp2_with fail
    go_ret
    exact ⟨rfl, below_trans hB hb⟩
  go_wp2_with fail
  refine (KA _ hB).out.mono ?_
  rintro e w2 ⟨u, rfl, hu, hb⟩
  have HL2 := Lib.hid (HL1.out.below hb)
  replace hB := below_trans hB hb
  replace c0 := cell_below hb c0
  replace c1 := cell_below hb c1
  replace c2 := cell_below hb c2
  replace c3 := cell_below hb c3
  clear hb KA HL1 hd hn
  have KE := Lib.hid (eof_any hu HOF.out)
  clear hu
  go_wp2_with fail
  refine KE.out.mono ?_
  rintro e w3 ⟨rfl, hb⟩
  have HL3 := Lib.hid (HL2.out.below hb)
  replace hB := below_trans hB hb
  replace c0 := cell_below hb c0
  replace c1 := cell_below hb c1
  replace c2 := cell_below hb c2
  replace c3 := cell_below hb c3
  clear hb KE HL2
  obtain ⟨hb, a0, a1, a2, a3⟩ := eid_cells w3 sc nm nd sv
  have HL4 := Lib.hid (HL3.out.below hb)
  replace hB := below_trans hB hb
  replace c0 := cell_below hb c0
  replace c1 := cell_below hb c1
  replace c2 := cell_below hb c2
  replace c3 := cell_below hb c3
  clear hb HL3
  go_upto_region 5 with fail
  generalize w3.alloc (.cells #[.int .i64 sc, .string ⟨nm.toArray⟩, .int .u64 nd, .int .u64 sv] 29) = w4 at *
  have KR := Lib.hid (rof_any (HV.out.keep hB) HOF.out)
  clear HOF HV
  go_wp2_with fail
  refine KR.out.mono ?_
  rintro e w5 ⟨rfl, hb⟩
  have HL5 := Lib.hid (HL4.out.below hb)
  replace hB := below_trans hB hb
  replace a0 := cell_below hb a0
  replace a1 := cell_below hb a1
  replace a2 := cell_below hb a2
  replace a3 := cell_below hb a3
  clear hb KR HL4 c0 c1 c2 c3
  obtain ⟨hb, b0, b1, b2, b3⟩ := eid_cells w5 sc nm nd sv
  have HL6 := Lib.hid (HL5.out.below hb)
  replace hB := below_trans hB hb
  replace a0 := cell_below hb a0
  replace a1 := cell_below hb a1
  replace a2 := cell_below hb a2
  replace a3 := cell_below hb a3
  clear hb HL5
  go_upto_region 6 with fail
  generalize w5.alloc (.cells #[.int .i64 sc, .string ⟨nm.toArray⟩, .int .u64 nd, .int .u64 sv] 29) = w6 at *
  go_wp2_with fail
  refine (awake07_any _ HL6.out).mono ?_
  rintro e w7 ⟨rfl, hb⟩
  replace hB := below_trans hB hb
  replace a0 := cell_below hb a0
  replace a1 := cell_below hb a1
  replace a2 := cell_below hb a2
  replace a3 := cell_below hb a3
  replace b0 := cell_below hb b0
  replace b1 := cell_below hb b1
  replace b2 := cell_below hb b2
  replace b3 := cell_below hb b3
  clear hb HL6
  go_wp2_with fail
  go_ret
  exact ⟨rfl, hB⟩
end Go.Proofs.Ytieigjlbjiielaa
