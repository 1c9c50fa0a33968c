/- The law TapeSteps of layer 41 (tape), walked. -/
import Derived.Test.YtefipigdkdopcaaTap14
namespace Go.Proofs.Ytefipigdkdopcaa
open Go.RowKit

theorem lineS_len {s : StV} (hp : i64 s.p) (h : stepOk s = true) : (lineS s).length ≤ 9000 ∧ s.d.length ≤ 4000 := by
  obtain ⟨k, d, p, a, b⟩ := s
  have h0 := h
  unfold stepOk at h0
  dsimp only at hp h0
  by_cases h8 : k = 8
  · rw [if_pos h8, decide_eq_true_iff] at h0
    have h1 := digI_len hp.1 hp.2
    have h2 := hexW_length d
    unfold lineS
    rw [if_pos h8]
    simp only [List.length_append, List.length_cons, List.length_nil]
    omega
  rw [if_neg h8] at h0
  by_cases h9 : k = 9
  · rw [if_pos h9, decide_eq_true_iff] at h0
    unfold lineS
    rw [if_neg h8, if_pos h9, h0.1]
    exact ⟨by decide, Nat.zero_le _⟩
  rw [if_neg h9, decide_eq_true_iff] at h0
  obtain ⟨rfl, rfl, hc⟩ := h0
  obtain ⟨hk, ha, hb, -⟩ := check_zero hc
  have := textK_length k a b (by omega) (by omega)
  unfold lineS
  rw [if_neg h8, if_neg h9]
  dsimp only
  rw [if_pos hc]
  exact ⟨by omega, Nat.zero_le _⟩

set_option maxRecDepth 100000 in
set_option maxHeartbeats 4000000 in
theorem tapesteps_law (s : StV) (t : List UInt8) (w : World) (hp : i64 s.p) (ha : s.a < 18446744073709551616) (hb : s.b < 18446744073709551616) :
    Calls Try.prog 11 #[.agg (stA s), .string ⟨t.toArray⟩] w fun e w' => e = .returned (.bool true) ∧ Below w.heap.size w w' := by
  have KAW := fun W => Lib.hid (awake41_any W)
  have KS : s.d.length ≤ 4100 → ∀ W, Hid (Calls Try.prog 44 #[.agg (stA s)] W fun e w' => e = .returned (.bool (stepOk s)) ∧ Below W.heap.size W w') := fun h W => Lib.hid (r41step_any s W (by omega))
  have KR : stepOk s = true → ∀ W, Hid (Calls Try.prog 46 #[.agg (stA s)] W fun e w' => e = .returned (.string ⟨(lineS s).toArray⟩) ∧ Below W.heap.size W w') := fun h W => Lib.hid (r41line_any s W hp (by have := (lineS_len hp h).2; omega) h)
  have KT1 : stepOk s = true → ∀ W, Hid (Calls Try.prog 45 #[.string ⟨(lineS s).toArray⟩] W fun e w' => e = .returned (.tuple #[.agg (stA s), .int .i64 0]) ∧ Below W.heap.size W w') := fun h W => Lib.hid ((tstep_any (lineS s) W (by have := (lineS_len hp h).1; omega)).mono (fun e w' q => ⟨by rw [q.1, stepF_line h]; rfl, q.2⟩))
  obtain ⟨k, d, p, a, b⟩ := s
  dsimp only at hp ha hb KS KR KT1
  generalize lineS ⟨k, d, p, a, b⟩ = ls at *
  generalize stepOk ⟨k, d, p, a, b⟩ = ok at *
  obtain ⟨hB, hca⟩ := one_cells w #[.int .i64 k, .string ⟨d.toArray⟩, .int .i64 p, .int .u64 (a : Int), .int .u64 (b : Int)] 78
  have c0 := hca 0 (.int .i64 k) rfl
  have c1 := hca 1 (.string ⟨d.toArray⟩) rfl
  have c2 := hca 2 (.int .i64 p) rfl
  have c3 := hca 3 (.int .u64 (a : Int)) rfl
  have c4 := hca 4 (.int .u64 (b : Int)) rfl
  clear hca
  by_cases h1 : 4100 < d.length
  · have e1 : decide ((4100 : Int) < (d.length : Int)) = true := by rw [decide_eq_true_iff]; omega
    have e2 : decide (4100 < d.length) = true := by rw [decide_eq_true_iff]; omega
    clear KS KR KT1 ha hb hp
    go_enter Try.func11, Try.ntmps11
    go_wp2_with fail
    refine (KAW _).out.mono ?_
    rintro e w1 ⟨rfl, hb⟩
    replace hB := below_trans hB hb
    clear hb
    go_wp2_with fail
    go_ret
    exact ⟨rfl, hB⟩
  have e1 : decide ((4100 : Int) < (d.length : Int)) = false := by rw [decide_eq_false_iff_not]; omega
  have e2 : decide (4100 < d.length) = false := by rw [decide_eq_false_iff_not]; omega
  replace KS := KS (by omega)
  by_cases h2 : 3000 < t.length
  · have e3 : decide ((3000 : Int) < (t.length : Int)) = true := by rw [decide_eq_true_iff]; omega
    have e4 : decide (3000 < t.length) = true := by rw [decide_eq_true_iff]; omega
    clear KS KR KT1 ha hb hp
    go_enter Try.func11, Try.ntmps11
    go_wp2_with fail
    refine (KAW _).out.mono ?_
    rintro e w1 ⟨rfl, hb⟩
    replace hB := below_trans hB hb
    clear hb
    go_wp2_with fail
    go_ret
    exact ⟨rfl, hB⟩
  have e3 : decide ((3000 : Int) < (t.length : Int)) = false := by rw [decide_eq_false_iff_not]; omega
  have e4 : decide (3000 < t.length) = false := by rw [decide_eq_false_iff_not]; omega
  have KT := fun W => Lib.hid (tstep_any t W (by omega))
  by_cases he : (stepF t).2 = 0
  · obtain ⟨q1, q2⟩ := stepF_ok he
    have KS2 := fun W => Lib.hid (r41step_any (stepF t).1 W (by
      by_cases h : i64 (stepF t).1.p
      · have := (lineS_len h q1).2; omega
      · unfold stepOk at q1
        by_cases h8 : (stepF t).1.k = 8
        · rw [if_pos h8, decide_eq_true_iff] at q1; omega
        · rw [if_neg h8] at q1
          by_cases h9 : (stepF t).1.k = 9
          · rw [if_pos h9, decide_eq_true_iff] at q1; rw [q1.1]; decide
          · rw [if_neg h9, decide_eq_true_iff] at q1; rw [q1.1]; decide))
    have hpx : i64 (stepF t).1.p ∧ (stepF t).1.d.length ≤ 10000 := by
      unfold stepOk at q1
      unfold i64
      by_cases h8 : (stepF t).1.k = 8
      · rw [if_pos h8, decide_eq_true_iff] at q1; omega
      · rw [if_neg h8] at q1
        by_cases h9 : (stepF t).1.k = 9
        · rw [if_pos h9, decide_eq_true_iff] at q1; rw [q1.1, q1.2.1]; decide
        · rw [if_neg h9, decide_eq_true_iff] at q1; rw [q1.1, q1.2.1]; decide
    have KR2 := fun W => Lib.hid (r41line_any (stepF t).1 W hpx.1 hpx.2 q1)
    rw [q1] at KS2
    rw [q2] at KR2
    rw [he] at KT
    clear he q1 q2 hpx
    generalize (stepF t).1 = X at *
    obtain ⟨xk, xd, xp, xa, xb⟩ := X
    cases ok with
    | true =>
      replace KR := KR rfl
      replace KT1 := KT1 rfl
      go_enter Try.func11, Try.ntmps11
      go_wp2_with fail
      refine (KS _).out.mono ?_
      rintro e w1 ⟨rfl, hb⟩
      replace c0 := cell_below hb c0
      replace c1 := cell_below hb c1
      replace c2 := cell_below hb c2
      replace c3 := cell_below hb c3
      replace c4 := cell_below hb c4
      replace hB := below_trans hB hb
      clear hb
      go_wp2_with fail
      refine (KR _).out.mono ?_
      rintro e w2 ⟨rfl, hb⟩
      replace c0 := cell_below hb c0
      replace c1 := cell_below hb c1
      replace c2 := cell_below hb c2
      replace c3 := cell_below hb c3
      replace c4 := cell_below hb c4
      replace hB := below_trans hB hb
      clear hb
      go_wp2_with fail
      refine (KT1 _).out.mono ?_
      rintro e w3 ⟨rfl, hb⟩
      replace c0 := cell_below hb c0
      replace c1 := cell_below hb c1
      replace c2 := cell_below hb c2
      replace c3 := cell_below hb c3
      replace c4 := cell_below hb c4
      replace hB := below_trans hB hb
      clear hb
      obtain ⟨hb, hca⟩ := one_cells w3 #[.int .i64 k, .string ⟨d.toArray⟩, .int .i64 p, .int .u64 (a : Int), .int .u64 (b : Int)] 78
      have y0 := hca 0 (.int .i64 k) rfl
      have y1 := hca 1 (.string ⟨d.toArray⟩) rfl
      have y2 := hca 2 (.int .i64 p) rfl
      have y3 := hca 3 (.int .u64 (a : Int)) rfl
      have y4 := hca 4 (.int .u64 (b : Int)) rfl
      replace c0 := cell_below hb c0
      replace c1 := cell_below hb c1
      replace c2 := cell_below hb c2
      replace c3 := cell_below hb c3
      replace c4 := cell_below hb c4
      replace hB := below_trans hB hb
      clear hb hca
      go_upto_region 5 with fail
      generalize w3.alloc (.cells #[.int .i64 k, .string ⟨d.toArray⟩, .int .i64 p, .int .u64 (a : Int), .int .u64 (b : Int)] 78) = w4 at *
      go_wp2_with fail
      refine (KT _).out.mono ?_
      rintro e w5 ⟨rfl, hb⟩
      replace hB := below_trans hB hb
      clear hb
      obtain ⟨hb, hca⟩ := one_cells w5 #[.int .i64 xk, .string ⟨xd.toArray⟩, .int .i64 xp, .int .u64 (xa : Int), .int .u64 (xb : Int)] 78
      have d0 := hca 0 (.int .i64 xk) rfl
      have d1 := hca 1 (.string ⟨xd.toArray⟩) rfl
      have d2 := hca 2 (.int .i64 xp) rfl
      have d3 := hca 3 (.int .u64 (xa : Int)) rfl
      have d4 := hca 4 (.int .u64 (xb : Int)) rfl
      replace hB := below_trans hB hb
      clear hb hca
      go_upto_region 8 with fail
      generalize w5.alloc (.cells #[.int .i64 xk, .string ⟨xd.toArray⟩, .int .i64 xp, .int .u64 (xa : Int), .int .u64 (xb : Int)] 78) = w6 at *
      go_wp2_with fail
      refine (KAW _).out.mono ?_
      rintro e w7 ⟨rfl, hb⟩
      replace d0 := cell_below hb d0
      replace d1 := cell_below hb d1
      replace d2 := cell_below hb d2
      replace d3 := cell_below hb d3
      replace d4 := cell_below hb d4
      replace hB := below_trans hB hb
      clear hb
      go_wp2_with fail
      refine (KS2 _).out.mono ?_
      rintro e w8 ⟨rfl, hb⟩
      replace d0 := cell_below hb d0
      replace d1 := cell_below hb d1
      replace d2 := cell_below hb d2
      replace d3 := cell_below hb d3
      replace d4 := cell_below hb d4
      replace hB := below_trans hB hb
      clear hb
      go_wp2_with fail
      refine (KR2 _).out.mono ?_
      rintro e w9 ⟨rfl, hb⟩
      replace hB := below_trans hB hb
      clear hb
      go_wp2_with fail
      go_ret
      exact ⟨ret_bool (by simp), hB⟩
    | false =>
      clear KR KT1
      go_enter Try.func11, Try.ntmps11
      go_wp2_with fail
      refine (KS _).out.mono ?_
      rintro e w1 ⟨rfl, hb⟩
      replace hB := below_trans hB hb
      clear hb
      go_wp2_with fail
      refine (KT _).out.mono ?_
      rintro e w2 ⟨rfl, hb⟩
      replace hB := below_trans hB hb
      clear hb
      obtain ⟨hb, hca⟩ := one_cells w2 #[.int .i64 xk, .string ⟨xd.toArray⟩, .int .i64 xp, .int .u64 (xa : Int), .int .u64 (xb : Int)] 78
      have d0 := hca 0 (.int .i64 xk) rfl
      have d1 := hca 1 (.string ⟨xd.toArray⟩) rfl
      have d2 := hca 2 (.int .i64 xp) rfl
      have d3 := hca 3 (.int .u64 (xa : Int)) rfl
      have d4 := hca 4 (.int .u64 (xb : Int)) rfl
      replace hB := below_trans hB hb
      clear hb hca
      go_upto_region 8 with fail
      generalize w2.alloc (.cells #[.int .i64 xk, .string ⟨xd.toArray⟩, .int .i64 xp, .int .u64 (xa : Int), .int .u64 (xb : Int)] 78) = w3 at *
      go_wp2_with fail
      refine (KAW _).out.mono ?_
      rintro e w4 ⟨rfl, hb⟩
      replace d0 := cell_below hb d0
      replace d1 := cell_below hb d1
      replace d2 := cell_below hb d2
      replace d3 := cell_below hb d3
      replace d4 := cell_below hb d4
      replace hB := below_trans hB hb
      clear hb
      go_wp2_with fail
      refine (KS2 _).out.mono ?_
      rintro e w5 ⟨rfl, hb⟩
      replace d0 := cell_below hb d0
      replace d1 := cell_below hb d1
      replace d2 := cell_below hb d2
      replace d3 := cell_below hb d3
      replace d4 := cell_below hb d4
      replace hB := below_trans hB hb
      clear hb
      go_wp2_with fail
      refine (KR2 _).out.mono ?_
      rintro e w6 ⟨rfl, hb⟩
      replace hB := below_trans hB hb
      clear hb
      go_wp2_with fail
      go_ret
      exact ⟨ret_bool (by simp), hB⟩
  · rcases stepF_bad he with hx | hx
    · have KT : ∀ W, Hid (Calls Try.prog 45 #[.string ⟨t.toArray⟩] W fun e w' => e = .returned (.tuple #[.agg #[.int .i64 0, .string ⟨#[]⟩, .int .i64 0, .int .u64 0, .int .u64 0], .int .i64 17]) ∧ Below W.heap.size W w') := fun W => Lib.hid ((KT W).out.mono (fun e w' q => ⟨by rw [q.1, hx]; rfl, q.2⟩))
      clear hx he
      cases ok with
      | true =>
        replace KR := KR rfl
        replace KT1 := KT1 rfl
        go_enter Try.func11, Try.ntmps11
        go_wp2_with fail
        refine (KS _).out.mono ?_
        rintro e w1 ⟨rfl, hb⟩
        replace c0 := cell_below hb c0
        replace c1 := cell_below hb c1
        replace c2 := cell_below hb c2
        replace c3 := cell_below hb c3
        replace c4 := cell_below hb c4
        replace hB := below_trans hB hb
        clear hb
        go_wp2_with fail
        refine (KR _).out.mono ?_
        rintro e w2 ⟨rfl, hb⟩
        replace c0 := cell_below hb c0
        replace c1 := cell_below hb c1
        replace c2 := cell_below hb c2
        replace c3 := cell_below hb c3
        replace c4 := cell_below hb c4
        replace hB := below_trans hB hb
        clear hb
        go_wp2_with fail
        refine (KT1 _).out.mono ?_
        rintro e w3 ⟨rfl, hb⟩
        replace c0 := cell_below hb c0
        replace c1 := cell_below hb c1
        replace c2 := cell_below hb c2
        replace c3 := cell_below hb c3
        replace c4 := cell_below hb c4
        replace hB := below_trans hB hb
        clear hb
        obtain ⟨hb, hca⟩ := one_cells w3 #[.int .i64 k, .string ⟨d.toArray⟩, .int .i64 p, .int .u64 (a : Int), .int .u64 (b : Int)] 78
        have y0 := hca 0 (.int .i64 k) rfl
        have y1 := hca 1 (.string ⟨d.toArray⟩) rfl
        have y2 := hca 2 (.int .i64 p) rfl
        have y3 := hca 3 (.int .u64 (a : Int)) rfl
        have y4 := hca 4 (.int .u64 (b : Int)) rfl
        replace c0 := cell_below hb c0
        replace c1 := cell_below hb c1
        replace c2 := cell_below hb c2
        replace c3 := cell_below hb c3
        replace c4 := cell_below hb c4
        replace hB := below_trans hB hb
        clear hb hca
        go_upto_region 5 with fail
        generalize w3.alloc (.cells #[.int .i64 k, .string ⟨d.toArray⟩, .int .i64 p, .int .u64 (a : Int), .int .u64 (b : Int)] 78) = w4 at *
        go_wp2_with fail
        refine (KT _).out.mono ?_
        rintro e w5 ⟨rfl, hb⟩
        replace hB := below_trans hB hb
        clear hb
        obtain ⟨hb, hca⟩ := one_cells w5 #[.int .i64 0, .string ⟨#[]⟩, .int .i64 0, .int .u64 0, .int .u64 0] 78
        have d0 := hca 0 (.int .i64 0) rfl
        have d1 := hca 1 (.string ⟨#[]⟩) rfl
        have d2 := hca 2 (.int .i64 0) rfl
        have d3 := hca 3 (.int .u64 0) rfl
        have d4 := hca 4 (.int .u64 0) rfl
        replace hB := below_trans hB hb
        clear hb hca
        go_upto_region 8 with fail
        generalize w5.alloc (.cells #[.int .i64 0, .string ⟨#[]⟩, .int .i64 0, .int .u64 0, .int .u64 0] 78) = w6 at *
        go_wp2_with fail
        refine (KAW _).out.mono ?_
        rintro e w7 ⟨rfl, hb⟩
        replace d0 := cell_below hb d0
        replace d1 := cell_below hb d1
        replace d2 := cell_below hb d2
        replace d3 := cell_below hb d3
        replace d4 := cell_below hb d4
        replace hB := below_trans hB hb
        clear hb
        go_wp2_with fail
        go_ret
        exact ⟨ret_bool (by simp), hB⟩
      | false =>
        clear KR KT1
        go_enter Try.func11, Try.ntmps11
        go_wp2_with fail
        refine (KS _).out.mono ?_
        rintro e w1 ⟨rfl, hb⟩
        replace hB := below_trans hB hb
        clear hb
        go_wp2_with fail
        refine (KT _).out.mono ?_
        rintro e w2 ⟨rfl, hb⟩
        replace hB := below_trans hB hb
        clear hb
        obtain ⟨hb, hca⟩ := one_cells w2 #[.int .i64 0, .string ⟨#[]⟩, .int .i64 0, .int .u64 0, .int .u64 0] 78
        have d0 := hca 0 (.int .i64 0) rfl
        have d1 := hca 1 (.string ⟨#[]⟩) rfl
        have d2 := hca 2 (.int .i64 0) rfl
        have d3 := hca 3 (.int .u64 0) rfl
        have d4 := hca 4 (.int .u64 0) rfl
        replace hB := below_trans hB hb
        clear hb hca
        go_upto_region 8 with fail
        generalize w2.alloc (.cells #[.int .i64 0, .string ⟨#[]⟩, .int .i64 0, .int .u64 0, .int .u64 0] 78) = w3 at *
        go_wp2_with fail
        refine (KAW _).out.mono ?_
        rintro e w4 ⟨rfl, hb⟩
        replace d0 := cell_below hb d0
        replace d1 := cell_below hb d1
        replace d2 := cell_below hb d2
        replace d3 := cell_below hb d3
        replace d4 := cell_below hb d4
        replace hB := below_trans hB hb
        clear hb
        go_wp2_with fail
        go_ret
        exact ⟨ret_bool (by simp), hB⟩
    · have KT : ∀ W, Hid (Calls Try.prog 45 #[.string ⟨t.toArray⟩] W fun e w' => e = .returned (.tuple #[.agg #[.int .i64 0, .string ⟨#[]⟩, .int .i64 0, .int .u64 0, .int .u64 0], .int .i64 6]) ∧ Below W.heap.size W w') := fun W => Lib.hid ((KT W).out.mono (fun e w' q => ⟨by rw [q.1, hx]; rfl, q.2⟩))
      clear hx he
      cases ok with
      | true =>
        replace KR := KR rfl
        replace KT1 := KT1 rfl
        go_enter Try.func11, Try.ntmps11
        go_wp2_with fail
        refine (KS _).out.mono ?_
        rintro e w1 ⟨rfl, hb⟩
        replace c0 := cell_below hb c0
        replace c1 := cell_below hb c1
        replace c2 := cell_below hb c2
        replace c3 := cell_below hb c3
        replace c4 := cell_below hb c4
        replace hB := below_trans hB hb
        clear hb
        go_wp2_with fail
        refine (KR _).out.mono ?_
        rintro e w2 ⟨rfl, hb⟩
        replace c0 := cell_below hb c0
        replace c1 := cell_below hb c1
        replace c2 := cell_below hb c2
        replace c3 := cell_below hb c3
        replace c4 := cell_below hb c4
        replace hB := below_trans hB hb
        clear hb
        go_wp2_with fail
        refine (KT1 _).out.mono ?_
        rintro e w3 ⟨rfl, hb⟩
        replace c0 := cell_below hb c0
        replace c1 := cell_below hb c1
        replace c2 := cell_below hb c2
        replace c3 := cell_below hb c3
        replace c4 := cell_below hb c4
        replace hB := below_trans hB hb
        clear hb
        obtain ⟨hb, hca⟩ := one_cells w3 #[.int .i64 k, .string ⟨d.toArray⟩, .int .i64 p, .int .u64 (a : Int), .int .u64 (b : Int)] 78
        have y0 := hca 0 (.int .i64 k) rfl
        have y1 := hca 1 (.string ⟨d.toArray⟩) rfl
        have y2 := hca 2 (.int .i64 p) rfl
        have y3 := hca 3 (.int .u64 (a : Int)) rfl
        have y4 := hca 4 (.int .u64 (b : Int)) rfl
        replace c0 := cell_below hb c0
        replace c1 := cell_below hb c1
        replace c2 := cell_below hb c2
        replace c3 := cell_below hb c3
        replace c4 := cell_below hb c4
        replace hB := below_trans hB hb
        clear hb hca
        go_upto_region 5 with fail
        generalize w3.alloc (.cells #[.int .i64 k, .string ⟨d.toArray⟩, .int .i64 p, .int .u64 (a : Int), .int .u64 (b : Int)] 78) = w4 at *
        go_wp2_with fail
        refine (KT _).out.mono ?_
        rintro e w5 ⟨rfl, hb⟩
        replace hB := below_trans hB hb
        clear hb
        obtain ⟨hb, hca⟩ := one_cells w5 #[.int .i64 0, .string ⟨#[]⟩, .int .i64 0, .int .u64 0, .int .u64 0] 78
        have d0 := hca 0 (.int .i64 0) rfl
        have d1 := hca 1 (.string ⟨#[]⟩) rfl
        have d2 := hca 2 (.int .i64 0) rfl
        have d3 := hca 3 (.int .u64 0) rfl
        have d4 := hca 4 (.int .u64 0) rfl
        replace hB := below_trans hB hb
        clear hb hca
        go_upto_region 8 with fail
        generalize w5.alloc (.cells #[.int .i64 0, .string ⟨#[]⟩, .int .i64 0, .int .u64 0, .int .u64 0] 78) = w6 at *
        go_wp2_with fail
        refine (KAW _).out.mono ?_
        rintro e w7 ⟨rfl, hb⟩
        replace d0 := cell_below hb d0
        replace d1 := cell_below hb d1
        replace d2 := cell_below hb d2
        replace d3 := cell_below hb d3
        replace d4 := cell_below hb d4
        replace hB := below_trans hB hb
        clear hb
        go_wp2_with fail
        go_ret
        exact ⟨ret_bool (by simp), hB⟩
      | false =>
        clear KR KT1
        go_enter Try.func11, Try.ntmps11
        go_wp2_with fail
        refine (KS _).out.mono ?_
        rintro e w1 ⟨rfl, hb⟩
        replace hB := below_trans hB hb
        clear hb
        go_wp2_with fail
        refine (KT _).out.mono ?_
        rintro e w2 ⟨rfl, hb⟩
        replace hB := below_trans hB hb
        clear hb
        obtain ⟨hb, hca⟩ := one_cells w2 #[.int .i64 0, .string ⟨#[]⟩, .int .i64 0, .int .u64 0, .int .u64 0] 78
        have d0 := hca 0 (.int .i64 0) rfl
        have d1 := hca 1 (.string ⟨#[]⟩) rfl
        have d2 := hca 2 (.int .i64 0) rfl
        have d3 := hca 3 (.int .u64 0) rfl
        have d4 := hca 4 (.int .u64 0) rfl
        replace hB := below_trans hB hb
        clear hb hca
        go_upto_region 8 with fail
        generalize w2.alloc (.cells #[.int .i64 0, .string ⟨#[]⟩, .int .i64 0, .int .u64 0, .int .u64 0] 78) = w3 at *
        go_wp2_with fail
        refine (KAW _).out.mono ?_
        rintro e w4 ⟨rfl, hb⟩
        replace d0 := cell_below hb d0
        replace d1 := cell_below hb d1
        replace d2 := cell_below hb d2
        replace d3 := cell_below hb d3
        replace d4 := cell_below hb d4
        replace hB := below_trans hB hb
        clear hb
        go_wp2_with fail
        go_ret
        exact ⟨ret_bool (by simp), hB⟩
end Go.Proofs.Ytefipigdkdopcaa
