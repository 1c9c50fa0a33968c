/- Layer 41 (tape): contract of step; of Check's closures. No condition but lengths' bounds. -/
import Derived.Test.YtefipigdkdopcaaTap1
namespace Go.Proofs.Ytefipigdkdopcaa
open Go.RowKit

set_option maxRecDepth 100000 in
set_option maxHeartbeats 4000000 in
theorem step_any (s : StV) (w : World) (hd : s.d.length ≤ 9223372036854775807) : Calls Try.prog 91 #[.agg (stA s)] w fun e w' => e = .returned (.bool (stepOk s)) ∧ Below w.heap.size w w' := by
  obtain ⟨k, d, p, a, b⟩ := s
  dsimp only at hd
  obtain ⟨bb, hc1, hc2⟩ := two_cells w #[.int .i64 k, .string ⟨d.toArray⟩, .int .i64 p, .int .u64 (a : Int), .int .u64 (b : Int)] #[.int .i64 k, .string ⟨#[]⟩, .int .i64 0, .int .u64 (a : Int), .int .u64 (b : Int)] 78 78
  have p0 := hc1 0 (.int .i64 k) rfl
  have p1 := hc1 1 (.string ⟨d.toArray⟩) rfl
  have p2 := hc1 2 (.int .i64 p) rfl
  have p3 := hc1 3 (.int .u64 (a : Int)) rfl
  have p4 := hc1 4 (.int .u64 (b : Int)) rfl
  have q0 := hc2 0 (.int .i64 k) rfl
  have q1 := hc2 1 (.string ⟨#[]⟩) rfl
  have q2 := hc2 2 (.int .i64 0) rfl
  have q3 := hc2 3 (.int .u64 (a : Int)) rfl
  have q4 := hc2 4 (.int .u64 (b : Int)) rfl
  obtain ⟨bb1, hc3⟩ := one_cells w #[.int .i64 k, .string ⟨d.toArray⟩, .int .i64 p, .int .u64 (a : Int), .int .u64 (b : Int)] 78
  have r0 := hc3 0 (.int .i64 k) rfl
  have r3 := hc3 3 (.int .u64 (a : Int)) rfl
  have r4 := hc3 4 (.int .u64 (b : Int)) rfl
  have hd1 : d = [] ∨ (d == []) = false := by cases d <;> simp
  have K1 := fun W => Lib.hid (within_any p (-9) 9 W)
  have K2 := fun W => Lib.hid (within_any k 1 7 W)
  have K3 := fun W => Lib.hid (ccheck_any k a b W)
  clear hc1 hc2 hc3 bb1
  by_cases h8 : k = 8
  · have HG : Hid (stepOk ⟨k, d, p, a, b⟩ = (decide (-9 ≤ p ∧ p ≤ 9) && decide (d.length ≤ 4000 ∧ a = 0 ∧ b = 0))) := by show _ = _; unfold stepOk; rw [if_pos h8]; simp only [Bool.decide_and]
    generalize stepOk ⟨k, d, p, a, b⟩ = g at *
    subst h8
    clear q0 q1 q2 q3 q4 K2 K3 hd1
    cases h1 : decide (-9 ≤ p ∧ p ≤ 9) with
    | false =>
      rw [h1] at HG K1
      have HG2 : Hid (g = false) := HG.out
      clear HG h1
      go_enter Try.func91, Try.ntmps91
      go_wp2_with fail
      refine (K1 _).out.mono ?_
      rintro e w2 ⟨rfl, rfl⟩
      go_wp2_with fail
      go_ret
      exact ⟨ret_bool HG2.out.symm, bb⟩
    | true =>
    rw [h1] at HG K1
    clear h1
    rcases (by omega : 4000 < d.length ∨ (d.length ≤ 4000 ∧ a ≠ 0) ∨ (d.length ≤ 4000 ∧ a = 0 ∧ b ≠ 0) ∨ (d.length ≤ 4000 ∧ a = 0 ∧ b = 0)) with h1 | ⟨h1, h2⟩ | ⟨h1, h2, h3⟩ | ⟨h1, h2, h3⟩
    · have HG2 : Hid (g = false) := by show _ = _; rw [HG.out, Bool.true_and, decide_eq_false_iff_not]; omega
      have d1 : decide ((d.length : Int) ≤ 4000) = false := by rw [decide_eq_false_iff_not]; omega
      have d2 : decide (d.length ≤ 4000) = false := by rw [decide_eq_false_iff_not]; omega
      clear HG h1
      go_enter Try.func91, Try.ntmps91
      go_wp2_with fail
      refine (K1 _).out.mono ?_
      rintro e w2 ⟨rfl, rfl⟩
      go_wp2_with fail
      go_ret
      exact ⟨ret_bool HG2.out.symm, bb⟩
    · have HG2 : Hid (g = false) := by show _ = _; rw [HG.out, Bool.true_and, decide_eq_false_iff_not]; omega
      have d1 : decide ((d.length : Int) ≤ 4000) = true := by rw [decide_eq_true_iff]; omega
      have d2 : decide (d.length ≤ 4000) = true := by rw [decide_eq_true_iff]; omega
      have d3 : ((a : Int) == 0) = false := by rw [beq_eq_false_iff_ne]; omega
      clear HG h1 h2
      go_enter Try.func91, Try.ntmps91
      go_wp2_with fail
      refine (K1 _).out.mono ?_
      rintro e w2 ⟨rfl, rfl⟩
      go_wp2_with fail
      go_ret
      exact ⟨ret_bool HG2.out.symm, bb⟩
    · have HG2 : Hid (g = false) := by show _ = _; rw [HG.out, Bool.true_and, decide_eq_false_iff_not]; omega
      have d1 : decide ((d.length : Int) ≤ 4000) = true := by rw [decide_eq_true_iff]; omega
      have d2 : decide (d.length ≤ 4000) = true := by rw [decide_eq_true_iff]; omega
      have d3 : ((b : Int) == 0) = false := by rw [beq_eq_false_iff_ne]; omega
      clear HG h1 h3
      subst h2
      go_enter Try.func91, Try.ntmps91
      go_wp2_with fail
      refine (K1 _).out.mono ?_
      rintro e w2 ⟨rfl, rfl⟩
      go_wp2_with fail
      go_ret
      exact ⟨ret_bool HG2.out.symm, bb⟩
    · have HG2 : Hid (g = true) := by show _ = _; rw [HG.out, Bool.true_and, decide_eq_true_iff]; omega
      have d1 : decide ((d.length : Int) ≤ 4000) = true := by rw [decide_eq_true_iff]; omega
      have d2 : decide (d.length ≤ 4000) = true := by rw [decide_eq_true_iff]; omega
      clear HG h1
      subst h2
      subst h3
      go_enter Try.func91, Try.ntmps91
      go_wp2_with fail
      refine (K1 _).out.mono ?_
      rintro e w2 ⟨rfl, rfl⟩
      go_wp2_with fail
      go_ret
      exact ⟨ret_bool HG2.out.symm, bb⟩
  have k8 : (k == 8) = false := by rw [beq_eq_false_iff_ne]; exact h8
  by_cases h9 : k = 9
  · have HG : Hid (stepOk ⟨k, d, p, a, b⟩ = decide (d = [] ∧ p = 0 ∧ a = 0 ∧ b = 0)) := by show _ = _; unfold stepOk; rw [if_neg h8, if_pos h9]
    generalize stepOk ⟨k, d, p, a, b⟩ = g at *
    subst h9
    clear q0 q1 q2 q3 q4 K1 K2 K3 h8
    rcases hd1 with rfl | hd1
    case inr =>
      have HG2 : Hid (g = false) := by show _ = _; rw [HG.out, decide_eq_false_iff_not]; rintro ⟨rfl, -⟩; simp at hd1
      clear HG
      go_enter Try.func91, Try.ntmps91
      go_wp2_with fail
      go_ret
      exact ⟨ret_bool HG2.out.symm, bb⟩
    rcases (by omega : p ≠ 0 ∨ (p = 0 ∧ a ≠ 0) ∨ (p = 0 ∧ a = 0 ∧ b ≠ 0) ∨ (p = 0 ∧ a = 0 ∧ b = 0)) with h1 | ⟨h1, h2⟩ | ⟨h1, h2, h3⟩ | ⟨h1, h2, h3⟩
    · have HG2 : Hid (g = false) := by show _ = _; rw [HG.out, decide_eq_false_iff_not]; omega
      have d1 : (p == 0) = false := by rw [beq_eq_false_iff_ne]; exact h1
      have d3 : decide (p = 0) = false := by rw [decide_eq_false_iff_not]; exact h1
      clear HG
      go_enter Try.func91, Try.ntmps91
      go_wp2_with fail
      go_ret
      exact ⟨ret_bool HG2.out.symm, bb⟩
    · have HG2 : Hid (g = false) := by show _ = _; rw [HG.out, decide_eq_false_iff_not]; omega
      have d1 : ((a : Int) == 0) = false := by rw [beq_eq_false_iff_ne]; omega
      have d3 : decide ((a : Int) = 0) = false := by rw [decide_eq_false_iff_not]; omega
      have d4 : ¬ ((a : Int) = 0) := by omega
      clear HG
      subst h1
      go_enter Try.func91, Try.ntmps91
      go_wp2_with fail
      go_ret
      exact ⟨ret_bool HG2.out.symm, bb⟩
    · have HG2 : Hid (g = false) := by show _ = _; rw [HG.out, decide_eq_false_iff_not]; omega
      have d1 : ((b : Int) == 0) = false := by rw [beq_eq_false_iff_ne]; omega
      have d3 : decide ((b : Int) = 0) = false := by rw [decide_eq_false_iff_not]; omega
      have d4 : ¬ ((b : Int) = 0) := by omega
      clear HG
      subst h1
      subst h2
      go_enter Try.func91, Try.ntmps91
      go_wp2_with fail
      go_ret
      exact ⟨ret_bool HG2.out.symm, bb⟩
    · have HG2 : Hid (g = true) := by show _ = _; rw [HG.out, decide_eq_true_iff]; exact ⟨rfl, h1, h2, h3⟩
      clear HG
      subst h1
      subst h2
      subst h3
      go_enter Try.func91, Try.ntmps91
      go_wp2_with fail
      go_ret
      exact ⟨ret_bool HG2.out.symm, bb⟩
  have k9 : (k == 9) = false := by rw [beq_eq_false_iff_ne]; exact h9
  have HG : Hid (stepOk ⟨k, d, p, a, b⟩ = decide (d = [] ∧ p = 0 ∧ cmdCheck k a b = 0)) := by show _ = _; unfold stepOk; rw [if_neg h8, if_neg h9]
  generalize stepOk ⟨k, d, p, a, b⟩ = g at *
  clear h8 h9 K1
  rcases hd1 with rfl | hd1
  case inr =>
    have HG2 : Hid (g = false) := by show _ = _; rw [HG.out, decide_eq_false_iff_not]; rintro ⟨rfl, -⟩; simp at hd1
    clear HG
    go_enter Try.func91, Try.ntmps91
    go_wp2_with fail
    go_ret
    exact ⟨ret_bool HG2.out.symm, bb⟩
  by_cases h1 : p = 0
  case neg =>
    have HG2 : Hid (g = false) := by show _ = _; rw [HG.out, decide_eq_false_iff_not]; omega
    have d1 : (p == 0) = false := by rw [beq_eq_false_iff_ne]; exact h1
    have d3 : decide (p = 0) = false := by rw [decide_eq_false_iff_not]; exact h1
    clear HG
    go_enter Try.func91, Try.ntmps91
    go_wp2_with fail
    go_ret
    exact ⟨ret_bool HG2.out.symm, bb⟩
  subst h1
  by_cases hk : 1 ≤ k ∧ k ≤ 7
  case neg =>
    have HG2 : Hid (g = false) := by
      show _ = _
      rw [HG.out, decide_eq_false_iff_not]
      rintro ⟨-, -, hc⟩
      unfold cmdCheck at hc
      rw [if_pos ((wordK_nil k).2 hk)] at hc
      cases hc
    rw [decide_eq_false hk] at K2
    clear HG hk
    go_enter Try.func91, Try.ntmps91
    go_wp2_with fail
    refine (K2 _).out.mono ?_
    rintro e w2 ⟨rfl, rfl⟩
    go_wp2_with fail
    go_ret
    exact ⟨ret_bool HG2.out.symm, bb⟩
  rw [decide_eq_true hk] at K2
  by_cases hc : cmdCheck k a b = 0
  · have HG2 : Hid (g = true) := by show _ = _; rw [HG.out, decide_eq_true_iff]; exact ⟨rfl, rfl, hc⟩
    rw [hc] at K3
    clear HG hk hc
    go_enter Try.func91, Try.ntmps91
    go_wp2_with fail
    refine (K2 _).out.mono ?_
    rintro e w2 ⟨rfl, rfl⟩
    go_wp2_with fail
    refine (K3 _).out.mono ?_
    rintro e w3 ⟨rfl, hb⟩
    go_wp2_with fail
    go_ret
    exact ⟨ret_bool HG2.out.symm, below_trans bb hb⟩
  · have HG2 : Hid (g = false) := by show _ = _; rw [HG.out, decide_eq_false_iff_not]; exact fun h => hc h.2.2
    have d5 : ((cmdCheck k a b : Int) == 0) = false := by rw [beq_eq_false_iff_ne]; omega
    clear HG hk hc
    generalize cmdCheck k a b = ck at *
    go_enter Try.func91, Try.ntmps91
    go_wp2_with fail
    refine (K2 _).out.mono ?_
    rintro e w2 ⟨rfl, rfl⟩
    go_wp2_with fail
    refine (K3 _).out.mono ?_
    rintro e w3 ⟨rfl, hb⟩
    go_wp2_with fail
    go_ret
    exact ⟨ret_bool HG2.out.symm, below_trans bb hb⟩

set_option maxRecDepth 100000 in
theorem tchk1_any (b : Int) (w : World) : Calls Try.prog 94 #[.int .i64 b] w fun e w' => e = .returned (.bool (!badOk b)) ∧ Below w.heap.size w w' := by
  have K1 := fun W => Lib.hid (within_any b 0 33 W)
  have HG : Hid (badOk b = decide (0 ≤ b ∧ b ≤ 33)) := rfl
  rw [HG.out]
  clear HG
  generalize decide (0 ≤ b ∧ b ≤ 33) = g at *
  cases g
  all_goals
    go_enter Try.func94, Try.ntmps94
    go_wp2_with fail
    refine (K1 _).out.mono ?_
    rintro e w2 ⟨rfl, rfl⟩
    go_wp2_with fail
    go_ret
    exact ⟨rfl, Below.refl _ _⟩
set_option maxRecDepth 100000 in
theorem tchk2_any (f : FtV) (w : World) : Calls Try.prog 96 #[.agg (ftA f)] w fun e w' => e = .returned (.bool (!faultOk f)) ∧ Below w.heap.size w w' := by
  have K1 := fun W => Lib.hid (fault_any f W)
  obtain ⟨t, k, A, m, c, x⟩ := f
  obtain ⟨hB, hca⟩ := one_cells w #[.int .i64 t, .int .i64 k, .slice A m c] 130
  have p0 := hca 0 (.int .i64 t) rfl
  have p1 := hca 1 (.int .i64 k) rfl
  have p2 := hca 2 (.slice A m c) rfl
  clear hca
  generalize faultOk ⟨t, k, A, m, c, x⟩ = g at *
  cases g
  all_goals
    go_enter Try.func96, Try.ntmps96
    go_wp2_with fail
    refine (K1 _).out.mono ?_
    rintro e w2 ⟨rfl, hb⟩
    go_wp2_with fail
    go_ret
    exact ⟨rfl, below_trans hB hb⟩
set_option maxRecDepth 100000 in
theorem tchk3_any (s : StV) (w : World) (hd : s.d.length ≤ 9223372036854775807) : Calls Try.prog 98 #[.agg (stA s)] w fun e w' => e = .returned (.bool (!stepOk s)) ∧ Below w.heap.size w w' := by
  have K1 := fun W => Lib.hid (step_any s W hd)
  obtain ⟨k, d, p, a, b⟩ := s
  obtain ⟨hB, hca⟩ := one_cells w #[.int .i64 k, .string ⟨d.toArray⟩, .int .i64 p, .int .u64 (a : Int), .int .u64 (b : Int)] 78
  have p0 := hca 0 (.int .i64 k) rfl
  have p1 := hca 1 (.string ⟨d.toArray⟩) rfl
  have p2 := hca 2 (.int .i64 p) rfl
  have p3 := hca 3 (.int .u64 (a : Int)) rfl
  have p4 := hca 4 (.int .u64 (b : Int)) rfl
  clear hca
  generalize stepOk ⟨k, d, p, a, b⟩ = g at *
  cases g
  all_goals
    go_enter Try.func98, Try.ntmps98
    go_wp2_with fail
    refine (K1 _).out.mono ?_
    rintro e w2 ⟨rfl, hb⟩
    go_wp2_with fail
    go_ret
    exact ⟨rfl, below_trans hB hb⟩
end Go.Proofs.Ytefipigdkdopcaa
