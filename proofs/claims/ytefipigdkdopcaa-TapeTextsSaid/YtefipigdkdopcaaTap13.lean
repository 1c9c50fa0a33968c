/- Layer 41's reference: contracts of hex, Step, Line. No condition but lengths' bounds and, for Line, that the step is one. -/
import Derived.Test.YtefipigdkdopcaaTap7
import Derived.Test.YtefipigdkdopcaaCmd7
import Derived.Test.YtefipigdkdopcaaAw1
import Derived.Test.YtefipigdkdopcaaR35b
namespace Go.Proofs.Ytefipigdkdopcaa
open Go.RowKit

set_option maxRecDepth 100000 in
theorem r41hex_any (xs : List UInt8) (w : World) (hN : xs.length ≤ 10000) : Calls Try.prog 87 #[.string ⟨xs.toArray⟩] w fun e w' => e = .returned (.string ⟨(hexW xs).toArray⟩) ∧ Below w.heap.size w w' := by
  have KH := Lib.hid (refhex_any xs w hN)
  cases xs with
  | nil =>
    clear KH
    go_enter Try.func87, Try.ntmps87
    go_wp2_with fail
    go_ret
    exact ⟨rfl, Below.refl _ _⟩
  | cons c r =>
    have hw : Hid (hexW (c :: r) = hexS (c :: r)) := by show _ = _; unfold hexW; rw [if_neg (by simp)]
    have h1 : ((c :: r : List UInt8) == []) = false := rfl
    generalize (c :: r) = xs at *
    go_enter Try.func87, Try.ntmps87
    go_wp2_with fail
    refine KH.out.mono ?_
    rintro e w2 ⟨rfl, hb⟩
    go_wp2_with fail
    go_ret
    exact ⟨by rw [hw.out]; rfl, hb⟩

set_option maxRecDepth 100000 in
set_option maxHeartbeats 4000000 in
theorem r41step_any (s : StV) (w : World) (hd : s.d.length ≤ 9223372036854775807) : Calls Try.prog 44 #[.agg (stA s)] w fun e w' => e = .returned (.bool (stepOk s)) ∧ Below w.heap.size w w' := by
  obtain ⟨k, d, p, a, b⟩ := s
  dsimp only at hd
  obtain ⟨bb, hca⟩ := one_cells w #[.int .i64 k, .string ⟨d.toArray⟩, .int .i64 p, .int .u64 (a : Int), .int .u64 (b : Int)] 78
  have p0 := hca 0 (.int .i64 k) rfl
  have p1 := hca 1 (.string ⟨d.toArray⟩) rfl
  have p2 := hca 2 (.int .i64 p) rfl
  have p3 := hca 3 (.int .u64 (a : Int)) rfl
  have p4 := hca 4 (.int .u64 (b : Int)) rfl
  clear hca
  have hd1 : d = [] ∨ (d == []) = false := by cases d <;> simp
  have K3 := fun W => Lib.hid (r35check_any k a b W)
  by_cases h8 : k = 8
  · have HG : Hid (stepOk ⟨k, d, p, a, b⟩ = (decide (-9 ≤ p ∧ p ≤ 9) && decide (d.length ≤ 4000 ∧ a = 0 ∧ b = 0))) := by show _ = _; unfold stepOk; rw [if_pos h8]; simp only [Bool.decide_and]
    generalize stepOk ⟨k, d, p, a, b⟩ = g at *
    subst h8
    clear K3 hd1
    rcases (by omega : p < -9 ∨ 9 < p ∨ (-9 ≤ p ∧ p ≤ 9)) with h1 | h1 | h1
    · have HG2 : Hid (g = false) := by show _ = _; rw [HG.out, decide_eq_false (by omega), Bool.false_and]
      have d1 : decide (-9 ≤ p) = false := by rw [decide_eq_false_iff_not]; omega
      clear HG
      go_enter Try.func44, Try.ntmps44
      go_wp2_with fail
      go_ret
      exact ⟨ret_bool HG2.out.symm, bb⟩
    · have HG2 : Hid (g = false) := by show _ = _; rw [HG.out, decide_eq_false (by omega), Bool.false_and]
      have d1 : decide (-9 ≤ p) = true := by rw [decide_eq_true_iff]; omega
      have d0 : decide (p ≤ 9) = false := by rw [decide_eq_false_iff_not]; omega
      clear HG
      go_enter Try.func44, Try.ntmps44
      go_wp2_with fail
      go_ret
      exact ⟨ret_bool HG2.out.symm, bb⟩
    have d5 : decide (-9 ≤ p) = true := by rw [decide_eq_true_iff]; omega
    have d6 : decide (p ≤ 9) = true := by rw [decide_eq_true_iff]; omega
    rw [decide_eq_true h1] at HG
    clear h1
    rcases (by omega : 4000 < d.length ∨ (d.length ≤ 4000 ∧ a ≠ 0) ∨ (d.length ≤ 4000 ∧ a = 0 ∧ b ≠ 0) ∨ (d.length ≤ 4000 ∧ a = 0 ∧ b = 0)) with h1 | ⟨h1, h2⟩ | ⟨h1, h2, h3⟩ | ⟨h1, h2, h3⟩
    · have HG2 : Hid (g = false) := by show _ = _; rw [HG.out, Bool.true_and, decide_eq_false_iff_not]; omega
      have d1 : decide ((d.length : Int) ≤ 4000) = false := by rw [decide_eq_false_iff_not]; omega
      have d2 : decide (d.length ≤ 4000) = false := by rw [decide_eq_false_iff_not]; omega
      clear HG h1
      go_enter Try.func44, Try.ntmps44
      go_wp2_with fail
      go_ret
      exact ⟨ret_bool HG2.out.symm, bb⟩
    · have HG2 : Hid (g = false) := by show _ = _; rw [HG.out, Bool.true_and, decide_eq_false_iff_not]; omega
      have d1 : decide ((d.length : Int) ≤ 4000) = true := by rw [decide_eq_true_iff]; omega
      have d2 : decide (d.length ≤ 4000) = true := by rw [decide_eq_true_iff]; omega
      have d3 : ((a : Int) == 0) = false := by rw [beq_eq_false_iff_ne]; omega
      have d7 : decide ((a : Int) = 0) = false := by rw [decide_eq_false_iff_not]; omega
      have d8 : ¬ ((a : Int) = 0) := by omega
      clear HG h1 h2
      go_enter Try.func44, Try.ntmps44
      go_wp2_with fail
      go_ret
      exact ⟨ret_bool HG2.out.symm, bb⟩
    · have HG2 : Hid (g = false) := by show _ = _; rw [HG.out, Bool.true_and, decide_eq_false_iff_not]; omega
      have d1 : decide ((d.length : Int) ≤ 4000) = true := by rw [decide_eq_true_iff]; omega
      have d2 : decide (d.length ≤ 4000) = true := by rw [decide_eq_true_iff]; omega
      have d3 : ((b : Int) == 0) = false := by rw [beq_eq_false_iff_ne]; omega
      have d7 : decide ((b : Int) = 0) = false := by rw [decide_eq_false_iff_not]; omega
      have d8 : ¬ ((b : Int) = 0) := by omega
      clear HG h1 h3
      subst h2
      go_enter Try.func44, Try.ntmps44
      go_wp2_with fail
      go_ret
      exact ⟨ret_bool HG2.out.symm, bb⟩
    · have HG2 : Hid (g = true) := by show _ = _; rw [HG.out, Bool.true_and, decide_eq_true_iff]; omega
      have d1 : decide ((d.length : Int) ≤ 4000) = true := by rw [decide_eq_true_iff]; omega
      have d2 : decide (d.length ≤ 4000) = true := by rw [decide_eq_true_iff]; omega
      clear HG h1
      subst h2
      subst h3
      go_enter Try.func44, Try.ntmps44
      go_wp2_with fail
      go_ret
      exact ⟨ret_bool HG2.out.symm, bb⟩
  have k8 : (k == 8) = false := by rw [beq_eq_false_iff_ne]; exact h8
  by_cases h9 : k = 9
  · have HG : Hid (stepOk ⟨k, d, p, a, b⟩ = decide (d = [] ∧ p = 0 ∧ a = 0 ∧ b = 0)) := by show _ = _; unfold stepOk; rw [if_neg h8, if_pos h9]
    generalize stepOk ⟨k, d, p, a, b⟩ = g at *
    subst h9
    clear K3 h8
    by_cases h1 : p = 0
    case neg =>
      have HG2 : Hid (g = false) := by show _ = _; rw [HG.out, decide_eq_false_iff_not]; exact fun h => h1 h.2.1
      have d1 : (p == 0) = false := by rw [beq_eq_false_iff_ne]; exact h1
      have d3 : decide (p = 0) = false := by rw [decide_eq_false_iff_not]; exact h1
      clear HG
      go_enter Try.func44, Try.ntmps44
      go_wp2_with fail
      go_ret
      exact ⟨ret_bool HG2.out.symm, bb⟩
    subst h1
    rcases hd1 with rfl | hd1
    case inr =>
      have HG2 : Hid (g = false) := by show _ = _; rw [HG.out, decide_eq_false_iff_not]; rintro ⟨rfl, -⟩; simp at hd1
      clear HG
      go_enter Try.func44, Try.ntmps44
      go_wp2_with fail
      go_ret
      exact ⟨ret_bool HG2.out.symm, bb⟩
    rcases (by omega : a ≠ 0 ∨ (a = 0 ∧ b ≠ 0) ∨ (a = 0 ∧ b = 0)) with h2 | ⟨h2, h3⟩ | ⟨h2, h3⟩
    · have HG2 : Hid (g = false) := by show _ = _; rw [HG.out, decide_eq_false_iff_not]; omega
      have d1 : ((a : Int) == 0) = false := by rw [beq_eq_false_iff_ne]; omega
      have d3 : decide ((a : Int) = 0) = false := by rw [decide_eq_false_iff_not]; omega
      have d4 : ¬ ((a : Int) = 0) := by omega
      clear HG
      go_enter Try.func44, Try.ntmps44
      go_wp2_with fail
      go_ret
      exact ⟨ret_bool HG2.out.symm, bb⟩
    · have HG2 : Hid (g = false) := by show _ = _; rw [HG.out, decide_eq_false_iff_not]; omega
      have d1 : ((b : Int) == 0) = false := by rw [beq_eq_false_iff_ne]; omega
      have d3 : decide ((b : Int) = 0) = false := by rw [decide_eq_false_iff_not]; omega
      have d4 : ¬ ((b : Int) = 0) := by omega
      clear HG
      subst h2
      go_enter Try.func44, Try.ntmps44
      go_wp2_with fail
      go_ret
      exact ⟨ret_bool HG2.out.symm, bb⟩
    · have HG2 : Hid (g = true) := by show _ = _; rw [HG.out, decide_eq_true_iff]; exact ⟨rfl, rfl, h2, h3⟩
      clear HG
      subst h2
      subst h3
      go_enter Try.func44, Try.ntmps44
      go_wp2_with fail
      go_ret
      exact ⟨ret_bool HG2.out.symm, bb⟩
  have k9 : (k == 9) = false := by rw [beq_eq_false_iff_ne]; exact h9
  have HG : Hid (stepOk ⟨k, d, p, a, b⟩ = decide (d = [] ∧ p = 0 ∧ cmdCheck k a b = 0)) := by show _ = _; unfold stepOk; rw [if_neg h8, if_neg h9]
  generalize stepOk ⟨k, d, p, a, b⟩ = g at *
  clear h8 h9
  by_cases h1 : p = 0
  case neg =>
    have HG2 : Hid (g = false) := by show _ = _; rw [HG.out, decide_eq_false_iff_not]; exact fun h => h1 h.2.1
    have d1 : (p == 0) = false := by rw [beq_eq_false_iff_ne]; exact h1
    have d3 : decide (p = 0) = false := by rw [decide_eq_false_iff_not]; exact h1
    clear HG
    go_enter Try.func44, Try.ntmps44
    go_wp2_with fail
    go_ret
    exact ⟨ret_bool HG2.out.symm, bb⟩
  subst h1
  rcases hd1 with rfl | hd1
  case inr =>
    have HG2 : Hid (g = false) := by show _ = _; rw [HG.out, decide_eq_false_iff_not]; rintro ⟨rfl, -⟩; simp at hd1
    clear HG
    go_enter Try.func44, Try.ntmps44
    go_wp2_with fail
    go_ret
    exact ⟨ret_bool HG2.out.symm, bb⟩
  by_cases hc : cmdCheck k a b = 0
  · have HG2 : Hid (g = true) := by show _ = _; rw [HG.out, decide_eq_true_iff]; exact ⟨rfl, rfl, hc⟩
    rw [hc] at K3
    clear HG hc
    go_enter Try.func44, Try.ntmps44
    go_wp2_with fail
    refine (K3 _).out.mono ?_
    rintro e w3 ⟨rfl, hb⟩
    go_wp2_with fail
    go_ret
    exact ⟨ret_bool HG2.out.symm, below_trans bb hb⟩
  · have HG2 : Hid (g = false) := by show _ = _; rw [HG.out, decide_eq_false_iff_not]; exact fun h => hc h.2.2
    have d5 : ((cmdCheck k a b : Int) == 0) = false := by rw [beq_eq_false_iff_ne]; omega
    clear HG hc
    generalize cmdCheck k a b = ck at *
    go_enter Try.func44, Try.ntmps44
    go_wp2_with fail
    refine (K3 _).out.mono ?_
    rintro e w3 ⟨rfl, hb⟩
    go_wp2_with fail
    go_ret
    exact ⟨ret_bool HG2.out.symm, below_trans bb hb⟩

set_option maxRecDepth 100000 in
set_option maxHeartbeats 4000000 in
theorem r41line_any (s : StV) (w : World) (hp : i64 s.p) (hd : s.d.length ≤ 10000) (hok : stepOk s = true) : Calls Try.prog 46 #[.agg (stA s)] w fun e w' => e = .returned (.string ⟨(lineS s).toArray⟩) ∧ Below w.heap.size w w' := by
  obtain ⟨k, d, p, a, b⟩ := s
  dsimp only at hp hd
  obtain ⟨hB, hca⟩ := one_cells w #[.int .i64 k, .string ⟨d.toArray⟩, .int .i64 p, .int .u64 (a : Int), .int .u64 (b : Int)] 78
  have p0 := hca 0 (.int .i64 k) rfl
  have p1 := hca 1 (.string ⟨d.toArray⟩) rfl
  have p2 := hca 2 (.int .i64 p) rfl
  have p3 := hca 3 (.int .u64 (a : Int)) rfl
  have p4 := hca 4 (.int .u64 (b : Int)) rfl
  clear hca
  by_cases h8 : k = 8
  · have K1 := fun W => Lib.hid ((digits4_any p W hp.1 hp.2).mono (fun e w' q => (⟨q.1, q.2 ▸ Below.refl _ _⟩ : _ ∧ Below W.heap.size W w')))
    have K2 := fun W => Lib.hid (r41hex_any d W hd)
    have hl1 := digI_len hp.1 hp.2
    have hl2 := hexW_length d
    have HF : Hid (lineS ⟨k, d, p, a, b⟩ = [105, 110, 103, 101, 115, 116, 32] ++ digI p ++ [32] ++ hexW d) := by show _ = _; unfold lineS; rw [if_pos h8]
    generalize lineS ⟨k, d, p, a, b⟩ = fx at *
    generalize digI p = dp at *
    generalize hexW d = dx at *
    subst h8
    have l1 : ¬ (9223372036854775807 < 7 + dp.length) := by omega
    have l2 : ¬ (9223372036854775807 < 7 + dp.length + 1) := by omega
    have l3 : ¬ (9223372036854775807 < 7 + dp.length + 1 + dx.length) := by omega
    have HE : Hid ((⟨fx.toArray⟩ : ByteArray) = ⟨#[105, 110, 103, 101, 115, 116, 32]⟩ ++ ⟨dp.toArray⟩ ++ ⟨#[32]⟩ ++ ⟨dx.toArray⟩) := by show _ = _; rw [HF.out, ← cat_bytes, ← cat_bytes, ← cat_bytes]
    clear HF hp hok
    go_enter Try.func46, Try.ntmps46
    go_upto_region 4 with fail
    generalize w.alloc (.cells #[.int .i64 8, .string ⟨d.toArray⟩, .int .i64 p, .int .u64 (a : Int), .int .u64 (b : Int)] 78) = w1 at *
    refine wp_region_held (S := fun W => Below w1.heap.size w1 W) (by kernel_rfl) ?_
    change wpAnyH _ _ _ _ _ _ _ _ (w1).drew
    have hS : (fun W => Below w1.heap.size w1 W) (w1).drew := (Below.refl _ _).drew
    generalize (w1).drew = wd at hS ⊢
    refine wpAnyH_take (i := 0) (oi := { dst := some 9, op := Op.fieldAddr 78 (Operand.tmp 1) 2, type := 0, pos := "ref.go:70", after := #[], guard := none }) (v := ?_) rfl (by kernel_rfl) (by kernel_rfl) (by kernel_rfl) (fun _ _ _ h => h) (Or.inl ⟨by rfl, ?_⟩) (by assumption) ?_
    rotate_left
    · (intro wS hS; go_simp <;> with_reducible rfl)
    try simp only [Act.put, List.setIfInBounds_toArray, List.set_cons_zero, List.set_cons_succ]
    refine wpAnyH_take (i := 1) (oi := { dst := some 10, op := Op.load 3 (Operand.tmp 9), type := 3, pos := "ref.go:70", after := #[{ on := 0, ground := Ground.data }], guard := none }) (v := ?_) rfl (by kernel_rfl) (by kernel_rfl) (by kernel_rfl) (fun _ _ _ h => h) (Or.inl ⟨by rfl, ?_⟩) (by assumption) ?_
    rotate_left
    · (intro wS hS; have q1 := cell_below hS p1; have q2 := cell_below hS p2; go_simp <;> with_reducible rfl)
    try simp only [Act.put, List.setIfInBounds_toArray, List.set_cons_zero, List.set_cons_succ]
    refine wpAnyH_take (i := 5) (oi := { dst := some 14, op := Op.fieldAddr 78 (Operand.tmp 1) 1, type := 0, pos := "ref.go:70", after := #[], guard := none }) (v := ?_) rfl (by kernel_rfl) (by kernel_rfl) (by kernel_rfl) (fun _ _ _ h => h) (Or.inl ⟨by rfl, ?_⟩) (by assumption) ?_
    rotate_left
    · (intro wS hS; go_simp <;> with_reducible rfl)
    try simp only [Act.put, List.setIfInBounds_toArray, List.set_cons_zero, List.set_cons_succ]
    refine wpAnyH_take (i := 6) (oi := { dst := some 15, op := Op.load 9 (Operand.tmp 14), type := 9, pos := "ref.go:70", after := #[{ on := 5, ground := Ground.data }], guard := none }) (v := ?_) rfl (by kernel_rfl) (by kernel_rfl) (by kernel_rfl) (fun _ _ _ h => h) (Or.inl ⟨by rfl, ?_⟩) (by assumption) ?_
    rotate_left
    · (intro wS hS; have q1 := cell_below hS p1; have q2 := cell_below hS p2; go_simp <;> with_reducible rfl)
    try simp only [Act.put, List.setIfInBounds_toArray, List.set_cons_zero, List.set_cons_succ]
    refine wpAnyH_ready (rs := [2]) (by kernel_rfl) (by simp) ?_
    refine AllReadyH.cons (o := { dst := some 11, op := Op.call { callee := Callee.value (Operand.func 86), args := #[Operand.tmp 10], argTypes := #[3] }, type := 9, pos := "ref.go:70", after := #[{ on := 1, ground := Ground.data }], guard := none }) rfl (fun K hK => ?_) (AllReadyH.nil)
    have q1 := cell_below hS p1; have q2 := cell_below hS p2
    go_simp
    refine (K1 _).out.mono ?_
    rintro e w102 ⟨rfl, hb⟩
    replace hS : (fun W => Below w1.heap.size w1 W) w102 := below_then hS hb (Below.size hS)
    refine hK.out _ _ hS (fun _ => ?_)
    clear hK K hb
    try simp only [Act.put, List.setIfInBounds_toArray, List.set_cons_zero, List.set_cons_succ]
    refine wpAnyH_take (i := 3) (oi := { dst := some 12, op := Op.binOp BinOp.add 9 (Operand.const (Value.string { data := #[105, 110, 103, 101, 115, 116, 32] })) (Operand.tmp 11) 9, type := 9, pos := "ref.go:70", after := #[{ on := 2, ground := Ground.data }], guard := none }) (v := ?_) rfl (by kernel_rfl) (by kernel_rfl) (by kernel_rfl) (fun _ _ _ h => h) (Or.inl ⟨by rfl, ?_⟩) (by assumption) ?_
    rotate_left
    · (intro wS hS; go_simp <;> with_reducible rfl)
    try simp only [Act.put, List.setIfInBounds_toArray, List.set_cons_zero, List.set_cons_succ]
    refine wpAnyH_take (i := 4) (oi := { dst := some 13, op := Op.binOp BinOp.add 9 (Operand.tmp 12) (Operand.const (Value.string { data := #[32] })) 9, type := 9, pos := "ref.go:70", after := #[{ on := 3, ground := Ground.data }], guard := none }) (v := ?_) rfl (by kernel_rfl) (by kernel_rfl) (by kernel_rfl) (fun _ _ _ h => h) (Or.inl ⟨by rfl, ?_⟩) (by assumption) ?_
    rotate_left
    · (intro wS hS; go_simp <;> with_reducible rfl)
    try simp only [Act.put, List.setIfInBounds_toArray, List.set_cons_zero, List.set_cons_succ]
    refine wpAnyH_ready (rs := [7]) (by kernel_rfl) (by simp) ?_
    refine AllReadyH.cons (o := { dst := some 16, op := Op.call { callee := Callee.value (Operand.func 87), args := #[Operand.tmp 15], argTypes := #[9] }, type := 9, pos := "ref.go:70", after := #[{ on := 6, ground := Ground.data }, { on := 2, ground := Ground.chain }], guard := none }) rfl (fun K hK => ?_) (AllReadyH.nil)
    have q1 := cell_below hS p1; have q2 := cell_below hS p2
    go_simp
    refine (K2 _).out.mono ?_
    rintro e w107 ⟨rfl, hb⟩
    replace hS : (fun W => Below w1.heap.size w1 W) w107 := below_then hS hb (Below.size hS)
    refine hK.out _ _ hS (fun _ => ?_)
    clear hK K hb
    try simp only [Act.put, List.setIfInBounds_toArray, List.set_cons_zero, List.set_cons_succ]
    refine wpAnyH_take (i := 8) (oi := { dst := some 17, op := Op.binOp BinOp.add 9 (Operand.tmp 13) (Operand.tmp 16) 9, type := 9, pos := "ref.go:70", after := #[{ on := 4, ground := Ground.data }, { on := 7, ground := Ground.data }], guard := none }) (v := ?_) rfl (by kernel_rfl) (by kernel_rfl) (by kernel_rfl) (fun _ _ _ h => h) (Or.inl ⟨by rfl, ?_⟩) (by assumption) ?_
    rotate_left
    · (intro wS hS; go_simp <;> with_reducible rfl)
    try simp only [Act.put, List.setIfInBounds_toArray, List.set_cons_zero, List.set_cons_succ]
    refine wpAnyH_take (i := 9) (oi := { dst := some 2, op := Op.assign (Operand.tmp 17), type := 9, pos := "ref.go:70", after := #[{ on := 8, ground := Ground.data }, { on := 7, ground := Ground.chain }, { on := 0, ground := Ground.phase }, { on := 1, ground := Ground.phase }, { on := 2, ground := Ground.phase }, { on := 3, ground := Ground.phase }, { on := 4, ground := Ground.phase }, { on := 5, ground := Ground.phase }, { on := 6, ground := Ground.phase }, { on := 7, ground := Ground.phase }, { on := 8, ground := Ground.phase }], guard := none }) (v := ?_) rfl (by kernel_rfl) (by kernel_rfl) (by kernel_rfl) (fun _ _ _ h => h) (Or.inl ⟨by rfl, ?_⟩) (by assumption) ?_
    rotate_left
    · (intro wS hS; go_simp <;> with_reducible rfl)
    try simp only [Act.put, List.setIfInBounds_toArray, List.set_cons_zero, List.set_cons_succ]
    refine wpAnyH_done (by kernel_rfl) ?_ _
    go_wp2_with fail
    go_ret
    exact ⟨by rw [HE.out]; rfl, below_trans hB hS⟩
  have k8 : (k == 8) = false := by rw [beq_eq_false_iff_ne]; exact h8
  by_cases h9 : k = 9
  · have HF : Hid (lineS ⟨k, d, p, a, b⟩ = wPow) := by show _ = _; unfold lineS; rw [if_neg h8, if_pos h9]
    generalize lineS ⟨k, d, p, a, b⟩ = fx at *
    subst h9
    clear h8 hok
    go_enter Try.func46, Try.ntmps46
    go_wp2_with fail
    go_ret
    exact ⟨by rw [HF.out]; rfl, hB⟩
  have k9 : (k == 9) = false := by rw [beq_eq_false_iff_ne]; exact h9
  have hc : cmdCheck k a b = 0 := by
    unfold stepOk at hok
    rw [if_neg h8, if_neg h9, decide_eq_true_iff] at hok
    exact hok.2.2
  obtain ⟨hk, ha, hb, -⟩ := check_zero hc
  have HF : Hid (lineS ⟨k, d, p, a, b⟩ = textK k a b) := by show _ = _; unfold lineS; rw [if_neg h8, if_neg h9, if_pos hc]
  have KT := fun W => Lib.hid (r35text_any k a b W hk (by omega) (by omega))
  generalize lineS ⟨k, d, p, a, b⟩ = fx at *
  clear h8 h9 hc hok hk ha hb
  go_enter Try.func46, Try.ntmps46
  go_wp2_with fail
  refine (KT _).out.mono ?_
  rintro e w2 ⟨rfl, hb⟩
  go_wp2_with fail
  go_ret
  exact ⟨by rw [HF.out]; rfl, below_trans hB hb⟩
end Go.Proofs.Ytefipigdkdopcaa
