/- The law FrameOf of layer 32 (frame), walked. -/
import Derived.Test.YthkabhejfkekjaaFrame9
import Derived.Test.YthkabhejfkekjaaFrame4
import Derived.Deep.DeepCutAuto
namespace Go.Proofs.Ythkabhejfkekjaa
open Go.RowKit

theorem fof_all (id first : Nat) (i : Int) (xs : List UInt8) (A : Option Addr) (n c : Nat) (w : World) (hx : RdB w A n c xs) (hn : n ≤ 4000) (hf : first < 18446744073709551616)
    (h : i < 0 ∨ 40 < i ∨ (n : Int) ≤ 100 * i ∨ 3192 < n ∨ 2147483648 ≤ id ∨ 2147483648 ≤ first ∨ 2147483648 ≤ (first : Int) + i) :
    Calls Try.prog 55 #[.int .u64 id, .int .u64 first, .slice A n c, .int .i64 i] w fun e w' => e = .returned (.tuple #[zfrm, .int .i64 3]) ∧ Below w.heap.size w w' := by
  by_cases h1 : i < 0 ∨ 3192 < i
  · exact fof_out id first i xs A n c w hx h1
  · obtain ⟨k, rfl⟩ : ∃ k : Nat, i = k := ⟨i.toNat, by omega⟩
    have hk : k ≤ 3192 := by omega
    cases hok : lenOk ((100 * k : Nat) : Int) n with
    | false => exact fof_len id first k xs A n c w hx hf hk (.inl hok)
    | true =>
      obtain ⟨g1, g2, g3, g4⟩ := lenOk_nat.1 hok
      by_cases h2 : 2147483648 ≤ first
      · exact fof_len id first k xs A n c w hx hf hk (.inr h2)
      · exact fof_bad id first k xs A n c w hx g3 g2 (by omega) (by omega)

set_option maxRecDepth 100000 in
set_option maxHeartbeats 4000000 in
theorem frameof_law (id first : Nat) (i : Int) (xs : List UInt8) (A : Option Addr) (n c : Nat) (w : World) (hx : RdB w A n c xs) (hid : id < 18446744073709551616) (hf : first < 18446744073709551616) :
    Calls Try.prog 13 #[.agg #[.int .u64 (id : Int), .int .u64 (first : Int), .slice A n c, .int .i64 i]] w fun e w' => e = .returned (.bool true) ∧ Below w.heap.size w w' := by
  obtain ⟨hB, hca⟩ := one_cells w #[.int .u64 (id : Int), .int .u64 (first : Int), .slice A n c, .int .i64 i] 76
  have c0 := hca 0 (.int .u64 (id : Int)) rfl
  have c1 := hca 1 (.int .u64 (first : Int)) rfl
  have c2 := hca 2 (.slice A n c) rfl
  have c3 := hca 3 (.int .i64 i) rfl
  have hxl := hx.blen
  have hcm := hx.cm
  have hnc := hx.nc
  unfold maxLen at hcm
  clear hca
  replace hx := hx.below hB
  go_enter Try.func13, Try.ntmps13
  go_wp2_with fail
  generalize w.alloc (.cells #[.int .u64 (id : Int), .int .u64 (first : Int), .slice A n c, .int .i64 i] 76) = w0 at *
  refine wp_region_held (S := fun W => Below (w0).heap.size (w0) W) (by kernel_rfl) ?_
  change wpAnyH _ _ _ _ _ _ _ _ (w0).drew
  have hS : (fun W => Below (w0).heap.size (w0) W) (w0).drew := (Below.refl _ _).drew
  refine wpAnyH_take (i := 0) (oi := { dst := some 10, op := Op.fieldAddr 76 (Operand.tmp 1) 0, type := 0, pos := "law.go:75", after := #[], guard := none }) (v := ?_) rfl (by kernel_rfl) (by kernel_rfl) (by kernel_rfl) (fun _ _ _ h => h) (Or.inl ⟨by rfl, ?_⟩) (by assumption) ?_
  rotate_left
  · (intro wS hS; go_simp <;> with_reducible rfl)
  try simp only [Act.put, List.setIfInBounds_toArray, List.set_cons_zero, List.set_cons_succ]
  refine wpAnyH_take (i := 1) (oi := { dst := some 11, op := Op.load 24 (Operand.tmp 10), type := 24, pos := "law.go:75", after := #[{ on := 0, ground := Ground.data }], guard := none }) (v := ?_) rfl (by kernel_rfl) (by kernel_rfl) (by kernel_rfl) (fun _ _ _ h => h) (Or.inl ⟨by rfl, ?_⟩) (by assumption) ?_
  rotate_left
  · (intro wS hS; have c0 := cell_below hS c0; have c1 := cell_below hS c1; have c2 := cell_below hS c2; have c3 := cell_below hS c3; go_simp <;> with_reducible rfl)
  try simp only [Act.put, List.setIfInBounds_toArray, List.set_cons_zero, List.set_cons_succ]
  refine wpAnyH_take (i := 2) (oi := { dst := some 12, op := Op.fieldAddr 76 (Operand.tmp 1) 1, type := 0, pos := "law.go:75", after := #[{ on := 8, ground := Ground.gcOnly Departure.lateStores }], guard := none }) (v := ?_) rfl (by kernel_rfl) (by kernel_rfl) (by kernel_rfl) (fun _ _ _ h => h) (Or.inl ⟨by rfl, ?_⟩) (by assumption) ?_
  rotate_left
  · (intro wS hS; go_simp <;> with_reducible rfl)
  try simp only [Act.put, List.setIfInBounds_toArray, List.set_cons_zero, List.set_cons_succ]
  refine wpAnyH_take (i := 3) (oi := { dst := some 13, op := Op.load 24 (Operand.tmp 12), type := 24, pos := "law.go:75", after := #[{ on := 2, ground := Ground.data }, { on := 8, ground := Ground.gcOnly Departure.lateStores }], guard := none }) (v := ?_) rfl (by kernel_rfl) (by kernel_rfl) (by kernel_rfl) (fun _ _ _ h => h) (Or.inl ⟨by rfl, ?_⟩) (by assumption) ?_
  rotate_left
  · (intro wS hS; have c0 := cell_below hS c0; have c1 := cell_below hS c1; have c2 := cell_below hS c2; have c3 := cell_below hS c3; go_simp <;> with_reducible rfl)
  try simp only [Act.put, List.setIfInBounds_toArray, List.set_cons_zero, List.set_cons_succ]
  refine wpAnyH_take (i := 4) (oi := { dst := some 14, op := Op.fieldAddr 76 (Operand.tmp 1) 2, type := 0, pos := "law.go:75", after := #[{ on := 9, ground := Ground.gcOnly Departure.lateStores }], guard := none }) (v := ?_) rfl (by kernel_rfl) (by kernel_rfl) (by kernel_rfl) (fun _ _ _ h => h) (Or.inl ⟨by rfl, ?_⟩) (by assumption) ?_
  rotate_left
  · (intro wS hS; go_simp <;> with_reducible rfl)
  try simp only [Act.put, List.setIfInBounds_toArray, List.set_cons_zero, List.set_cons_succ]
  refine wpAnyH_take (i := 5) (oi := { dst := some 15, op := Op.load 22 (Operand.tmp 14), type := 22, pos := "law.go:75", after := #[{ on := 4, ground := Ground.data }, { on := 9, ground := Ground.gcOnly Departure.lateStores }], guard := none }) (v := ?_) rfl (by kernel_rfl) (by kernel_rfl) (by kernel_rfl) (fun _ _ _ h => h) (Or.inl ⟨by rfl, ?_⟩) (by assumption) ?_
  rotate_left
  · (intro wS hS; have c0 := cell_below hS c0; have c1 := cell_below hS c1; have c2 := cell_below hS c2; have c3 := cell_below hS c3; go_simp <;> with_reducible rfl)
  try simp only [Act.put, List.setIfInBounds_toArray, List.set_cons_zero, List.set_cons_succ]
  refine wpAnyH_take (i := 6) (oi := { dst := some 16, op := Op.fieldAddr 76 (Operand.tmp 1) 3, type := 0, pos := "law.go:75", after := #[{ on := 10, ground := Ground.gcOnly Departure.lateStores }], guard := none }) (v := ?_) rfl (by kernel_rfl) (by kernel_rfl) (by kernel_rfl) (fun _ _ _ h => h) (Or.inl ⟨by rfl, ?_⟩) (by assumption) ?_
  rotate_left
  · (intro wS hS; go_simp <;> with_reducible rfl)
  try simp only [Act.put, List.setIfInBounds_toArray, List.set_cons_zero, List.set_cons_succ]
  refine wpAnyH_take (i := 7) (oi := { dst := some 17, op := Op.load 3 (Operand.tmp 16), type := 3, pos := "law.go:75", after := #[{ on := 6, ground := Ground.data }, { on := 10, ground := Ground.gcOnly Departure.lateStores }], guard := none }) (v := ?_) rfl (by kernel_rfl) (by kernel_rfl) (by kernel_rfl) (fun _ _ _ h => h) (Or.inl ⟨by rfl, ?_⟩) (by assumption) ?_
  rotate_left
  · (intro wS hS; have c0 := cell_below hS c0; have c1 := cell_below hS c1; have c2 := cell_below hS c2; have c3 := cell_below hS c3; go_simp <;> with_reducible rfl)
  try simp only [Act.put, List.setIfInBounds_toArray, List.set_cons_zero, List.set_cons_succ]
  refine wpAnyH_take (i := 8) (oi := { dst := some 3, op := Op.assign (Operand.tmp 11), type := 24, pos := "law.go:75", after := #[{ on := 1, ground := Ground.data }, { on := 0, ground := Ground.phase }, { on := 1, ground := Ground.phase }, { on := 2, ground := Ground.textOnly Departure.lateStores }, { on := 3, ground := Ground.textOnly Departure.lateStores }, { on := 4, ground := Ground.textOnly Departure.lateStores }, { on := 5, ground := Ground.textOnly Departure.lateStores }, { on := 6, ground := Ground.textOnly Departure.lateStores }, { on := 7, ground := Ground.textOnly Departure.lateStores }], guard := none }) (v := ?_) rfl (by kernel_rfl) (by kernel_rfl) (by kernel_rfl) (fun _ _ _ h => h) (Or.inl ⟨by rfl, ?_⟩) (by assumption) ?_
  rotate_left
  · (intro wS hS; go_simp <;> with_reducible rfl)
  try simp only [Act.put, List.setIfInBounds_toArray, List.set_cons_zero, List.set_cons_succ]
  refine wpAnyH_take (i := 9) (oi := { dst := some 4, op := Op.assign (Operand.tmp 13), type := 24, pos := "law.go:75", after := #[{ on := 3, ground := Ground.data }, { on := 8, ground := Ground.chain }, { on := 0, ground := Ground.phase }, { on := 1, ground := Ground.phase }, { on := 2, ground := Ground.phase }, { on := 3, ground := Ground.phase }, { on := 4, ground := Ground.textOnly Departure.lateStores }, { on := 5, ground := Ground.textOnly Departure.lateStores }, { on := 6, ground := Ground.textOnly Departure.lateStores }, { on := 7, ground := Ground.textOnly Departure.lateStores }, { on := 8, ground := Ground.phase }], guard := none }) (v := ?_) rfl (by kernel_rfl) (by kernel_rfl) (by kernel_rfl) (fun _ _ _ h => h) (Or.inl ⟨by rfl, ?_⟩) (by assumption) ?_
  rotate_left
  · (intro wS hS; go_simp <;> with_reducible rfl)
  try simp only [Act.put, List.setIfInBounds_toArray, List.set_cons_zero, List.set_cons_succ]
  refine wpAnyH_take (i := 10) (oi := { dst := some 5, op := Op.assign (Operand.tmp 15), type := 22, pos := "law.go:75", after := #[{ on := 5, ground := Ground.data }, { on := 9, ground := Ground.chain }, { on := 0, ground := Ground.phase }, { on := 1, ground := Ground.phase }, { on := 2, ground := Ground.phase }, { on := 3, ground := Ground.phase }, { on := 4, ground := Ground.phase }, { on := 5, ground := Ground.phase }, { on := 6, ground := Ground.textOnly Departure.lateStores }, { on := 7, ground := Ground.textOnly Departure.lateStores }, { on := 8, ground := Ground.phase }, { on := 9, ground := Ground.phase }], guard := none }) (v := ?_) rfl (by kernel_rfl) (by kernel_rfl) (by kernel_rfl) (fun _ _ _ h => h) (Or.inl ⟨by rfl, ?_⟩) (by assumption) ?_
  rotate_left
  · (intro wS hS; go_simp <;> with_reducible rfl)
  try simp only [Act.put, List.setIfInBounds_toArray, List.set_cons_zero, List.set_cons_succ]
  refine wpAnyH_take (i := 11) (oi := { dst := some 6, op := Op.assign (Operand.tmp 17), type := 3, pos := "law.go:75", after := #[{ on := 7, ground := Ground.data }, { on := 10, ground := Ground.chain }, { on := 0, ground := Ground.phase }, { on := 1, ground := Ground.phase }, { on := 2, ground := Ground.phase }, { on := 3, ground := Ground.phase }, { on := 4, ground := Ground.phase }, { on := 5, ground := Ground.phase }, { on := 6, ground := Ground.phase }, { on := 7, ground := Ground.phase }, { on := 8, ground := Ground.phase }, { on := 9, ground := Ground.phase }, { on := 10, ground := Ground.phase }], guard := none }) (v := ?_) rfl (by kernel_rfl) (by kernel_rfl) (by kernel_rfl) (fun _ _ _ h => h) (Or.inl ⟨by rfl, ?_⟩) (by assumption) ?_
  rotate_left
  · (intro wS hS; go_simp <;> with_reducible rfl)
  try simp only [Act.put, List.setIfInBounds_toArray, List.set_cons_zero, List.set_cons_succ]
  refine wpAnyH_done (by kernel_rfl) ?_ _
  replace hB := hB.trans (below_of hS hB.size)
  replace hx := hx.below hS
  clear hS c0 c1 c2 c3
  generalize w0.drew = w1 at *
  by_cases hlen : 4000 < n
  · go_wp2_with (first
      | (go_at_call 48; refine (awake32_any _).mono ?_; rintro e w2 ⟨rfl, hb⟩))
    go_ret
    exact ⟨rfl, below_trans hB hb⟩
  have hlen' : n ≤ 4000 := by omega
  by_cases hbad : i < 0 ∨ 40 < i ∨ (n : Int) ≤ 100 * i ∨ 3192 < n ∨ 2147483648 ≤ id ∨ 2147483648 ≤ first ∨ 2147483648 ≤ (first : Int) + i
  · have KO := Lib.hid (fof_all id first i xs A n c w1 hx hlen' hf hbad)
    go_wp2_with fail
    refine KO.out.mono ?_
    rintro e w2 ⟨rfl, hb⟩
    replace hB := below_trans hB hb
    clear hb KO hx
    obtain ⟨hb1, hca⟩ := one_cells w2 #[.int .u64 0, .int .u64 0, .int .i64 0, .int .i64 0, .string ⟨#[]⟩] 66
    have b0 := hca 0 (.int .u64 0) rfl
    have b1 := hca 1 (.int .u64 0) rfl
    have b2 := hca 2 (.int .i64 0) rfl
    have b3 := hca 3 (.int .i64 0) rfl
    have b4 := hca 4 (.string ⟨#[]⟩) rfl
    clear hca
    replace hB := below_trans hB hb1
    clear hb1
    go_upto_region 5 with fail
    generalize w2.alloc (.cells #[.int .u64 0, .int .u64 0, .int .i64 0, .int .i64 0, .string ⟨#[]⟩] 66) = w3 at *
    have hcase : i < 0 ∨ (0 ≤ i ∧ 40 < i) ∨ (0 ≤ i ∧ i ≤ 40 ∧ (n : Int) ≤ 100 * i) ∨ (0 ≤ i ∧ i ≤ 40 ∧ 100 * i < (n : Int) ∧ (3192 : Int) < n) ∨ (0 ≤ i ∧ i ≤ 40 ∧ 100 * i < (n : Int) ∧ (n : Int) ≤ 3192 ∧ 2147483648 ≤ id) ∨ (0 ≤ i ∧ i ≤ 40 ∧ 100 * i < (n : Int) ∧ (n : Int) ≤ 3192 ∧ id < 2147483648 ∧ 2147483648 ≤ first) ∨ (0 ≤ i ∧ i ≤ 40 ∧ 100 * i < (n : Int) ∧ (n : Int) ≤ 3192 ∧ id < 2147483648 ∧ first < 2147483648 ∧ 2147483648 ≤ (first : Int) + i) := by omega
    clear hbad hid hf
    rcases hcase with h1 | ⟨h1, h2⟩ | ⟨h1, h2, h3⟩ | ⟨h1, h2, h3, h4⟩ | ⟨h1, h2, h3, h4, h5⟩ | ⟨h1, h2, h3, h4, h5, h6⟩ | ⟨h1, h2, h3, h4, h5, h6, h7⟩
    case' inr.inr.inr.inr.inl =>
      have k1 : decide ((2147483648 : Int) ≤ id) = true := by rw [decide_eq_true_iff]; omega
      clear h5
    case' inr.inr.inr.inr.inr.inl =>
      have k1 : decide ((2147483648 : Int) ≤ id) = false := by rw [decide_eq_false_iff_not]; omega
      have k2 : decide ((2147483648 : Int) ≤ first) = true := by rw [decide_eq_true_iff]; omega
      clear h5 h6
    case' inr.inr.inr.inr.inr.inr =>
      have k1 : decide ((2147483648 : Int) ≤ id) = false := by rw [decide_eq_false_iff_not]; omega
      have k2 : decide ((2147483648 : Int) ≤ first) = false := by rw [decide_eq_false_iff_not]; omega
      have e2 : IntKind.u64.wrap i = i := by rw [wrap_u64]; omega
      obtain ⟨q, hq⟩ : ∃ q, q = (first : Int) + i := ⟨_, rfl⟩
      have e3 : (first : Int) + i = q := hq.symm
      have e4 : IntKind.u64.wrap q = q := by rw [wrap_u64]; omega
      have k3 : decide ((2147483648 : Int) ≤ q) = true := by rw [decide_eq_true_iff]; omega
      clear h5 h6 h7 hq
    all_goals
      go_wp2_with (first
        | (go_at_call 48; refine (awake32_any _).mono ?_; rintro e w4 ⟨rfl, hb⟩; replace hB := below_trans hB hb; replace b0 := cell_below hb b0; replace b1 := cell_below hb b1; replace b2 := cell_below hb b2; replace b3 := cell_below hb b3; replace b4 := cell_below hb b4; clear hb))
      go_ret
      exact ⟨ret_bool (by simp), hB⟩
  · obtain ⟨k, rfl⟩ : ∃ k : Nat, i = k := ⟨i.toNat, by omega⟩
    have g1 : 100 * k < n := by omega
    have g2 : n ≤ 3192 := by omega
    have g3 : id < 2147483648 := by omega
    have g4 : first + k < 2147483648 := by omega
    have g5 : (k : Int) ≤ 40 := by omega
    have KO := Lib.hid (fof_yes id first k xs A n c w1 hx g1 g2 g3 g4)
    have KP := fun W => Lib.hid (refpart_any k xs W (by omega) (by omega))
    rw [hxl] at KP
    have hmay : MayF (first + k) id (100 * k) n ((xs.drop (100 * k)).take (min 100 (n - 100 * k))).length :=
      ⟨g4, g3, by omega, g2, g1, by omega, by rw [List.length_take, List.length_drop]; omega⟩
    have KM := fun W => Lib.hid (refmay_any (first + k) id ((100 * k : Nat) : Int) (n : Int) ((xs.drop (100 * k)).take (min 100 (n - 100 * k))) W (by rw [List.length_take]; omega))
    rw [mayF_of hmay] at KM
    have hks := fun W hh => run_string_of (P := Try.prog) (w := W) (A := A) (n := n) (c := c) (xs := xs) 22 9 5 Try.underlying22 Try.underlying5 Try.underlying9 hh
    have e1 : (100 : Int) * (k : Int) = ((100 * k : Nat) : Int) := by omega
    have e2 : IntKind.u64.wrap (k : Int) = k := by rw [wrap_u64]; omega
    have e3 : (first : Int) + (k : Int) = ((first + k : Nat) : Int) := by omega
    have e4 : IntKind.u64.wrap ((first + k : Nat) : Int) = ((first + k : Nat) : Int) := by rw [wrap_u64]; omega
    have k1 : decide ((2147483648 : Int) ≤ id) = false := by rw [decide_eq_false_iff_not]; omega
    have k2 : decide ((2147483648 : Int) ≤ first) = false := by rw [decide_eq_false_iff_not]; omega
    have k3 : decide ((2147483648 : Int) ≤ ((first + k : Nat) : Int)) = false := by rw [decide_eq_false_iff_not]; omega
    have hm4 : 100 * k ≤ 4000 := by omega
    clear hbad hmay g3 g4 hid hf
    generalize first + k = q at *
    generalize 100 * k = m at *
    generalize (xs.drop m).take (min 100 (n - m)) = d at *
    go_wp2_with fail
    refine KO.out.mono ?_
    rintro e w2 ⟨rfl, hb⟩
    replace hB := below_trans hB hb
    replace hx := hx.below hb
    clear hb KO
    obtain ⟨hb1, hca⟩ := one_cells w2 #[.int .u64 (q : Int), .int .u64 (id : Int), .int .i64 (m : Int), .int .i64 (n : Int), .string ⟨d.toArray⟩] 66
    have b0 := hca 0 (.int .u64 (q : Int)) rfl
    have b1 := hca 1 (.int .u64 (id : Int)) rfl
    have b2 := hca 2 (.int .i64 (m : Int)) rfl
    have b3 := hca 3 (.int .i64 (n : Int)) rfl
    have b4 := hca 4 (.string ⟨d.toArray⟩) rfl
    clear hca
    replace hB := below_trans hB hb1
    replace hx := hx.below hb1
    clear hb1
    go_upto_region 5 with fail
    generalize w2.alloc (.cells #[.int .u64 (q : Int), .int .u64 (id : Int), .int .i64 (m : Int), .int .i64 (n : Int), .string ⟨d.toArray⟩] 66) = w3 at *
    have hk3 := hks w3 hx
    go_wp2_with fail
    refine (KP _).out.mono ?_
    rintro e w' ⟨rfl, rfl⟩
    obtain ⟨hb1, hca⟩ := one_cells w3 #[.int .u64 (q : Int), .int .u64 (id : Int), .int .i64 (m : Int), .int .i64 (n : Int), .string ⟨d.toArray⟩] 66
    have a0 := hca 0 (.int .u64 (q : Int)) rfl
    have a1 := hca 1 (.int .u64 (id : Int)) rfl
    have a2 := hca 2 (.int .i64 (m : Int)) rfl
    have a3 := hca 3 (.int .i64 (n : Int)) rfl
    have a4 := hca 4 (.string ⟨d.toArray⟩) rfl
    clear hca
    replace hB := below_trans hB hb1
    replace b0 := cell_below hb1 b0
    replace b1 := cell_below hb1 b1
    replace b2 := cell_below hb1 b2
    replace b3 := cell_below hb1 b3
    replace b4 := cell_below hb1 b4
    clear hb1 KP hks hk3 hx
    go_upto_region 8 with fail
    generalize w3.alloc (.cells #[.int .u64 (q : Int), .int .u64 (id : Int), .int .i64 (m : Int), .int .i64 (n : Int), .string ⟨d.toArray⟩] 66) = w4 at *
    go_wp2_with fail
    refine (awake32_any _).mono ?_
    rintro e w5 ⟨rfl, hb⟩
    replace hB := below_trans hB hb
    replace b0 := cell_below hb b0
    replace b1 := cell_below hb b1
    replace b2 := cell_below hb b2
    replace b3 := cell_below hb b3
    replace b4 := cell_below hb b4
    replace a0 := cell_below hb a0
    replace a1 := cell_below hb a1
    replace a2 := cell_below hb a2
    replace a3 := cell_below hb a3
    replace a4 := cell_below hb a4
    clear hb
    go_wp2_with fail
    refine (KM _).out.mono ?_
    rintro e w6 ⟨rfl, hb⟩
    go_wp2_with fail
    go_ret
    exact ⟨ret_bool (by simp), below_trans hB hb⟩
end Go.Proofs.Ythkabhejfkekjaa
