/- Contracts of the reference's May and Part. No condition but lengths' bounds. -/
import Derived.Test.YtefipigdkdopcaaFrame
import Derived.Test.YtefipigdkdopcaaBeRefP
import Derived.Deep.RegionHeld
namespace Go.Proofs.Ytefipigdkdopcaa
open Go.RowKit

set_option maxRecDepth 100000 in
set_option maxHeartbeats 1000000 in
theorem refmay_any (nu id : Nat) (o t : Int) (d : List UInt8) (w : World) (hd : d.length ≤ 1000000000) :
    Calls Try.prog 70 #[frm nu id o t d] w fun e w' => e = .returned (.bool (mayF nu id o t d.length)) ∧ Below w.heap.size w w' := by
  obtain ⟨hB, hca⟩ := one_cells w (frmCs nu id o t d) 100
  have c0 := hca 0 (.int .u64 (nu : Int)) rfl
  have c1 := hca 1 (.int .u64 (id : Int)) rfl
  have c2 := hca 2 (.int .i64 o) rfl
  have c3 := hca 3 (.int .i64 t) rfl
  have c4 := hca 4 (.string ⟨d.toArray⟩) rfl
  clear hca
  have HM : Hid (lenOk o t = true → mayF nu id o t d.length = (decide (nu < 2147483648 ∧ id < 2147483648 ∧ (d.length : Int) = min 100 (t - o)))) := by intro hok; unfold mayF; rw [hok]; rfl
  have HN : Hid (lenOk o t = false ∨ 2147483648 ≤ nu ∨ 2147483648 ≤ id → mayF nu id o t d.length = false) := fun h => mayF_no (by rcases h with h | h | h <;> simp [h])
  rcases (by omega : (2147483648 : Int) ≤ nu ∨ ((nu : Int) < 2147483648 ∧ (2147483648 : Int) ≤ id) ∨ ((nu : Int) < 2147483648 ∧ (id : Int) < 2147483648)) with h1 | ⟨h1, h2⟩ | ⟨h1, h2⟩
  · rw [HN.out (by omega)]
    clear HM HN
    go_enter Try.func70, Try.ntmps70
    go_wp2
    go_ret
    exact ⟨rfl, hB⟩
  · rw [HN.out (by omega)]
    have k1 : decide ((2147483648 : Int) ≤ nu) = false := by rw [decide_eq_false_iff_not]; omega
    have k2 : decide ((2147483648 : Int) ≤ id) = true := by rw [decide_eq_true_iff]; omega
    clear h1 h2 HM HN
    go_enter Try.func70, Try.ntmps70
    go_wp2
    go_ret
    exact ⟨rfl, hB⟩
  · have k1 : decide ((2147483648 : Int) ≤ nu) = false := by rw [decide_eq_false_iff_not]; omega
    have k2 : decide ((2147483648 : Int) ≤ id) = false := by rw [decide_eq_false_iff_not]; omega
    cases hok : lenOk o t with
    | false =>
      rw [HN.out (.inl hok)]
      clear h1 h2 HM HN
      rcases lenOk_no hok with g1 | ⟨g1, g2⟩ | ⟨g1, g2, g3⟩ | ⟨g1, g2, g3, g4⟩ | ⟨g1, g2, g3, g4, g5⟩
      case' inr.inr.inr.inr =>
        have hm := tmod100 g3
        have hq : (o % 100 != 0) = true := by simpa using g5
        have hq2 : 0 ≤ o % 100 ∧ o % 100 < 100 := by omega
        clear g5
      all_goals
        clear hok
        go_enter Try.func70, Try.ntmps70
        go_wp2
        go_ret
        exact ⟨rfl, hB⟩
    | true =>
      have HD : Hid (mayF nu id o t d.length = decide ((d.length : Int) = min 100 (t - o))) := by
        show _ = _
        rw [HM.out hok, decide_eq_decide]; omega
      obtain ⟨g1, g2, g3, g4, g5⟩ := lenOk_yes hok
      have hm := tmod100 g3
      rw [g5] at hm
      have hsub : IntKind.i64.wrap (t - o) = t - o := by rw [IntKind.wrap_i64]; omega
      clear h1 h2 HM HN hok g5
      generalize mayF nu id o t d.length = r at *
      go_enter Try.func70, Try.ntmps70
      go_wp2_with fail
      generalize w.alloc (.cells (frmCs nu id o t d) 100) = w0 at *
      refine wp_region_held (S := fun W => Below (w0).heap.size (w0) W) (by kernel_rfl) ?_
      change wpAnyH _ _ _ _ _ _ _ _ (w0).drew
      have hS : (fun W => Below (w0).heap.size (w0) W) (w0).drew := (Below.refl _ _).drew
      refine wpAnyH_take (i := 0) (oi := { dst := some 39, op := Op.fieldAddr 100 (Operand.tmp 1) 4, type := 0, pos := "ref.go:15", after := #[], guard := none }) (v := ?_) rfl (by kernel_rfl) (by kernel_rfl) (by kernel_rfl) (fun _ _ _ h => h) (Or.inl ⟨by rfl, ?_⟩) (by assumption) ?_
      rotate_left
      · (intro wS hS; go_simp <;> with_reducible rfl)
      try simp only [Act.put, List.setIfInBounds_toArray, List.set_cons_zero, List.set_cons_succ]
      refine wpAnyH_take (i := 1) (oi := { dst := some 40, op := Op.load 9 (Operand.tmp 39), type := 9, pos := "ref.go:15", after := #[{ on := 0, ground := Ground.data }], guard := none }) (v := ?_) rfl (by kernel_rfl) (by kernel_rfl) (by kernel_rfl) (fun _ _ _ h => h) (Or.inl ⟨by rfl, ?_⟩) (by assumption) ?_
      rotate_left
      · (intro wS hS; have c2 := cell_below hS c2; have c3 := cell_below hS c3; have c4 := cell_below hS c4; go_simp <;> with_reducible rfl)
      try simp only [Act.put, List.setIfInBounds_toArray, List.set_cons_zero, List.set_cons_succ]
      refine wpAnyH_take (i := 2) (oi := { dst := some 41, op := Op.call { callee := Callee.builtin Builtin.len, args := #[Operand.tmp 40], argTypes := #[9] }, type := 3, pos := "ref.go:15", after := #[{ on := 1, ground := Ground.data }], guard := none }) (v := ?_) rfl (by kernel_rfl) (by kernel_rfl) (by kernel_rfl) (fun _ _ _ h => h) (Or.inl ⟨by rfl, ?_⟩) (by assumption) ?_
      rotate_left
      · (intro wS hS; go_simp <;> with_reducible rfl)
      try simp only [Act.put, List.setIfInBounds_toArray, List.set_cons_zero, List.set_cons_succ]
      refine wpAnyH_take (i := 3) (oi := { dst := some 42, op := Op.fieldAddr 100 (Operand.tmp 1) 3, type := 0, pos := "ref.go:15", after := #[], guard := none }) (v := ?_) rfl (by kernel_rfl) (by kernel_rfl) (by kernel_rfl) (fun _ _ _ h => h) (Or.inl ⟨by rfl, ?_⟩) (by assumption) ?_
      rotate_left
      · (intro wS hS; go_simp <;> with_reducible rfl)
      try simp only [Act.put, List.setIfInBounds_toArray, List.set_cons_zero, List.set_cons_succ]
      refine wpAnyH_take (i := 4) (oi := { dst := some 43, op := Op.load 3 (Operand.tmp 42), type := 3, pos := "ref.go:15", after := #[{ on := 3, ground := Ground.data }], guard := none }) (v := ?_) rfl (by kernel_rfl) (by kernel_rfl) (by kernel_rfl) (fun _ _ _ h => h) (Or.inl ⟨by rfl, ?_⟩) (by assumption) ?_
      rotate_left
      · (intro wS hS; have c2 := cell_below hS c2; have c3 := cell_below hS c3; have c4 := cell_below hS c4; go_simp <;> with_reducible rfl)
      try simp only [Act.put, List.setIfInBounds_toArray, List.set_cons_zero, List.set_cons_succ]
      refine wpAnyH_take (i := 5) (oi := { dst := some 44, op := Op.fieldAddr 100 (Operand.tmp 1) 2, type := 0, pos := "ref.go:15", after := #[], guard := none }) (v := ?_) rfl (by kernel_rfl) (by kernel_rfl) (by kernel_rfl) (fun _ _ _ h => h) (Or.inl ⟨by rfl, ?_⟩) (by assumption) ?_
      rotate_left
      · (intro wS hS; go_simp <;> with_reducible rfl)
      try simp only [Act.put, List.setIfInBounds_toArray, List.set_cons_zero, List.set_cons_succ]
      refine wpAnyH_take (i := 6) (oi := { dst := some 45, op := Op.load 3 (Operand.tmp 44), type := 3, pos := "ref.go:15", after := #[{ on := 5, ground := Ground.data }], guard := none }) (v := ?_) rfl (by kernel_rfl) (by kernel_rfl) (by kernel_rfl) (fun _ _ _ h => h) (Or.inl ⟨by rfl, ?_⟩) (by assumption) ?_
      rotate_left
      · (intro wS hS; have c2 := cell_below hS c2; have c3 := cell_below hS c3; have c4 := cell_below hS c4; go_simp <;> with_reducible rfl)
      try simp only [Act.put, List.setIfInBounds_toArray, List.set_cons_zero, List.set_cons_succ]
      refine wpAnyH_take (i := 7) (oi := { dst := some 46, op := Op.binOp BinOp.sub 3 (Operand.tmp 43) (Operand.tmp 45) 3, type := 3, pos := "ref.go:15", after := #[{ on := 4, ground := Ground.data }, { on := 6, ground := Ground.data }], guard := none }) (v := ?_) rfl (by kernel_rfl) (by kernel_rfl) (by kernel_rfl) (fun _ _ _ h => h) (Or.inl ⟨by rfl, ?_⟩) (by assumption) ?_
      rotate_left
      · (intro wS hS; go_simp <;> with_reducible rfl)
      try simp only [Act.put, List.setIfInBounds_toArray, List.set_cons_zero, List.set_cons_succ]
      refine wpAnyH_ready (rs := [8]) (by kernel_rfl) (by simp) ?_
      refine AllReadyH.cons (o := { dst := some 47, op := Op.call { callee := Callee.value (Operand.func 114), args := #[Operand.const (Value.int IntKind.i64 100), Operand.tmp 46], argTypes := #[3, 3] }, type := 3, pos := "ref.go:15", after := #[{ on := 7, ground := Ground.data }], guard := none }) rfl (fun K hK => ?_) AllReadyH.nil
      go_simp
      refine (low_any _ _ _).mono ?_
      rintro e w108 ⟨rfl, rfl⟩
      refine hK.out _ _ hS (fun _ => ?_)
      clear hK K
      try simp only [Act.put, List.setIfInBounds_toArray, List.set_cons_zero, List.set_cons_succ]
      refine wpAnyH_take (i := 9) (oi := { dst := some 48, op := Op.binOp BinOp.eql 3 (Operand.tmp 41) (Operand.tmp 47) 3, type := 4, pos := "ref.go:15", after := #[{ on := 2, ground := Ground.data }, { on := 8, ground := Ground.data }], guard := none }) (v := ?_) rfl (by kernel_rfl) (by kernel_rfl) (by kernel_rfl) (fun _ _ _ h => h) (Or.inl ⟨by rfl, ?_⟩) (by assumption) ?_
      rotate_left
      · (intro wS hS; go_simp <;> with_reducible rfl)
      try simp only [Act.put, List.setIfInBounds_toArray, List.set_cons_zero, List.set_cons_succ]
      refine wpAnyH_take (i := 10) (oi := { dst := some 2, op := Op.assign (Operand.tmp 48), type := 4, pos := "ref.go:15", after := #[{ on := 9, ground := Ground.data }, { on := 8, ground := Ground.chain }, { on := 0, ground := Ground.phase }, { on := 1, ground := Ground.phase }, { on := 2, ground := Ground.phase }, { on := 3, ground := Ground.phase }, { on := 4, ground := Ground.phase }, { on := 5, ground := Ground.phase }, { on := 6, ground := Ground.phase }, { on := 7, ground := Ground.phase }, { on := 8, ground := Ground.phase }, { on := 9, ground := Ground.phase }], guard := none }) (v := ?_) rfl (by kernel_rfl) (by kernel_rfl) (by kernel_rfl) (fun _ _ _ h => h) (Or.inl ⟨by rfl, ?_⟩) (by assumption) ?_
      rotate_left
      · (intro wS hS; go_simp <;> with_reducible rfl)
      try simp only [Act.put, List.setIfInBounds_toArray, List.set_cons_zero, List.set_cons_succ]
      refine wpAnyH_done (by kernel_rfl) ?_ _
      go_wp2_with fail
      go_ret
      exact ⟨ret_bool (by rw [HD.out, Bool.eq_iff_iff]; simp), hB.trans (below_of hS hB.size)⟩

theorem ext_bytes (xs : List UInt8) (a b : Nat) : (⟨xs.toArray⟩ : ByteArray).extract a b = ⟨((xs.drop a).take (b - a)).toArray⟩ := by
  apply ByteArray.ext
  simp [ByteArray.data_extract, List.extract_eq_take_drop]
