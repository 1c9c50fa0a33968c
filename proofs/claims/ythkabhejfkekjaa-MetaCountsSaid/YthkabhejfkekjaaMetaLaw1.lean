/- The law MetaCounts of layer 26 (meta), walked. -/
import Derived.Test.YthkabhejfkekjaaMeta8
namespace Go.Proofs.Ythkabhejfkekjaa
open Go.RowKit

set_option maxRecDepth 100000 in
set_option maxHeartbeats 4000000 in
theorem metacounts_law (id fr : Nat) (s : List UInt8) (w : World) (hid : id < 18446744073709551616) (hfr : fr < 18446744073709551616) (hs : s.length ≤ maxLen) :
    Calls Try.prog 18 #[.int .u64 id, .int .u64 fr, .string ⟨s.toArray⟩] w fun e w' => e = .returned (.bool true) ∧ Below w.heap.size w w' := by
  have hB := Below.refl w.heap.size w
  unfold maxLen at hs
  by_cases hlen : 100 < s.length
  · clear hid hfr
    go_enter Try.func18, Try.ntmps18
    go_wp2_with (first
      | (go_at_call 61; refine (awake26_any _).mono ?_; rintro e w1 ⟨rfl, hb⟩))
    go_ret
    exact ⟨rfl, hb⟩
  have hl100 : s.length ≤ 100 := by omega
  clear hlen
  obtain ⟨a, b, er, hc⟩ : ∃ a b er, cntF s = (a, b, er) := ⟨_, _, _, rfl⟩
  have KC := fun W => Lib.hid (counters_any a b er s W (by omega) hc)
  have N1 := fun A k W hh => Lib.hid (refnumber_any 0 4 s A s.length k W hh (by omega))
  have N2 := fun A k W hh => Lib.hid (refnumber_any 4 4 s A s.length k W hh (by omega))
  simp only [show ((0 : Nat) : Int) = 0 from rfl, show ((4 : Nat) : Int) = 4 from rfl] at N1 N2
  unfold cntF at hc
  generalize getN s 0 4 = x at *
  generalize getN s 4 4 = y at *
  rcases (by omega : 2147483648 ≤ id ∨ (id < 2147483648 ∧ 2147483648 ≤ fr) ∨ (id < 2147483648 ∧ fr < 2147483648)) with h1 | ⟨h1, h2⟩ | ⟨h1, h2⟩
  case' inl =>
    have KU := Lib.hid (super_no id fr w (.inl h1))
    have k1 : decide ((2147483648 : Int) ≤ id) = true := by rw [decide_eq_true_iff]; omega
    clear h1 hid hfr
    go_enter Try.func18, Try.ntmps18
    go_wp2_with fail
    refine KU.out.mono ?_
    rintro e w4 ⟨rfl, rfl⟩
    clear KU
    go_upto_region 10 with fail
  case' inr.inl =>
    have KU := Lib.hid (super_no id fr w (.inr h2))
    have k1 : decide ((2147483648 : Int) ≤ id) = false := by rw [decide_eq_false_iff_not]; omega
    have k2 : decide ((2147483648 : Int) ≤ fr) = true := by rw [decide_eq_true_iff]; omega
    clear h1 h2 hid hfr
    go_enter Try.func18, Try.ntmps18
    go_wp2_with fail
    refine KU.out.mono ?_
    rintro e w4 ⟨rfl, rfl⟩
    clear KU
    go_upto_region 10 with fail
  case' inr.inr =>
    have KU := Lib.hid (super_yes id fr w h1 h2)
    have KD := fun W => Lib.hid (counters_any id fr 0 (putB 4 id ++ putB 4 fr) W (by simp [putB_length]) (cntF_put id fr h1 h2))
    have B1 := fun W => Lib.hid (refbytes_any 4 id W (by omega))
    have B2 := fun W => Lib.hid (refbytes_any 4 fr W (by omega))
    rw [show wid 4 = 4 from rfl] at B1 B2
    have l1 := putB_length 4 id
    have l2 := putB_length 4 fr
    have k1 : decide ((2147483648 : Int) ≤ id) = false := by rw [decide_eq_false_iff_not]; omega
    have k2 : decide ((2147483648 : Int) ≤ fr) = false := by rw [decide_eq_false_iff_not]; omega
    have hcat : (⟨(putB 4 id).toArray⟩ : ByteArray) ++ ⟨(putB 4 fr).toArray⟩ = ⟨(putB 4 id ++ putB 4 fr).toArray⟩ := cat_bytes _ _
    clear h1 h2 hid hfr
    generalize hsb : putB 4 id ++ putB 4 fr = sb at *
    clear hsb
    generalize putB 4 id = b1 at *
    generalize putB 4 fr = b2 at *
    go_enter Try.func18, Try.ntmps18
    go_wp2_with fail
    refine KU.out.mono ?_
    rintro e w2 ⟨rfl, hb⟩
    replace hB := below_trans hB hb
    clear KU hb
    go_wp2_with fail
    refine (KD _).out.mono ?_
    rintro e w3 ⟨rfl, hb⟩
    replace hB := below_trans hB hb
    clear KD hb
    go_wp2_with fail
    refine wp_region_held (S := fun W => Below (w3).heap.size (w3) W) (by kernel_rfl) ?_
    change wpAnyH _ _ _ _ _ _ _ _ (w3).drew
    have hS : (fun W => Below (w3).heap.size (w3) W) (w3).drew := (Below.refl _ _).drew
    have hT := Below.refl (w3).heap.size (w3)
    refine wpAnyH_take (i := 0) (oi := { dst := some 45, op := Op.move (Operand.tmp 7), type := 9, pos := "law.go:60", after := #[], guard := none }) (v := ?_) rfl (by kernel_rfl) (by kernel_rfl) (by kernel_rfl) (fun _ _ _ h => h) (Or.inl ⟨by rfl, ?_⟩) (by assumption) ?_
    rotate_left
    · (intro wS hS; go_simp <;> with_reducible rfl)
    try simp only [Act.put, List.setIfInBounds_toArray, List.set_cons_zero, List.set_cons_succ]
    refine wpAnyH_take (i := 1) (oi := { dst := some 46, op := Op.move (Operand.tmp 0), type := 24, pos := "law.go:60", after := #[], guard := none }) (v := ?_) rfl (by kernel_rfl) (by kernel_rfl) (by kernel_rfl) (fun _ _ _ h => h) (Or.inl ⟨by rfl, ?_⟩) (by assumption) ?_
    rotate_left
    · (intro wS hS; go_simp <;> with_reducible rfl)
    try simp only [Act.put, List.setIfInBounds_toArray, List.set_cons_zero, List.set_cons_succ]
    refine wpAnyH_take (i := 4) (oi := { dst := some 49, op := Op.move (Operand.tmp 1), type := 24, pos := "law.go:60", after := #[], guard := none }) (v := ?_) rfl (by kernel_rfl) (by kernel_rfl) (by kernel_rfl) (fun _ _ _ h => h) (Or.inl ⟨by rfl, ?_⟩) (by assumption) ?_
    rotate_left
    · (intro wS hS; go_simp <;> with_reducible rfl)
    try simp only [Act.put, List.setIfInBounds_toArray, List.set_cons_zero, List.set_cons_succ]
    refine wpAnyH_ready (rs := [2]) (by kernel_rfl) (by simp) ?_
    refine AllReadyH.cons (o := { dst := some 47, op := Op.call { callee := Callee.value (Operand.func 31), args := #[Operand.const (Value.int IntKind.i64 4), Operand.tmp 46], argTypes := #[3, 24] }, type := 22, pos := "law.go:60", after := #[{ on := 1, ground := Ground.data }], guard := none }) rfl (fun K hK => ?_) AllReadyH.nil
    go_simp
    refine (B1 _).out.mono ?_
    rintro e w102 ⟨v, rfl, how, hb⟩
    obtain ⟨A1, cc1, rfl, hr1, -⟩ := Rd.of_own how
    replace hS : (fun W => Below (w3).heap.size (w3) W) w102 := below_then hS hb (Below.size hS)
    refine hK.out _ _ hS (fun _ => ?_)
    clear hK K hb
    try simp only [Act.put, List.setIfInBounds_toArray, List.set_cons_zero, List.set_cons_succ]
    refine wpAnyH_stronger (S' := fun W => Below w102.heap.size w102 W) (fun W h => below_then hS h (Below.size hS)) _ _ _ _ ?_
    replace hT := below_trans hT hS
    clear hS
    have hS : (fun W => Below w102.heap.size w102 W) w102 := Below.refl _ _
    refine wpAnyH_take (i := 3) (oi := { dst := some 48, op := Op.convert 22 9 (Operand.tmp 47), type := 9, pos := "law.go:60", after := #[{ on := 2, ground := Ground.data }], guard := none }) (v := ?_) rfl (by kernel_rfl) (by kernel_rfl) (by kernel_rfl) (fun _ _ _ h => h) (Or.inl ⟨by rfl, ?_⟩) (by assumption) ?_
    rotate_left
    · (intro wS hS; have hk := run_string_of (P := Try.prog) 22 9 5 Try.underlying22 Try.underlying5 Try.underlying9 (hr1.below hS); go_simp <;> with_reducible rfl)
    try simp only [Act.put, List.setIfInBounds_toArray, List.set_cons_zero, List.set_cons_succ]
    refine wpAnyH_ready (rs := [5]) (by kernel_rfl) (by simp) ?_
    refine AllReadyH.cons (o := { dst := some 50, op := Op.call { callee := Callee.value (Operand.func 31), args := #[Operand.const (Value.int IntKind.i64 4), Operand.tmp 49], argTypes := #[3, 24] }, type := 22, pos := "law.go:60", after := #[{ on := 4, ground := Ground.data }, { on := 2, ground := Ground.chain }], guard := none }) rfl (fun K hK => ?_) AllReadyH.nil
    go_simp
    refine (B2 _).out.mono ?_
    rintro e w105 ⟨v, rfl, how, hb⟩
    obtain ⟨A2, cc2, rfl, hr2, -⟩ := Rd.of_own how
    replace hS : (fun W => Below w102.heap.size w102 W) w105 := below_then hS hb (Below.size hS)
    refine hK.out _ _ hS (fun _ => ?_)
    clear hK K hb
    try simp only [Act.put, List.setIfInBounds_toArray, List.set_cons_zero, List.set_cons_succ]
    refine wpAnyH_stronger (S' := fun W => Below w105.heap.size w105 W) (fun W h => below_then hS h (Below.size hS)) _ _ _ _ ?_
    replace hT := below_trans hT hS
    clear hS
    have hS : (fun W => Below w105.heap.size w105 W) w105 := Below.refl _ _
    refine wpAnyH_take (i := 6) (oi := { dst := some 51, op := Op.convert 22 9 (Operand.tmp 50), type := 9, pos := "law.go:60", after := #[{ on := 5, ground := Ground.data }], guard := none }) (v := ?_) rfl (by kernel_rfl) (by kernel_rfl) (by kernel_rfl) (fun _ _ _ h => h) (Or.inl ⟨by rfl, ?_⟩) (by assumption) ?_
    rotate_left
    · (intro wS hS; have hk := run_string_of (P := Try.prog) 22 9 5 Try.underlying22 Try.underlying5 Try.underlying9 (hr2.below hS); go_simp <;> with_reducible rfl)
    try simp only [Act.put, List.setIfInBounds_toArray, List.set_cons_zero, List.set_cons_succ]
    refine wpAnyH_take (i := 7) (oi := { dst := some 52, op := Op.binOp BinOp.add 9 (Operand.tmp 48) (Operand.tmp 51) 9, type := 9, pos := "law.go:60", after := #[{ on := 3, ground := Ground.data }, { on := 6, ground := Ground.data }], guard := none }) (v := ?_) rfl (by kernel_rfl) (by kernel_rfl) (by kernel_rfl) (fun _ _ _ h => h) (Or.inl ⟨by rfl, ?_⟩) (by assumption) ?_
    rotate_left
    · (intro wS hS; go_simp <;> with_reducible rfl)
    try simp only [Act.put, List.setIfInBounds_toArray, List.set_cons_zero, List.set_cons_succ]
    refine wpAnyH_take (i := 8) (oi := { dst := some 53, op := Op.binOp BinOp.neq 9 (Operand.tmp 45) (Operand.tmp 52) 9, type := 4, pos := "law.go:60", after := #[{ on := 0, ground := Ground.data }, { on := 7, ground := Ground.data }], guard := none }) (v := ?_) rfl (by kernel_rfl) (by kernel_rfl) (by kernel_rfl) (fun _ _ _ h => h) (Or.inl ⟨by rfl, ?_⟩) (by assumption) ?_
    rotate_left
    · (intro wS hS; go_simp <;> with_reducible rfl)
    try simp only [Act.put, List.setIfInBounds_toArray, List.set_cons_zero, List.set_cons_succ]
    refine wpAnyH_take (i := 9) (oi := { dst := some 54, op := Op.move (Operand.tmp 53), type := 4, pos := "law.go:60", after := #[{ on := 8, ground := Ground.data }, { on := 5, ground := Ground.chain }], guard := none }) (v := ?_) rfl (by kernel_rfl) (by kernel_rfl) (by kernel_rfl) (fun _ _ _ h => h) (Or.inl ⟨by rfl, ?_⟩) (by assumption) ?_
    rotate_left
    · (intro wS hS; go_simp <;> with_reducible rfl)
    try simp only [Act.put, List.setIfInBounds_toArray, List.set_cons_zero, List.set_cons_succ]
    refine wpAnyH_take (i := 10) (oi := { dst := some 55, op := Op.move (Operand.tmp 8), type := 54, pos := "law.go:60", after := #[{ on := 9, ground := Ground.guard }], guard := some (9, false) }) (v := ?_) rfl (by kernel_rfl) (by kernel_rfl) (by kernel_rfl) (fun _ _ _ h => h) (Or.inl ⟨by rfl, ?_⟩) (by assumption) ?_
    rotate_left
    · (intro wS hS; go_simp <;> with_reducible rfl)
    try simp only [Act.put, List.setIfInBounds_toArray, List.set_cons_zero, List.set_cons_succ]
    refine wpAnyH_take (i := 11) (oi := { dst := some 56, op := Op.binOp BinOp.neq 54 (Operand.tmp 55) (Operand.const (Value.int IntKind.i64 0)) 54, type := 4, pos := "law.go:60", after := #[{ on := 10, ground := Ground.data }, { on := 9, ground := Ground.guard }], guard := some (9, false) }) (v := ?_) rfl (by kernel_rfl) (by kernel_rfl) (by kernel_rfl) (fun _ _ _ h => h) (Or.inl ⟨by rfl, ?_⟩) (by assumption) ?_
    rotate_left
    · (intro wS hS; go_simp <;> with_reducible rfl)
    try simp only [Act.put, List.setIfInBounds_toArray, List.set_cons_zero, List.set_cons_succ]
    refine wpAnyH_take (i := 12) (oi := { dst := some 57, op := Op.pick (Operand.tmp 54) (Operand.const (Value.bool true)) (Operand.tmp 56), type := 4, pos := "law.go:60", after := #[{ on := 9, ground := Ground.data }, { on := 11, ground := Ground.data }], guard := none }) (v := ?_) rfl (by kernel_rfl) (by kernel_rfl) (by kernel_rfl) (fun _ _ _ h => h) (Or.inl ⟨by rfl, ?_⟩) (by assumption) ?_
    rotate_left
    · (intro wS hS; go_simp <;> with_reducible rfl)
    try simp only [Act.put, List.setIfInBounds_toArray, List.set_cons_zero, List.set_cons_succ]
    refine wpAnyH_take (i := 13) (oi := { dst := some 58, op := Op.move (Operand.tmp 57), type := 4, pos := "law.go:60", after := #[{ on := 12, ground := Ground.data }, { on := 9, ground := Ground.chain }], guard := none }) (v := ?_) rfl (by kernel_rfl) (by kernel_rfl) (by kernel_rfl) (fun _ _ _ h => h) (Or.inl ⟨by rfl, ?_⟩) (by assumption) ?_
    rotate_left
    · (intro wS hS; go_simp <;> with_reducible rfl)
    try simp only [Act.put, List.setIfInBounds_toArray, List.set_cons_zero, List.set_cons_succ]
    refine wpAnyH_take (i := 14) (oi := { dst := some 59, op := Op.move (Operand.tmp 9), type := 24, pos := "law.go:60", after := #[{ on := 13, ground := Ground.guard }], guard := some (13, false) }) (v := ?_) rfl (by kernel_rfl) (by kernel_rfl) (by kernel_rfl) (fun _ _ _ h => h) (Or.inl ⟨by rfl, ?_⟩) (by assumption) ?_
    rotate_left
    · (intro wS hS; go_simp <;> with_reducible rfl)
    try simp only [Act.put, List.setIfInBounds_toArray, List.set_cons_zero, List.set_cons_succ]
    refine wpAnyH_take (i := 15) (oi := { dst := some 60, op := Op.move (Operand.tmp 0), type := 24, pos := "law.go:60", after := #[{ on := 13, ground := Ground.guard }], guard := some (13, false) }) (v := ?_) rfl (by kernel_rfl) (by kernel_rfl) (by kernel_rfl) (fun _ _ _ h => h) (Or.inl ⟨by rfl, ?_⟩) (by assumption) ?_
    rotate_left
    · (intro wS hS; go_simp <;> with_reducible rfl)
    try simp only [Act.put, List.setIfInBounds_toArray, List.set_cons_zero, List.set_cons_succ]
    refine wpAnyH_take (i := 16) (oi := { dst := some 61, op := Op.binOp BinOp.neq 24 (Operand.tmp 59) (Operand.tmp 60) 24, type := 4, pos := "law.go:60", after := #[{ on := 14, ground := Ground.data }, { on := 15, ground := Ground.data }, { on := 13, ground := Ground.guard }], guard := some (13, false) }) (v := ?_) rfl (by kernel_rfl) (by kernel_rfl) (by kernel_rfl) (fun _ _ _ h => h) (Or.inl ⟨by rfl, ?_⟩) (by assumption) ?_
    rotate_left
    · (intro wS hS; go_simp <;> with_reducible rfl)
    try simp only [Act.put, List.setIfInBounds_toArray, List.set_cons_zero, List.set_cons_succ]
    refine wpAnyH_take (i := 17) (oi := { dst := some 62, op := Op.pick (Operand.tmp 58) (Operand.const (Value.bool true)) (Operand.tmp 61), type := 4, pos := "law.go:60", after := #[{ on := 13, ground := Ground.data }, { on := 16, ground := Ground.data }], guard := none }) (v := ?_) rfl (by kernel_rfl) (by kernel_rfl) (by kernel_rfl) (fun _ _ _ h => h) (Or.inl ⟨by rfl, ?_⟩) (by assumption) ?_
    rotate_left
    · (intro wS hS; go_simp <;> with_reducible rfl)
    try simp only [Act.put, List.setIfInBounds_toArray, List.set_cons_zero, List.set_cons_succ]
    refine wpAnyH_take (i := 18) (oi := { dst := some 63, op := Op.move (Operand.tmp 62), type := 4, pos := "law.go:60", after := #[{ on := 17, ground := Ground.data }, { on := 13, ground := Ground.chain }], guard := none }) (v := ?_) rfl (by kernel_rfl) (by kernel_rfl) (by kernel_rfl) (fun _ _ _ h => h) (Or.inl ⟨by rfl, ?_⟩) (by assumption) ?_
    rotate_left
    · (intro wS hS; go_simp <;> with_reducible rfl)
    try simp only [Act.put, List.setIfInBounds_toArray, List.set_cons_zero, List.set_cons_succ]
    refine wpAnyH_take (i := 19) (oi := { dst := some 64, op := Op.move (Operand.tmp 10), type := 24, pos := "law.go:60", after := #[{ on := 18, ground := Ground.guard }], guard := some (18, false) }) (v := ?_) rfl (by kernel_rfl) (by kernel_rfl) (by kernel_rfl) (fun _ _ _ h => h) (Or.inl ⟨by rfl, ?_⟩) (by assumption) ?_
    rotate_left
    · (intro wS hS; go_simp <;> with_reducible rfl)
    try simp only [Act.put, List.setIfInBounds_toArray, List.set_cons_zero, List.set_cons_succ]
    refine wpAnyH_take (i := 20) (oi := { dst := some 65, op := Op.move (Operand.tmp 1), type := 24, pos := "law.go:60", after := #[{ on := 18, ground := Ground.guard }], guard := some (18, false) }) (v := ?_) rfl (by kernel_rfl) (by kernel_rfl) (by kernel_rfl) (fun _ _ _ h => h) (Or.inl ⟨by rfl, ?_⟩) (by assumption) ?_
    rotate_left
    · (intro wS hS; go_simp <;> with_reducible rfl)
    try simp only [Act.put, List.setIfInBounds_toArray, List.set_cons_zero, List.set_cons_succ]
    refine wpAnyH_take (i := 21) (oi := { dst := some 66, op := Op.binOp BinOp.neq 24 (Operand.tmp 64) (Operand.tmp 65) 24, type := 4, pos := "law.go:60", after := #[{ on := 19, ground := Ground.data }, { on := 20, ground := Ground.data }, { on := 18, ground := Ground.guard }], guard := some (18, false) }) (v := ?_) rfl (by kernel_rfl) (by kernel_rfl) (by kernel_rfl) (fun _ _ _ h => h) (Or.inl ⟨by rfl, ?_⟩) (by assumption) ?_
    rotate_left
    · (intro wS hS; go_simp <;> with_reducible rfl)
    try simp only [Act.put, List.setIfInBounds_toArray, List.set_cons_zero, List.set_cons_succ]
    refine wpAnyH_take (i := 22) (oi := { dst := some 67, op := Op.pick (Operand.tmp 63) (Operand.const (Value.bool true)) (Operand.tmp 66), type := 4, pos := "law.go:60", after := #[{ on := 18, ground := Ground.data }, { on := 21, ground := Ground.data }], guard := none }) (v := ?_) rfl (by kernel_rfl) (by kernel_rfl) (by kernel_rfl) (fun _ _ _ h => h) (Or.inl ⟨by rfl, ?_⟩) (by assumption) ?_
    rotate_left
    · (intro wS hS; go_simp <;> with_reducible rfl)
    try simp only [Act.put, List.setIfInBounds_toArray, List.set_cons_zero, List.set_cons_succ]
    refine wpAnyH_take (i := 23) (oi := { dst := some 68, op := Op.move (Operand.tmp 67), type := 4, pos := "law.go:60", after := #[{ on := 22, ground := Ground.data }, { on := 18, ground := Ground.chain }], guard := none }) (v := ?_) rfl (by kernel_rfl) (by kernel_rfl) (by kernel_rfl) (fun _ _ _ h => h) (Or.inl ⟨by rfl, ?_⟩) (by assumption) ?_
    rotate_left
    · (intro wS hS; go_simp <;> with_reducible rfl)
    try simp only [Act.put, List.setIfInBounds_toArray, List.set_cons_zero, List.set_cons_succ]
    refine wpAnyH_take (i := 24) (oi := { dst := some 69, op := Op.move (Operand.tmp 11), type := 54, pos := "law.go:60", after := #[{ on := 23, ground := Ground.guard }], guard := some (23, false) }) (v := ?_) rfl (by kernel_rfl) (by kernel_rfl) (by kernel_rfl) (fun _ _ _ h => h) (Or.inl ⟨by rfl, ?_⟩) (by assumption) ?_
    rotate_left
    · (intro wS hS; go_simp <;> with_reducible rfl)
    try simp only [Act.put, List.setIfInBounds_toArray, List.set_cons_zero, List.set_cons_succ]
    refine wpAnyH_take (i := 25) (oi := { dst := some 70, op := Op.binOp BinOp.neq 54 (Operand.tmp 69) (Operand.const (Value.int IntKind.i64 0)) 54, type := 4, pos := "law.go:60", after := #[{ on := 24, ground := Ground.data }, { on := 23, ground := Ground.guard }], guard := some (23, false) }) (v := ?_) rfl (by kernel_rfl) (by kernel_rfl) (by kernel_rfl) (fun _ _ _ h => h) (Or.inl ⟨by rfl, ?_⟩) (by assumption) ?_
    rotate_left
    · (intro wS hS; go_simp <;> with_reducible rfl)
    try simp only [Act.put, List.setIfInBounds_toArray, List.set_cons_zero, List.set_cons_succ]
    refine wpAnyH_take (i := 26) (oi := { dst := some 71, op := Op.pick (Operand.tmp 68) (Operand.const (Value.bool true)) (Operand.tmp 70), type := 4, pos := "law.go:60", after := #[{ on := 23, ground := Ground.data }, { on := 25, ground := Ground.data }], guard := none }) (v := ?_) rfl (by kernel_rfl) (by kernel_rfl) (by kernel_rfl) (fun _ _ _ h => h) (Or.inl ⟨by rfl, ?_⟩) (by assumption) ?_
    rotate_left
    · (intro wS hS; go_simp <;> with_reducible rfl)
    try simp only [Act.put, List.setIfInBounds_toArray, List.set_cons_zero, List.set_cons_succ]
    refine wpAnyH_done (by kernel_rfl) ?_ _
    replace hB := below_trans hB hT
    clear hT hS hr1 hr2
    go_upto_region 10 with fail
  all_goals
    go_wp2_with fail
    refine (KC _).out.mono ?_
    rintro e w5 ⟨rfl, hb⟩
    replace hB := below_trans hB hb
    clear hb KC
    have hcv := run_bytes_of s w5
    have hrd := rd_bytesOf w5 s (by unfold maxLen; omega)
    replace hB := below_trans hB (bytesWorld_below w5 5 ⟨s.toArray⟩)
    have M1 := N1 _ _ _ hrd
    go_wp2_with fail
    refine M1.out.mono ?_
    rintro e w' ⟨rfl, rfl⟩
    generalize Lib.bytesWorld w5 5 ⟨s.toArray⟩ = w6 at *
    clear hcv hrd M1 N1
    have hcv := run_bytes_of s w6
    have hrd := rd_bytesOf w6 s (by unfold maxLen; omega)
    replace hB := below_trans hB (bytesWorld_below w6 5 ⟨s.toArray⟩)
    have M2 := N2 _ _ _ hrd
    go_wp2_with fail
    refine M2.out.mono ?_
    rintro e w' ⟨rfl, rfl⟩
    generalize Lib.bytesWorld w6 5 ⟨s.toArray⟩ = w7 at *
    clear hcv hrd M2 N2
    have FIN : ∀ wf, Below w7.heap.size w7 wf → Below w.heap.size w wf := fun wf h => below_trans hB h
    split at hc
    · rename_i h0
      simp only [Prod.mk.injEq] at hc
      obtain ⟨rfl, rfl, rfl⟩ := hc
      obtain rfl : s = [] := List.eq_nil_of_length_eq_zero h0
      go_wp2_with (go_at_call 61; refine (awake26_any _).mono ?_; rintro e wf ⟨rfl, hb⟩)
      go_ret
      exact ⟨ret_bool (by simp), FIN _ hb⟩
    rename_i h0
    have hne : s.isEmpty = false := by cases s with | nil => exact absurd rfl h0 | cons _ _ => rfl
    clear h0
    split at hc
    · rename_i h1
      simp only [Prod.mk.injEq] at hc
      obtain ⟨rfl, rfl, rfl⟩ := hc
      have g1 : (s.length : Int) < 8 := by omega
      clear h1
      go_wp2_with (go_at_call 61; refine (awake26_any _).mono ?_; rintro e wf ⟨rfl, hb⟩)
      go_ret
      exact ⟨ret_bool (by simp), FIN _ hb⟩
    rename_i h1
    have g1 : ¬ ((s.length : Int) < 8) := by omega
    split at hc
    · rename_i h2
      simp only [Prod.mk.injEq] at hc
      obtain ⟨rfl, rfl, rfl⟩ := hc
      rcases (by omega : (8 : Int) < s.length ∨ (¬ (8 : Int) < s.length ∧ 2147483648 ≤ x) ∨ (¬ (8 : Int) < s.length ∧ x < 2147483648 ∧ 2147483648 ≤ y)) with g2 | ⟨g2, g3⟩ | ⟨g2, g3, g4⟩
      · clear h1 h2
        go_wp2_with (go_at_call 61; refine (awake26_any _).mono ?_; rintro e wf ⟨rfl, hb⟩)
        go_ret
        exact ⟨ret_bool (by simp), FIN _ hb⟩
      · have q1 : decide ((2147483648 : Int) ≤ x) = true := by rw [decide_eq_true_iff]; omega
        clear h1 h2 g3
        go_wp2_with (go_at_call 61; refine (awake26_any _).mono ?_; rintro e wf ⟨rfl, hb⟩)
        go_ret
        exact ⟨ret_bool (by simp), FIN _ hb⟩
      · have q1 : decide ((2147483648 : Int) ≤ x) = false := by rw [decide_eq_false_iff_not]; omega
        have q2 : decide ((2147483648 : Int) ≤ y) = true := by rw [decide_eq_true_iff]; omega
        clear h1 h2 g3 g4
        go_wp2_with (go_at_call 61; refine (awake26_any _).mono ?_; rintro e wf ⟨rfl, hb⟩)
        go_ret
        exact ⟨ret_bool (by simp), FIN _ hb⟩
    · rename_i h2
      simp only [Prod.mk.injEq] at hc
      obtain ⟨rfl, rfl, rfl⟩ := hc
      have g2 : ¬ ((8 : Int) < s.length) := by omega
      have q1 : decide ((2147483648 : Int) ≤ x) = false := by rw [decide_eq_false_iff_not]; omega
      have q2 : decide ((2147483648 : Int) ≤ y) = false := by rw [decide_eq_false_iff_not]; omega
      clear h1 h2
      go_wp2_with (go_at_call 61; refine (awake26_any _).mono ?_; rintro e wf ⟨rfl, hb⟩)
      go_ret
      exact ⟨ret_bool (by simp), FIN _ hb⟩
end Go.Proofs.Ythkabhejfkekjaa
