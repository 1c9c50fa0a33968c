/- Contract of the reference's Put of a frame. No condition but that it may be. -/
import Derived.Test.YtefipigdkdopcaaFrame2P
import Derived.Test.YtefipigdkdopcaaHeld
import Derived.Test.YtefipigdkdopcaaCrcRefP
namespace Go.Proofs.Ytefipigdkdopcaa
open Go.RowKit

theorem crcOf_one (xs : List UInt8) : crcOf 1 xs = crcS xs := by unfold crcOf; rw [if_pos rfl]

set_option maxRecDepth 100000 in
set_option maxHeartbeats 4000000 in
theorem refput32_any (nu id o t : Nat) (d : List UInt8) (w : World) (h : MayF nu id o t d.length) :
    Calls Try.prog 71 #[frm nu id o t d] w fun e w' => e = .returned (.string ⟨(frmP nu id o t d).toArray⟩) ∧ Below w.heap.size w w' := by
  obtain ⟨hB, hca⟩ := one_cells w (frmCs nu id o t d) 100
  have c0 := hca 0 (.int .u64 (nu : Int)) rfl
  have c1 := hca 1 (.int .u64 (id : Int)) rfl
  have c2 := hca 2 (.int .i64 (o : Int)) rfl
  have c3 := hca 3 (.int .i64 (t : Int)) rfl
  have c4 := hca 4 (.string ⟨d.toArray⟩) rfl
  clear hca
  have hdl : d.length ≤ 100 := by have := h.hl; omega
  have h1 := h.hnu
  have h2 := h.hid
  have h3 := h.ht
  have h4 := h.ho
  have K1 := fun w => Lib.hid (refbytes_any 4 nu w (by omega))
  have K2 := fun w => Lib.hid (refbytes_any 4 id w (by omega))
  have K3 := fun w => Lib.hid (refbytes_any 2 o w (by omega))
  have K4 := fun w => Lib.hid (refbytes_any 2 t w (by omega))
  rw [show wid 4 = 4 from rfl] at K1 K2
  rw [show wid 2 = 2 from rfl] at K3 K4
  have e1 : IntKind.u64.wrap (o : Int) = o := by rw [wrap_u64]; omega
  have e2 : IntKind.u64.wrap (t : Int) = t := by rw [wrap_u64]; omega
  have HP : Hid (frmP nu id o t d = frmH nu id o t d ++ putB 2 (crcS (frmH nu id o t d))) := rfl
  have HH : Hid (frmH nu id o t d = [26] ++ putB 4 nu ++ putB 4 id ++ putB 2 o ++ putB 2 t ++ d) := by show _ = _; simp [frmH, putB]
  have hcs := crcS_lt2 (frmH nu id o t d)
  have l1 := putB_length 4 nu
  have l2 := putB_length 4 id
  have l3 := putB_length 2 o
  have l4 := putB_length 2 t
  have hfl := frmH_length nu id o t d
  clear h h1 h2 h3 h4
  generalize frmP nu id o t d = fp at *
  generalize frmH nu id o t d = fh at *
  generalize putB 4 nu = s1 at *
  generalize putB 4 id = s2 at *
  generalize putB 2 o = s3 at *
  generalize putB 2 t = s4 at *
  go_enter Try.func71, Try.ntmps71
  go_wp2_with fail
  generalize w.alloc (.cells (frmCs nu id o t d) 100) = w0 at *
  have f10 : ¬ (9223372036854775807 < 13 + d.length) := by omega
  refine wp_region_held (S := fun W => Below (w0).heap.size (w0) W) (by kernel_rfl) ?_
  change wpAnyH _ _ _ _ _ _ _ _ (w0).drew
  have hS : (fun W => Below (w0).heap.size (w0) W) (w0).drew := (Below.refl _ _).drew
  have hT := Below.refl (w0).heap.size (w0)
  refine wpAnyH_take (i := 0) (oi := { dst := some 4, op := Op.fieldAddr 100 (Operand.tmp 1) 0, type := 0, pos := "ref.go:20", after := #[], guard := none }) (v := ?_) rfl (by kernel_rfl) (by kernel_rfl) (by kernel_rfl) (fun _ _ _ h => h) (Or.inl ⟨by rfl, ?_⟩) (by assumption) ?_
  rotate_left
  · (intro wS hS; go_simp <;> with_reducible rfl)
  try simp only [Act.put, List.setIfInBounds_toArray, List.set_cons_zero, List.set_cons_succ]
  refine wpAnyH_take (i := 1) (oi := { dst := some 5, op := Op.load 22 (Operand.tmp 4), type := 22, pos := "ref.go:20", after := #[{ on := 0, ground := Ground.data }], guard := none }) (v := ?_) rfl (by kernel_rfl) (by kernel_rfl) (by kernel_rfl) (fun _ _ _ h => h) (Or.inl ⟨by rfl, ?_⟩) (by assumption) ?_
  rotate_left
  · (intro wS hS; have c0 := cell_below hS c0; have c1 := cell_below hS c1; have c2 := cell_below hS c2; have c3 := cell_below hS c3; have c4 := cell_below hS c4; go_simp <;> with_reducible rfl)
  try simp only [Act.put, List.setIfInBounds_toArray, List.set_cons_zero, List.set_cons_succ]
  refine wpAnyH_take (i := 5) (oi := { dst := some 9, op := Op.fieldAddr 100 (Operand.tmp 1) 1, type := 0, pos := "ref.go:20", after := #[], guard := none }) (v := ?_) rfl (by kernel_rfl) (by kernel_rfl) (by kernel_rfl) (fun _ _ _ h => h) (Or.inl ⟨by rfl, ?_⟩) (by assumption) ?_
  rotate_left
  · (intro wS hS; go_simp <;> with_reducible rfl)
  try simp only [Act.put, List.setIfInBounds_toArray, List.set_cons_zero, List.set_cons_succ]
  refine wpAnyH_take (i := 6) (oi := { dst := some 10, op := Op.load 22 (Operand.tmp 9), type := 22, pos := "ref.go:20", after := #[{ on := 5, ground := Ground.data }], guard := none }) (v := ?_) rfl (by kernel_rfl) (by kernel_rfl) (by kernel_rfl) (fun _ _ _ h => h) (Or.inl ⟨by rfl, ?_⟩) (by assumption) ?_
  rotate_left
  · (intro wS hS; have c0 := cell_below hS c0; have c1 := cell_below hS c1; have c2 := cell_below hS c2; have c3 := cell_below hS c3; have c4 := cell_below hS c4; go_simp <;> with_reducible rfl)
  try simp only [Act.put, List.setIfInBounds_toArray, List.set_cons_zero, List.set_cons_succ]
  refine wpAnyH_take (i := 10) (oi := { dst := some 14, op := Op.fieldAddr 100 (Operand.tmp 1) 2, type := 0, pos := "ref.go:20", after := #[], guard := none }) (v := ?_) rfl (by kernel_rfl) (by kernel_rfl) (by kernel_rfl) (fun _ _ _ h => h) (Or.inl ⟨by rfl, ?_⟩) (by assumption) ?_
  rotate_left
  · (intro wS hS; go_simp <;> with_reducible rfl)
  try simp only [Act.put, List.setIfInBounds_toArray, List.set_cons_zero, List.set_cons_succ]
  refine wpAnyH_take (i := 11) (oi := { dst := some 15, op := Op.load 3 (Operand.tmp 14), type := 3, pos := "ref.go:20", after := #[{ on := 10, ground := Ground.data }], guard := none }) (v := ?_) rfl (by kernel_rfl) (by kernel_rfl) (by kernel_rfl) (fun _ _ _ h => h) (Or.inl ⟨by rfl, ?_⟩) (by assumption) ?_
  rotate_left
  · (intro wS hS; have c0 := cell_below hS c0; have c1 := cell_below hS c1; have c2 := cell_below hS c2; have c3 := cell_below hS c3; have c4 := cell_below hS c4; go_simp <;> with_reducible rfl)
  try simp only [Act.put, List.setIfInBounds_toArray, List.set_cons_zero, List.set_cons_succ]
  refine wpAnyH_take (i := 12) (oi := { dst := some 16, op := Op.convert 3 22 (Operand.tmp 15), type := 22, pos := "ref.go:20", after := #[{ on := 11, ground := Ground.data }], guard := none }) (v := ?_) rfl (by kernel_rfl) (by kernel_rfl) (by kernel_rfl) (fun _ _ _ h => h) (Or.inl ⟨by rfl, ?_⟩) (by assumption) ?_
  rotate_left
  · (intro wS hS; go_simp <;> with_reducible rfl)
  try simp only [Act.put, List.setIfInBounds_toArray, List.set_cons_zero, List.set_cons_succ]
  refine wpAnyH_take (i := 16) (oi := { dst := some 20, op := Op.fieldAddr 100 (Operand.tmp 1) 3, type := 0, pos := "ref.go:20", after := #[], guard := none }) (v := ?_) rfl (by kernel_rfl) (by kernel_rfl) (by kernel_rfl) (fun _ _ _ h => h) (Or.inl ⟨by rfl, ?_⟩) (by assumption) ?_
  rotate_left
  · (intro wS hS; go_simp <;> with_reducible rfl)
  try simp only [Act.put, List.setIfInBounds_toArray, List.set_cons_zero, List.set_cons_succ]
  refine wpAnyH_take (i := 17) (oi := { dst := some 21, op := Op.load 3 (Operand.tmp 20), type := 3, pos := "ref.go:20", after := #[{ on := 16, ground := Ground.data }], guard := none }) (v := ?_) rfl (by kernel_rfl) (by kernel_rfl) (by kernel_rfl) (fun _ _ _ h => h) (Or.inl ⟨by rfl, ?_⟩) (by assumption) ?_
  rotate_left
  · (intro wS hS; have c0 := cell_below hS c0; have c1 := cell_below hS c1; have c2 := cell_below hS c2; have c3 := cell_below hS c3; have c4 := cell_below hS c4; go_simp <;> with_reducible rfl)
  try simp only [Act.put, List.setIfInBounds_toArray, List.set_cons_zero, List.set_cons_succ]
  refine wpAnyH_take (i := 18) (oi := { dst := some 22, op := Op.convert 3 22 (Operand.tmp 21), type := 22, pos := "ref.go:20", after := #[{ on := 17, ground := Ground.data }], guard := none }) (v := ?_) rfl (by kernel_rfl) (by kernel_rfl) (by kernel_rfl) (fun _ _ _ h => h) (Or.inl ⟨by rfl, ?_⟩) (by assumption) ?_
  rotate_left
  · (intro wS hS; go_simp <;> with_reducible rfl)
  try simp only [Act.put, List.setIfInBounds_toArray, List.set_cons_zero, List.set_cons_succ]
  refine wpAnyH_take (i := 22) (oi := { dst := some 26, op := Op.fieldAddr 100 (Operand.tmp 1) 4, type := 0, pos := "ref.go:20", after := #[], guard := none }) (v := ?_) rfl (by kernel_rfl) (by kernel_rfl) (by kernel_rfl) (fun _ _ _ h => h) (Or.inl ⟨by rfl, ?_⟩) (by assumption) ?_
  rotate_left
  · (intro wS hS; go_simp <;> with_reducible rfl)
  try simp only [Act.put, List.setIfInBounds_toArray, List.set_cons_zero, List.set_cons_succ]
  refine wpAnyH_take (i := 23) (oi := { dst := some 27, op := Op.load 9 (Operand.tmp 26), type := 9, pos := "ref.go:20", after := #[{ on := 22, ground := Ground.data }], guard := none }) (v := ?_) rfl (by kernel_rfl) (by kernel_rfl) (by kernel_rfl) (fun _ _ _ h => h) (Or.inl ⟨by rfl, ?_⟩) (by assumption) ?_
  rotate_left
  · (intro wS hS; have c0 := cell_below hS c0; have c1 := cell_below hS c1; have c2 := cell_below hS c2; have c3 := cell_below hS c3; have c4 := cell_below hS c4; go_simp <;> with_reducible rfl)
  try simp only [Act.put, List.setIfInBounds_toArray, List.set_cons_zero, List.set_cons_succ]
  refine wpAnyH_ready (rs := [2]) (by kernel_rfl) (by simp) ?_
  refine AllReadyH.cons (o := { dst := some 6, op := Op.call { callee := Callee.value (Operand.func 115), args := #[Operand.const (Value.int IntKind.i64 4), Operand.tmp 5], argTypes := #[3, 22] }, type := 53, pos := "ref.go:20", after := #[{ on := 1, ground := Ground.data }], guard := none }) rfl (fun K hK => ?_) AllReadyH.nil
  go_simp
  refine (K1 _).out.mono ?_
  rintro e w102 ⟨v, rfl, how, hb⟩
  obtain ⟨A1, cc1, rfl, hr1, -⟩ := Rd.of_own how
  replace hS : (fun W => Below (w0).heap.size (w0) W) w102 := below_then hS hb (Below.size hS)
  refine hK.out _ _ hS (fun _ => ?_)
  clear hK K hb
  try simp only [Act.put, List.setIfInBounds_toArray, List.set_cons_zero, List.set_cons_succ]
  refine wpAnyH_stronger (S' := fun W => Below w102.heap.size w102 W) (fun W h => below_then hS h (Below.size hS)) _ _ _ _ ?_
  replace c0 := cell_below hS c0
  replace c1 := cell_below hS c1
  replace c2 := cell_below hS c2
  replace c3 := cell_below hS c3
  replace c4 := cell_below hS c4
  replace hT := below_trans hT hS
  clear hS
  have hS : (fun W => Below w102.heap.size w102 W) w102 := Below.refl _ _
  refine wpAnyH_take (i := 3) (oi := { dst := some 7, op := Op.convert 53 9 (Operand.tmp 6), type := 9, pos := "ref.go:20", after := #[{ on := 2, ground := Ground.data }], guard := none }) (v := ?_) rfl (by kernel_rfl) (by kernel_rfl) (by kernel_rfl) (fun _ _ _ h => h) (Or.inl ⟨by rfl, ?_⟩) (by assumption) ?_
  rotate_left
  · (intro wS hS; have hk := run_string_of (P := Try.prog) 53 9 5 Try.underlying53 Try.underlying5 Try.underlying9 (hr1.below hS); go_simp <;> with_reducible rfl)
  try simp only [Act.put, List.setIfInBounds_toArray, List.set_cons_zero, List.set_cons_succ]
  refine wpAnyH_take (i := 4) (oi := { dst := some 8, op := Op.binOp BinOp.add 9 (Operand.const (Value.string { data := #[26] })) (Operand.tmp 7) 9, type := 9, pos := "ref.go:20", after := #[{ on := 3, ground := Ground.data }], guard := none }) (v := ?_) rfl (by kernel_rfl) (by kernel_rfl) (by kernel_rfl) (fun _ _ _ h => h) (Or.inl ⟨by rfl, ?_⟩) (by assumption) ?_
  rotate_left
  · (intro wS hS; go_simp <;> with_reducible rfl)
  try simp only [Act.put, List.setIfInBounds_toArray, List.set_cons_zero, List.set_cons_succ]
  refine wpAnyH_ready (rs := [7]) (by kernel_rfl) (by simp) ?_
  refine AllReadyH.cons (o := { dst := some 11, op := Op.call { callee := Callee.value (Operand.func 115), args := #[Operand.const (Value.int IntKind.i64 4), Operand.tmp 10], argTypes := #[3, 22] }, type := 53, pos := "ref.go:20", after := #[{ on := 6, ground := Ground.data }, { on := 2, ground := Ground.chain }], guard := none }) rfl (fun K hK => ?_) AllReadyH.nil
  go_simp
  refine (K2 _).out.mono ?_
  rintro e w107 ⟨v, rfl, how, hb⟩
  obtain ⟨A2, cc2, rfl, hr2, -⟩ := Rd.of_own how
  replace hS : (fun W => Below w102.heap.size w102 W) w107 := below_then hS hb (Below.size hS)
  refine hK.out _ _ hS (fun _ => ?_)
  clear hK K hb
  try simp only [Act.put, List.setIfInBounds_toArray, List.set_cons_zero, List.set_cons_succ]
  refine wpAnyH_stronger (S' := fun W => Below w107.heap.size w107 W) (fun W h => below_then hS h (Below.size hS)) _ _ _ _ ?_
  replace c0 := cell_below hS c0
  replace c1 := cell_below hS c1
  replace c2 := cell_below hS c2
  replace c3 := cell_below hS c3
  replace c4 := cell_below hS c4
  replace hT := below_trans hT hS
  clear hS
  have hS : (fun W => Below w107.heap.size w107 W) w107 := Below.refl _ _
  refine wpAnyH_take (i := 8) (oi := { dst := some 12, op := Op.convert 53 9 (Operand.tmp 11), type := 9, pos := "ref.go:20", after := #[{ on := 7, ground := Ground.data }], guard := none }) (v := ?_) rfl (by kernel_rfl) (by kernel_rfl) (by kernel_rfl) (fun _ _ _ h => h) (Or.inl ⟨by rfl, ?_⟩) (by assumption) ?_
  rotate_left
  · (intro wS hS; have hk := run_string_of (P := Try.prog) 53 9 5 Try.underlying53 Try.underlying5 Try.underlying9 (hr2.below hS); go_simp <;> with_reducible rfl)
  try simp only [Act.put, List.setIfInBounds_toArray, List.set_cons_zero, List.set_cons_succ]
  refine wpAnyH_take (i := 9) (oi := { dst := some 13, op := Op.binOp BinOp.add 9 (Operand.tmp 8) (Operand.tmp 12) 9, type := 9, pos := "ref.go:20", after := #[{ on := 4, ground := Ground.data }, { on := 8, ground := Ground.data }], guard := none }) (v := ?_) rfl (by kernel_rfl) (by kernel_rfl) (by kernel_rfl) (fun _ _ _ h => h) (Or.inl ⟨by rfl, ?_⟩) (by assumption) ?_
  rotate_left
  · (intro wS hS; go_simp <;> with_reducible rfl)
  try simp only [Act.put, List.setIfInBounds_toArray, List.set_cons_zero, List.set_cons_succ]
  refine wpAnyH_ready (rs := [13]) (by kernel_rfl) (by simp) ?_
  refine AllReadyH.cons (o := { dst := some 17, op := Op.call { callee := Callee.value (Operand.func 115), args := #[Operand.const (Value.int IntKind.i64 2), Operand.tmp 16], argTypes := #[3, 22] }, type := 53, pos := "ref.go:20", after := #[{ on := 12, ground := Ground.data }, { on := 7, ground := Ground.chain }], guard := none }) rfl (fun K hK => ?_) AllReadyH.nil
  go_simp
  refine (K3 _).out.mono ?_
  rintro e w113 ⟨v, rfl, how, hb⟩
  obtain ⟨A3, cc3, rfl, hr3, -⟩ := Rd.of_own how
  replace hS : (fun W => Below w107.heap.size w107 W) w113 := below_then hS hb (Below.size hS)
  refine hK.out _ _ hS (fun _ => ?_)
  clear hK K hb
  try simp only [Act.put, List.setIfInBounds_toArray, List.set_cons_zero, List.set_cons_succ]
  refine wpAnyH_stronger (S' := fun W => Below w113.heap.size w113 W) (fun W h => below_then hS h (Below.size hS)) _ _ _ _ ?_
  replace c0 := cell_below hS c0
  replace c1 := cell_below hS c1
  replace c2 := cell_below hS c2
  replace c3 := cell_below hS c3
  replace c4 := cell_below hS c4
  replace hT := below_trans hT hS
  clear hS
  have hS : (fun W => Below w113.heap.size w113 W) w113 := Below.refl _ _
  refine wpAnyH_take (i := 14) (oi := { dst := some 18, op := Op.convert 53 9 (Operand.tmp 17), type := 9, pos := "ref.go:20", after := #[{ on := 13, ground := Ground.data }], guard := none }) (v := ?_) rfl (by kernel_rfl) (by kernel_rfl) (by kernel_rfl) (fun _ _ _ h => h) (Or.inl ⟨by rfl, ?_⟩) (by assumption) ?_
  rotate_left
  · (intro wS hS; have hk := run_string_of (P := Try.prog) 53 9 5 Try.underlying53 Try.underlying5 Try.underlying9 (hr3.below hS); go_simp <;> with_reducible rfl)
  try simp only [Act.put, List.setIfInBounds_toArray, List.set_cons_zero, List.set_cons_succ]
  refine wpAnyH_take (i := 15) (oi := { dst := some 19, op := Op.binOp BinOp.add 9 (Operand.tmp 13) (Operand.tmp 18) 9, type := 9, pos := "ref.go:20", after := #[{ on := 9, ground := Ground.data }, { on := 14, ground := Ground.data }], guard := none }) (v := ?_) rfl (by kernel_rfl) (by kernel_rfl) (by kernel_rfl) (fun _ _ _ h => h) (Or.inl ⟨by rfl, ?_⟩) (by assumption) ?_
  rotate_left
  · (intro wS hS; go_simp <;> with_reducible rfl)
  try simp only [Act.put, List.setIfInBounds_toArray, List.set_cons_zero, List.set_cons_succ]
  refine wpAnyH_ready (rs := [19]) (by kernel_rfl) (by simp) ?_
  refine AllReadyH.cons (o := { dst := some 23, op := Op.call { callee := Callee.value (Operand.func 115), args := #[Operand.const (Value.int IntKind.i64 2), Operand.tmp 22], argTypes := #[3, 22] }, type := 53, pos := "ref.go:20", after := #[{ on := 18, ground := Ground.data }, { on := 13, ground := Ground.chain }], guard := none }) rfl (fun K hK => ?_) AllReadyH.nil
  go_simp
  refine (K4 _).out.mono ?_
  rintro e w119 ⟨v, rfl, how, hb⟩
  obtain ⟨A4, cc4, rfl, hr4, -⟩ := Rd.of_own how
  replace hS : (fun W => Below w113.heap.size w113 W) w119 := below_then hS hb (Below.size hS)
  refine hK.out _ _ hS (fun _ => ?_)
  clear hK K hb
  try simp only [Act.put, List.setIfInBounds_toArray, List.set_cons_zero, List.set_cons_succ]
  refine wpAnyH_stronger (S' := fun W => Below w119.heap.size w119 W) (fun W h => below_then hS h (Below.size hS)) _ _ _ _ ?_
  replace c0 := cell_below hS c0
  replace c1 := cell_below hS c1
  replace c2 := cell_below hS c2
  replace c3 := cell_below hS c3
  replace c4 := cell_below hS c4
  replace hT := below_trans hT hS
  clear hS
  have hS : (fun W => Below w119.heap.size w119 W) w119 := Below.refl _ _
  refine wpAnyH_take (i := 20) (oi := { dst := some 24, op := Op.convert 53 9 (Operand.tmp 23), type := 9, pos := "ref.go:20", after := #[{ on := 19, ground := Ground.data }], guard := none }) (v := ?_) rfl (by kernel_rfl) (by kernel_rfl) (by kernel_rfl) (fun _ _ _ h => h) (Or.inl ⟨by rfl, ?_⟩) (by assumption) ?_
  rotate_left
  · (intro wS hS; have hk := run_string_of (P := Try.prog) 53 9 5 Try.underlying53 Try.underlying5 Try.underlying9 (hr4.below hS); go_simp <;> with_reducible rfl)
  try simp only [Act.put, List.setIfInBounds_toArray, List.set_cons_zero, List.set_cons_succ]
  refine wpAnyH_take (i := 21) (oi := { dst := some 25, op := Op.binOp BinOp.add 9 (Operand.tmp 19) (Operand.tmp 24) 9, type := 9, pos := "ref.go:20", after := #[{ on := 15, ground := Ground.data }, { on := 20, ground := Ground.data }], guard := none }) (v := ?_) rfl (by kernel_rfl) (by kernel_rfl) (by kernel_rfl) (fun _ _ _ h => h) (Or.inl ⟨by rfl, ?_⟩) (by assumption) ?_
  rotate_left
  · (intro wS hS; go_simp <;> with_reducible rfl)
  try simp only [Act.put, List.setIfInBounds_toArray, List.set_cons_zero, List.set_cons_succ]
  refine wpAnyH_take (i := 24) (oi := { dst := some 28, op := Op.binOp BinOp.add 9 (Operand.tmp 25) (Operand.tmp 27) 9, type := 9, pos := "ref.go:20", after := #[{ on := 21, ground := Ground.data }, { on := 23, ground := Ground.data }], guard := none }) (v := ?_) rfl (by kernel_rfl) (by kernel_rfl) (by kernel_rfl) (fun _ _ _ h => h) (Or.inl ⟨by rfl, ?_⟩) (by assumption) ?_
  rotate_left
  · (intro wS hS; go_simp <;> with_reducible rfl)
  try simp only [Act.put, List.setIfInBounds_toArray, List.set_cons_zero, List.set_cons_succ]
  refine wpAnyH_take (i := 25) (oi := { dst := some 3, op := Op.assign (Operand.tmp 28), type := 9, pos := "ref.go:20", after := #[{ on := 24, ground := Ground.data }, { on := 19, ground := Ground.chain }, { on := 0, ground := Ground.phase }, { on := 1, ground := Ground.phase }, { on := 2, ground := Ground.phase }, { on := 3, ground := Ground.phase }, { on := 4, ground := Ground.phase }, { on := 5, ground := Ground.phase }, { on := 6, ground := Ground.phase }, { on := 7, ground := Ground.phase }, { on := 8, ground := Ground.phase }, { on := 9, ground := Ground.phase }, { on := 10, ground := Ground.phase }, { on := 11, ground := Ground.phase }, { on := 12, ground := Ground.phase }, { on := 13, ground := Ground.phase }, { on := 14, ground := Ground.phase }, { on := 15, ground := Ground.phase }, { on := 16, ground := Ground.phase }, { on := 17, ground := Ground.phase }, { on := 18, ground := Ground.phase }, { on := 19, ground := Ground.phase }, { on := 20, ground := Ground.phase }, { on := 21, ground := Ground.phase }, { on := 22, ground := Ground.phase }, { on := 23, ground := Ground.phase }, { on := 24, ground := Ground.phase }], guard := none }) (v := ?_) rfl (by kernel_rfl) (by kernel_rfl) (by kernel_rfl) (fun _ _ _ h => h) (Or.inl ⟨by rfl, ?_⟩) (by assumption) ?_
  rotate_left
  · (intro wS hS; go_simp <;> with_reducible rfl)
  try simp only [Act.put, List.setIfInBounds_toArray, List.set_cons_zero, List.set_cons_succ]
  refine wpAnyH_done (by kernel_rfl) ?_ _
  have hstr : ((⟨#[26]⟩ : ByteArray) ++ ⟨s1.toArray⟩ ++ ⟨s2.toArray⟩ ++ ⟨s3.toArray⟩ ++ ⟨s4.toArray⟩ ++ ⟨d.toArray⟩) = ⟨fh.toArray⟩ := by
    have hcat : ∀ xs ys : List UInt8, (⟨xs.toArray⟩ : ByteArray) ++ ⟨ys.toArray⟩ = ⟨(xs ++ ys).toArray⟩ := cat_bytes
    rw [HH.out, show (⟨#[26]⟩ : ByteArray) = ⟨([26] : List UInt8).toArray⟩ from rfl]
    simp only [hcat]
  simp only [hstr]
  have hcv := run_bytes_of fh w119
  have hrd := rd_bytesOf w119 fh (by unfold maxLen; omega)
  have hb5 := bytesWorld_below w119 5 ⟨fh.toArray⟩
  have hB2 := below_trans (hB.trans (below_of hT hB.size)) hb5
  clear hT hS hr1 hr2 hr3 hr4 c0 c1 c2 c3 c4
  go_wp2_with fail
  rw [hfl] at hrd
  have KO := Lib.hid (refof_any 1 fh _ _ _ _ hrd)
  rw [crcOf_one] at KO
  refine KO.out.mono ?_
  rintro e w6 ⟨rfl, rfl⟩
  generalize hWB : Lib.bytesWorld w119 5 ⟨fh.toArray⟩ = wb at *
  clear hcv hrd hb5 hWB KO hstr
  generalize hcs2 : crcS fh = cs at *
  go_wp2_with fail
  refine (refbytes_any 2 cs wb (by omega)).mono ?_
  rintro e w7 ⟨v, rfl, how, hb⟩
  obtain ⟨A5, c5, rfl, hr5, -⟩ := Rd.of_own how
  rw [show wid 2 = 2 from rfl] at hr5 ⊢
  replace hB2 := below_trans hB2 hb
  have hks := run_string_of (P := Try.prog) 53 9 5 Try.underlying53 Try.underlying5 Try.underlying9 hr5
  have l5 := putB_length 2 cs
  have HP2 := HP.out
  generalize putB 2 cs = s5 at *
  have f11 : ¬ (9223372036854775807 < 13 + d.length + 2) := by omega
  clear how hb hr5 hB HP
  have HP3 := Lib.hid HP2
  clear HP2
  go_wp2_with fail
  go_ret
  have hcat : ∀ xs ys : List UInt8, (⟨xs.toArray⟩ : ByteArray) ++ ⟨ys.toArray⟩ = ⟨(xs ++ ys).toArray⟩ := cat_bytes
  refine ⟨?_, hB2⟩
  rw [HP3.out, ← hcat]
  simp
end Go.Proofs.Ytefipigdkdopcaa
