/- Contracts of eid.Value at any name, eid.Host at none that may be. No condition but the kinds' bounds. -/
import Derived.Test.YtieigjlbjiielaaDoorEn2E
import Derived.Test.YtieigjlbjiielaaDoorVal8E
namespace Go.Proofs.YtieigjlbjiielaaDoor
open Go.RowKit

set_option maxRecDepth 100000 in
theorem evalue_no (sc : Int) (nm : List UInt8) (nd sv : Nat) (w : World) (h : rightE sc nm nd sv = false) : Calls Tryd.prog 13 #[eidV sc nm nd sv] w fun e w' => e = .returned (.tuple #[.nilIface, .int .i64 2]) ∧ Below w.heap.size w w' := by
  obtain ⟨hB, c0, c1, c2, c3⟩ := eid_cells w sc nm nd sv
  have KR := fun W => Lib.hid (eright_any sc nm nd sv W)
  rw [h] at KR
  clear h
  go_enter Tryd.func13, Tryd.ntmps13
  go_upto_region 1 with fail
  generalize w.alloc (.cells #[.int .i64 sc, .string ⟨nm.toArray⟩, .int .u64 (nd : Int), .int .u64 (sv : Int)] 40) = w0 at *
  go_wp2_with fail
  refine (KR _).out.mono ?_
  rintro e w1 ⟨rfl, hb⟩
  go_wp2_with fail
  go_ret2
  exact ⟨rfl, below_trans hB hb⟩
set_option maxRecDepth 100000 in
theorem ehost_no (sc : Int) (nm : List UInt8) (nd sv : Nat) (w : World) (h : rightE sc nm nd sv = false) : Calls Tryd.prog 16 #[eidV sc nm nd sv] w fun e w' => e = .returned (.string ⟨#[]⟩) ∧ Below w.heap.size w w' := by
  obtain ⟨hB, c0, c1, c2, c3⟩ := eid_cells w sc nm nd sv
  have KR := fun W => Lib.hid (eright_any sc nm nd sv W)
  rw [h] at KR
  clear h
  go_enter Tryd.func16, Tryd.ntmps16
  go_upto_region 1 with fail
  generalize w.alloc (.cells #[.int .i64 sc, .string ⟨nm.toArray⟩, .int .u64 (nd : Int), .int .u64 (sv : Int)] 40) = w1 at *
  refine wp_region_held (S := fun W => Below (w1).heap.size (w1) W) (by kernel_rfl) ?_
  change wpAnyH _ _ _ _ _ _ _ _ (w1).drew
  have hS : (fun W => Below (w1).heap.size (w1) W) (w1).drew := (Below.refl _ _).drew
  refine wpAnyH_take (i := 0) (oi := { dst := some 7, op := Op.load 40 (Operand.tmp 1), type := 40, pos := "eid.go:151", after := #[], guard := none }) (v := ?_) rfl (by kernel_rfl) (by kernel_rfl) (by kernel_rfl) (fun _ _ _ h => h) (Or.inl ⟨by rfl, ?_⟩) (by assumption) ?_
  rotate_left
  · (intro wS hS; have c0 := cell_below hS c0; have c1 := cell_below hS c1; have c2 := cell_below hS c2; have c3 := cell_below hS c3; go_simp <;> with_reducible rfl)
  try simp only [Act.put, List.setIfInBounds_toArray, List.set_cons_zero, List.set_cons_succ]
  refine wpAnyH_ready (rs := [1]) (by kernel_rfl) (by simp) ?_
  refine AllReadyH.cons (o := { dst := some 8, op := Op.call { callee := Callee.value (Operand.func 15), args := #[Operand.tmp 7], argTypes := #[40] }, type := 4, pos := "eid.go:151", after := #[{ on := 0, ground := Ground.data }], guard := none }) rfl (fun K hK => ?_) AllReadyH.nil
  go_simp
  refine (KR _).out.mono ?_
  rintro e w101 ⟨rfl, hb⟩
  replace hS : (fun W => Below (w1).heap.size (w1) W) w101 := below_then hS hb (Below.size hS)
  refine hK.out _ _ hS (fun _ => ?_)
  clear hK K hb
  try simp only [Act.put, List.setIfInBounds_toArray, List.set_cons_zero, List.set_cons_succ]
  refine wpAnyH_take (i := 2) (oi := { dst := some 9, op := Op.unOp UnOp.not 4 (Operand.tmp 8), type := 4, pos := "eid.go:151", after := #[{ on := 1, ground := Ground.data }], guard := none }) (v := ?_) rfl (by kernel_rfl) (by kernel_rfl) (by kernel_rfl) (fun _ _ _ h => h) (Or.inl ⟨by rfl, ?_⟩) (by assumption) ?_
  rotate_left
  · (intro wS hS; go_simp <;> with_reducible rfl)
  try simp only [Act.put, List.setIfInBounds_toArray, List.set_cons_zero, List.set_cons_succ]
  refine wpAnyH_take (i := 3) (oi := { dst := some 10, op := Op.move (Operand.tmp 9), type := 4, pos := "eid.go:151", after := #[{ on := 2, ground := Ground.data }, { on := 1, ground := Ground.chain }], guard := none }) (v := ?_) rfl (by kernel_rfl) (by kernel_rfl) (by kernel_rfl) (fun _ _ _ h => h) (Or.inl ⟨by rfl, ?_⟩) (by assumption) ?_
  rotate_left
  · (intro wS hS; go_simp <;> with_reducible rfl)
  try simp only [Act.put, List.setIfInBounds_toArray, List.set_cons_zero, List.set_cons_succ]
  refine wpAnyH_take (i := 4) (oi := { dst := some 11, op := Op.load 40 (Operand.tmp 1), type := 40, pos := "eid.go:151", after := #[{ on := 3, ground := Ground.guard }], guard := some (3, false) }) (v := undef) rfl (by kernel_rfl) (by kernel_rfl) (by kernel_rfl) (fun _ _ _ h => h) (Or.inr ⟨by rfl, rfl⟩) (by assumption) ?_
  try simp only [Act.put, List.setIfInBounds_toArray, List.set_cons_zero, List.set_cons_succ]
  refine wpAnyH_take (i := 5) (oi := { dst := some 12, op := Op.call { callee := Callee.value (Operand.func 30), args := #[], argTypes := #[] }, type := 40, pos := "eid.go:151", after := #[{ on := 3, ground := Ground.chain }, { on := 3, ground := Ground.guard }], guard := some (3, false) }) (v := undef) rfl (by kernel_rfl) (by kernel_rfl) (by kernel_rfl) (fun _ _ _ h => h) (Or.inr ⟨by rfl, rfl⟩) (by assumption) ?_
  try simp only [Act.put, List.setIfInBounds_toArray, List.set_cons_zero, List.set_cons_succ]
  refine wpAnyH_take (i := 6) (oi := { dst := some 13, op := Op.binOp BinOp.eql 40 (Operand.tmp 11) (Operand.tmp 12) 40, type := 4, pos := "eid.go:151", after := #[{ on := 4, ground := Ground.data }, { on := 5, ground := Ground.data }, { on := 3, ground := Ground.guard }], guard := some (3, false) }) (v := undef) rfl (by kernel_rfl) (by kernel_rfl) (by kernel_rfl) (fun _ _ _ h => h) (Or.inr ⟨by rfl, rfl⟩) (by assumption) ?_
  try simp only [Act.put, List.setIfInBounds_toArray, List.set_cons_zero, List.set_cons_succ]
  refine wpAnyH_take (i := 7) (oi := { dst := some 14, op := Op.pick (Operand.tmp 10) (Operand.const (Value.bool true)) (Operand.tmp 13), type := 4, pos := "eid.go:151", after := #[{ on := 3, ground := Ground.data }, { on := 6, ground := Ground.data }], guard := none }) (v := ?_) rfl (by kernel_rfl) (by kernel_rfl) (by kernel_rfl) (fun _ _ _ h => h) (Or.inl ⟨by rfl, ?_⟩) (by assumption) ?_
  rotate_left
  · (intro wS hS; go_simp <;> with_reducible rfl)
  try simp only [Act.put, List.setIfInBounds_toArray, List.set_cons_zero, List.set_cons_succ]
  refine wpAnyH_take (i := 8) (oi := { dst := some 6, op := Op.assign (Operand.tmp 14), type := 4, pos := "eid.go:151", after := #[{ on := 7, ground := Ground.data }, { on := 5, ground := Ground.chain }], guard := none }) (v := ?_) rfl (by kernel_rfl) (by kernel_rfl) (by kernel_rfl) (fun _ _ _ h => h) (Or.inl ⟨by rfl, ?_⟩) (by assumption) ?_
  rotate_left
  · (intro wS hS; go_simp <;> with_reducible rfl)
  try simp only [Act.put, List.setIfInBounds_toArray, List.set_cons_zero, List.set_cons_succ]
  refine wpAnyH_done (by kernel_rfl) ?_ _
  replace hB := hB.trans (below_of hS hB.size)
  go_wp2_with fail
  go_ret
  exact ⟨rfl, hB⟩

/-- What stands for a name, as a value of the document. -/
def valE (sc : Int) (nm : List UInt8) (nd sv : Nat) : VT :=
  .mk 4 0 [] [.mk 0 sc.toNat [] [], if sc = 2 then .mk 4 0 [] [.mk 0 nd [] [], .mk 0 sv [] []] else if nm = [] then .mk 0 0 [] [] else .mk 3 0 nm []]

set_option maxRecDepth 100000 in
set_option maxHeartbeats 1000000 in
theorem evalue_named (nm : List UInt8) (w : World) (h : rightE 1 nm 0 0 = true) (hne : nm ≠ []) : Calls Tryd.prog 13 #[eidV 1 nm 0 0] w fun e w' => ∃ A, e = .returned (.tuple #[.iface 36 (.slice A 2 2), .int .i64 0]) ∧ Rd w' A 2 2 1 [.iface 22 (.int .u64 1), .iface 9 (.string ⟨nm.toArray⟩)] ∧ Below w.heap.size w w' := by
  obtain ⟨hB, c0, c1, c2, c3⟩ := eid_cells w 1 nm 0 0
  have KR : ∀ W, Hid (Calls Tryd.prog 15 #[eidV 1 nm 0 0] W fun e w' => e = .returned (.bool true) ∧ Below W.heap.size W w') := fun W => Lib.hid (by
    have := eright_any 1 nm 0 0 W
    rw [h] at this
    exact this)
  have hne2 : (nm == []) = false := by simpa using hne
  clear h hne
  go_enter Tryd.func13, Tryd.ntmps13
  go_upto_region 1 with fail
  generalize w.alloc (.cells #[.int .i64 1, .string ⟨nm.toArray⟩, .int .u64 0, .int .u64 0] 40) = w0 at *
  go_wp2_with fail
  refine (KR _).out.mono ?_
  rintro e w1 ⟨rfl, hb⟩
  replace c0 := cell_below hb c0
  replace c1 := cell_below hb c1
  replace c2 := cell_below hb c2
  replace c3 := cell_below hb c3
  replace hB := below_trans hB hb
  clear hb KR
  go_wp2_with fail
  refine wp_region_held (S := fun W => Below (w1).heap.size (w1) W) (by kernel_rfl) ?_
  change wpAnyH _ _ _ _ _ _ _ _ (w1).drew
  have hS : (fun W => Below (w1).heap.size (w1) W) (w1).drew := (Below.refl _ _).drew
  refine wpAnyH_take (i := 0) (oi := { dst := some 13, op := Op.load 40 (Operand.tmp 1), type := 40, pos := "eid.go:99", after := #[], guard := none }) (v := ?_) rfl (by kernel_rfl) (by kernel_rfl) (by kernel_rfl) (fun _ _ _ h => h) (Or.inl ⟨by rfl, ?_⟩) (by assumption) ?_
  rotate_left
  · (intro wS hS; have c0 := cell_below hS c0; have c1 := cell_below hS c1; have c2 := cell_below hS c2; have c3 := cell_below hS c3; go_simp <;> with_reducible rfl)
  try simp only [Act.put, List.setIfInBounds_toArray, List.set_cons_zero, List.set_cons_succ]
  refine wpAnyH_ready (rs := [1]) (by kernel_rfl) (by simp) ?_
  refine AllReadyH.cons (o := { dst := some 14, op := Op.call { callee := Callee.value (Operand.func 30), args := #[], argTypes := #[] }, type := 40, pos := "eid.go:99", after := #[], guard := none }) rfl (fun K hK => ?_) AllReadyH.nil
  go_simp
  refine (enone_any _).mono ?_
  rintro e w101 ⟨rfl, hb⟩
  replace hS : (fun W => Below (w1).heap.size (w1) W) w101 := below_then hS hb (Below.size hS)
  refine hK.out _ _ hS (fun _ => ?_)
  clear hK K hb
  try simp only [Act.put, List.setIfInBounds_toArray, List.set_cons_zero, List.set_cons_succ]
  refine wpAnyH_take (i := 2) (oi := { dst := some 15, op := Op.binOp BinOp.eql 40 (Operand.tmp 13) (Operand.tmp 14) 40, type := 4, pos := "eid.go:99", after := #[{ on := 0, ground := Ground.data }, { on := 1, ground := Ground.data }], guard := none }) (v := ?_) rfl (by kernel_rfl) (by kernel_rfl) (by kernel_rfl) (fun _ _ _ h => h) (Or.inl ⟨by rfl, ?_⟩) (by assumption) ?_
  rotate_left
  · (intro wS hS; go_simp <;> with_reducible rfl)
  try simp only [Act.put, List.setIfInBounds_toArray, List.set_cons_zero, List.set_cons_succ]
  refine wpAnyH_take (i := 3) (oi := { dst := some 12, op := Op.assign (Operand.tmp 15), type := 4, pos := "eid.go:99", after := #[{ on := 2, ground := Ground.data }, { on := 1, ground := Ground.chain }], guard := none }) (v := ?_) rfl (by kernel_rfl) (by kernel_rfl) (by kernel_rfl) (fun _ _ _ h => h) (Or.inl ⟨by rfl, ?_⟩) (by assumption) ?_
  rotate_left
  · (intro wS hS; go_simp <;> with_reducible rfl)
  try simp only [Act.put, List.setIfInBounds_toArray, List.set_cons_zero, List.set_cons_succ]
  refine wpAnyH_done (by kernel_rfl) ?_ _
  replace hB := hB.trans (below_of hS hB.size)
  replace c0 := cell_below hS c0
  replace c1 := cell_below hS c1
  clear hS c2 c3
  go_wp2_with fail
  go_ret2
  have hrd := cells_rd' (w := w101) (e := 20) (cs := #[.iface 22 (.int .u64 1), .iface 9 (.string ⟨nm.toArray⟩)]) rfl (show 2 ≤ maxLen by decide)
  exact ⟨_, rfl, hrd, hB.alloc hB.size _⟩

set_option maxRecDepth 100000 in
set_option maxHeartbeats 1000000 in
theorem evalue_ipn (nd sv : Nat) (w : World) : Calls Tryd.prog 13 #[eidV 2 [] nd sv] w fun e w' => ∃ A B, e = .returned (.tuple #[.iface 36 (.slice A 2 2), .int .i64 0]) ∧ Rd w' A 2 2 1 [.iface 22 (.int .u64 2), .iface 36 (.slice B 2 2)] ∧
    Rd w' B 2 2 1 [.iface 22 (.int .u64 nd), .iface 22 (.int .u64 sv)] ∧ Below w.heap.size w w' := by
  obtain ⟨hB, c0, c1, c2, c3⟩ := eid_cells w 2 [] nd sv
  have KR : ∀ W, Hid (Calls Tryd.prog 15 #[eidV 2 [] nd sv] W fun e w' => e = .returned (.bool true) ∧ Below W.heap.size W w') := fun W => Lib.hid (eright_any 2 [] nd sv W)
  go_enter Tryd.func13, Tryd.ntmps13
  go_upto_region 1 with fail
  generalize w.alloc (.cells #[.int .i64 2, .string ⟨([] : List UInt8).toArray⟩, .int .u64 (nd : Int), .int .u64 (sv : Int)] 40) = w0 at *
  go_wp2_with fail
  refine (KR _).out.mono ?_
  rintro e w1 ⟨rfl, hb⟩
  replace c0 := cell_below hb c0
  replace c1 := cell_below hb c1
  replace c2 := cell_below hb c2
  replace c3 := cell_below hb c3
  replace hB := below_trans hB hb
  clear hb KR
  go_wp2_with fail
  refine wp_region_held (S := fun W => Below (w1).heap.size (w1) W) (by kernel_rfl) ?_
  change wpAnyH _ _ _ _ _ _ _ _ (w1).drew
  have hS : (fun W => Below (w1).heap.size (w1) W) (w1).drew := (Below.refl _ _).drew
  refine wpAnyH_take (i := 0) (oi := { dst := some 13, op := Op.load 40 (Operand.tmp 1), type := 40, pos := "eid.go:99", after := #[], guard := none }) (v := ?_) rfl (by kernel_rfl) (by kernel_rfl) (by kernel_rfl) (fun _ _ _ h => h) (Or.inl ⟨by rfl, ?_⟩) (by assumption) ?_
  rotate_left
  · (intro wS hS; have c0 := cell_below hS c0; have c1 := cell_below hS c1; have c2 := cell_below hS c2; have c3 := cell_below hS c3; go_simp <;> with_reducible rfl)
  try simp only [Act.put, List.setIfInBounds_toArray, List.set_cons_zero, List.set_cons_succ]
  refine wpAnyH_ready (rs := [1]) (by kernel_rfl) (by simp) ?_
  refine AllReadyH.cons (o := { dst := some 14, op := Op.call { callee := Callee.value (Operand.func 30), args := #[], argTypes := #[] }, type := 40, pos := "eid.go:99", after := #[], guard := none }) rfl (fun K hK => ?_) AllReadyH.nil
  go_simp
  refine (enone_any _).mono ?_
  rintro e w101 ⟨rfl, hb⟩
  replace hS : (fun W => Below (w1).heap.size (w1) W) w101 := below_then hS hb (Below.size hS)
  refine hK.out _ _ hS (fun _ => ?_)
  clear hK K hb
  try simp only [Act.put, List.setIfInBounds_toArray, List.set_cons_zero, List.set_cons_succ]
  refine wpAnyH_take (i := 2) (oi := { dst := some 15, op := Op.binOp BinOp.eql 40 (Operand.tmp 13) (Operand.tmp 14) 40, type := 4, pos := "eid.go:99", after := #[{ on := 0, ground := Ground.data }, { on := 1, ground := Ground.data }], guard := none }) (v := ?_) rfl (by kernel_rfl) (by kernel_rfl) (by kernel_rfl) (fun _ _ _ h => h) (Or.inl ⟨by rfl, ?_⟩) (by assumption) ?_
  rotate_left
  · (intro wS hS; go_simp <;> with_reducible rfl)
  try simp only [Act.put, List.setIfInBounds_toArray, List.set_cons_zero, List.set_cons_succ]
  refine wpAnyH_take (i := 3) (oi := { dst := some 12, op := Op.assign (Operand.tmp 15), type := 4, pos := "eid.go:99", after := #[{ on := 2, ground := Ground.data }, { on := 1, ground := Ground.chain }], guard := none }) (v := ?_) rfl (by kernel_rfl) (by kernel_rfl) (by kernel_rfl) (fun _ _ _ h => h) (Or.inl ⟨by rfl, ?_⟩) (by assumption) ?_
  rotate_left
  · (intro wS hS; go_simp <;> with_reducible rfl)
  try simp only [Act.put, List.setIfInBounds_toArray, List.set_cons_zero, List.set_cons_succ]
  refine wpAnyH_done (by kernel_rfl) ?_ _
  replace hB := hB.trans (below_of hS hB.size)
  replace c0 := cell_below hS c0
  replace c2 := cell_below hS c2
  replace c3 := cell_below hS c3
  clear hS c1
  go_wp2_with fail
  go_ret2
  have hrd := cells_rd' (w := w101) (e := 20) (cs := #[.iface 22 (.int .u64 (nd : Int)), .iface 22 (.int .u64 (sv : Int))]) rfl (show 2 ≤ maxLen by decide)
  have hb2 := (one_cells w101 #[.iface 22 (.int .u64 (nd : Int)), .iface 22 (.int .u64 (sv : Int))] 20).1
  have hrd2 := cells_rd' (w := w101.alloc (.cells #[.iface 22 (.int .u64 (nd : Int)), .iface 22 (.int .u64 (sv : Int))] 20)) (e := 20) (cs := #[.iface 22 (.int .u64 2), .iface 36 (.slice (some ⟨w101.heap.size, 0, none⟩) 2 2)]) rfl (show 2 ≤ maxLen by decide)
  have hb3 := (one_cells (w101.alloc (.cells #[.iface 22 (.int .u64 (nd : Int)), .iface 22 (.int .u64 (sv : Int))] 20)) #[.iface 22 (.int .u64 2), .iface 36 (.slice (some ⟨w101.heap.size, 0, none⟩) 2 2)] 20).1
  rw [alloc_size] at hrd2
  exact ⟨_, _, rfl, hrd2, hrd.below hb3, (below_trans (below_trans hB hb2) hb3)⟩
end Go.Proofs.YtieigjlbjiielaaDoor
