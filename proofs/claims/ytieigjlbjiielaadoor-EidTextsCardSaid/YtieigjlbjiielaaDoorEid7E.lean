/- Contract of eid.Host; what must come of layer 7 at any rate. Asked: that the library's variable holds a number. -/
import Derived.Test.YtieigjlbjiielaaDoorEid6E
namespace Go.Proofs.YtieigjlbjiielaaDoor
open Go.RowKit

def hostE (sc : Int) (nm : List UInt8) (nd : Nat) : List UInt8 := if sc = 2 then digs nd else if nm = [] then [] else (Lib.cut (nm.drop 2) [47]).1

set_option maxRecDepth 100000 in
set_option maxHeartbeats 1000000 in
theorem ehost_yes (sc : Int) (nm : List UInt8) (nd sv : Nat) (w : World) (h : rightE sc nm nd sv = true) (hd : nd < 18446744073709551616) (hL : LM w) : Calls Tryd.prog 16 #[eidV sc nm nd sv] w fun e w' => e = .returned (.string ⟨(hostE sc nm nd).toArray⟩) ∧ Below w.heap.size w w' := by
  obtain ⟨hB, c0, c1, c2, c3⟩ := eid_cells w sc nm nd sv
  have KR := fun W => Lib.hid (eright_any sc nm nd sv W)
  rw [h] at KR
  have HL1 := Lib.hid (hL.below hB)
  clear hL
  have HT : Hid (hostE sc nm nd = if sc = 2 then digs nd else if nm = [] then [] else (Lib.cut (nm.drop 2) [47]).1) := rfl
  rcases right_cases h with ⟨rfl, rfl, rfl, rfl⟩ | ⟨rfl, rfl, rfl, hne, hnm⟩ | ⟨rfl, rfl⟩
  · rw [if_neg (by decide), if_pos rfl] at HT
    clear h hd
    go_enter Tryd.func16, Tryd.ntmps16
    go_upto_region 1 with fail
    generalize w.alloc (.cells #[.int .i64 1, .string ⟨([] : List UInt8).toArray⟩, .int .u64 ((0 : Nat) : Int), .int .u64 ((0 : Nat) : Int)] 40) = w1 at *
    refine wp_region_held (S := fun W => Below (w1).heap.size (w1) W) (by kernel_rfl) ?_
    change wpAnyH _ _ _ _ _ _ _ _ (w1).drew
    have hS : (fun W => Below (w1).heap.size (w1) W) (w1).drew := (Below.refl _ _).drew
    refine wpAnyH_take (i := 0) (oi := { dst := some 7, op := Op.load 40 (Operand.tmp 1), type := 40, pos := "eid.go:151", after := #[], guard := none }) (v := ?_) rfl (by kernel_rfl) (by kernel_rfl) (by kernel_rfl) (fun _ _ _ h => h) (Or.inl ⟨by rfl, ?_⟩) (by assumption) ?_
    rotate_left
    · (intro wS hS; have c0 := cell_below hS c0; have c1 := cell_below hS c1; have c2 := cell_below hS c2; have c3 := cell_below hS c3; go_simp <;> with_reducible rfl)
    try simp only [Act.put, List.setIfInBounds_toArray, List.set_cons_zero, List.set_cons_succ]
    refine wpAnyH_ready (rs := [1]) (by kernel_rfl) (by simp) ?_
    refine AllReadyH.cons (o := { dst := some 8, op := Op.call { callee := Callee.value (Operand.func 15), args := #[Operand.tmp 7], argTypes := #[40] }, type := 4, pos := "eid.go:151", after := #[{ on := 0, ground := Ground.data }], guard := none }) rfl (fun K hK => ?_) AllReadyH.nil
    go_simp
    refine (KR _).out.mono ?_
    rintro e w101 ⟨rfl, hb⟩
    replace hS : (fun W => Below (w1).heap.size (w1) W) w101 := below_then hS hb (Below.size hS)
    refine hK.out _ _ hS (fun _ => ?_)
    clear hK K hb
    try simp only [Act.put, List.setIfInBounds_toArray, List.set_cons_zero, List.set_cons_succ]
    refine wpAnyH_take (i := 2) (oi := { dst := some 9, op := Op.unOp UnOp.not 4 (Operand.tmp 8), type := 4, pos := "eid.go:151", after := #[{ on := 1, ground := Ground.data }], guard := none }) (v := ?_) rfl (by kernel_rfl) (by kernel_rfl) (by kernel_rfl) (fun _ _ _ h => h) (Or.inl ⟨by rfl, ?_⟩) (by assumption) ?_
    rotate_left
    · (intro wS hS; go_simp <;> with_reducible rfl)
    try simp only [Act.put, List.setIfInBounds_toArray, List.set_cons_zero, List.set_cons_succ]
    refine wpAnyH_take (i := 3) (oi := { dst := some 10, op := Op.move (Operand.tmp 9), type := 4, pos := "eid.go:151", after := #[{ on := 2, ground := Ground.data }, { on := 1, ground := Ground.chain }], guard := none }) (v := ?_) rfl (by kernel_rfl) (by kernel_rfl) (by kernel_rfl) (fun _ _ _ h => h) (Or.inl ⟨by rfl, ?_⟩) (by assumption) ?_
    rotate_left
    · (intro wS hS; go_simp <;> with_reducible rfl)
    try simp only [Act.put, List.setIfInBounds_toArray, List.set_cons_zero, List.set_cons_succ]
    refine wpAnyH_take (i := 4) (oi := { dst := some 11, op := Op.load 40 (Operand.tmp 1), type := 40, pos := "eid.go:151", after := #[{ on := 3, ground := Ground.guard }], guard := some (3, false) }) (v := ?_) rfl (by kernel_rfl) (by kernel_rfl) (by kernel_rfl) (fun _ _ _ h => h) (Or.inl ⟨by rfl, ?_⟩) (by assumption) ?_
    rotate_left
    · (intro wS hS; have c0 := cell_below hS c0; have c1 := cell_below hS c1; have c2 := cell_below hS c2; have c3 := cell_below hS c3; go_simp <;> with_reducible rfl)
    try simp only [Act.put, List.setIfInBounds_toArray, List.set_cons_zero, List.set_cons_succ]
    refine wpAnyH_ready (rs := [5]) (by kernel_rfl) (by simp) ?_
    refine AllReadyH.cons (o := { dst := some 12, op := Op.call { callee := Callee.value (Operand.func 30), args := #[], argTypes := #[] }, type := 40, pos := "eid.go:151", after := #[{ on := 3, ground := Ground.chain }, { on := 3, ground := Ground.guard }], guard := some (3, false) }) rfl (fun K hK => ?_) AllReadyH.nil
    go_simp
    refine (enone_any _).mono ?_
    rintro e w105 ⟨rfl, hb⟩
    replace hS : (fun W => Below (w1).heap.size (w1) W) w105 := below_then hS hb (Below.size hS)
    refine hK.out _ _ hS (fun _ => ?_)
    clear hK K hb
    try simp only [Act.put, List.setIfInBounds_toArray, List.set_cons_zero, List.set_cons_succ]
    refine wpAnyH_take (i := 6) (oi := { dst := some 13, op := Op.binOp BinOp.eql 40 (Operand.tmp 11) (Operand.tmp 12) 40, type := 4, pos := "eid.go:151", after := #[{ on := 4, ground := Ground.data }, { on := 5, ground := Ground.data }, { on := 3, ground := Ground.guard }], guard := some (3, false) }) (v := ?_) rfl (by kernel_rfl) (by kernel_rfl) (by kernel_rfl) (fun _ _ _ h => h) (Or.inl ⟨by rfl, ?_⟩) (by assumption) ?_
    rotate_left
    · (intro wS hS; go_simp <;> with_reducible rfl)
    try simp only [Act.put, List.setIfInBounds_toArray, List.set_cons_zero, List.set_cons_succ]
    refine wpAnyH_take (i := 7) (oi := { dst := some 14, op := Op.pick (Operand.tmp 10) (Operand.const (Value.bool true)) (Operand.tmp 13), type := 4, pos := "eid.go:151", after := #[{ on := 3, ground := Ground.data }, { on := 6, ground := Ground.data }], guard := none }) (v := ?_) rfl (by kernel_rfl) (by kernel_rfl) (by kernel_rfl) (fun _ _ _ h => h) (Or.inl ⟨by rfl, ?_⟩) (by assumption) ?_
    rotate_left
    · (intro wS hS; go_simp <;> with_reducible rfl)
    try simp only [Act.put, List.setIfInBounds_toArray, List.set_cons_zero, List.set_cons_succ]
    refine wpAnyH_take (i := 8) (oi := { dst := some 6, op := Op.assign (Operand.tmp 14), type := 4, pos := "eid.go:151", after := #[{ on := 7, ground := Ground.data }, { on := 5, ground := Ground.chain }], guard := none }) (v := ?_) rfl (by kernel_rfl) (by kernel_rfl) (by kernel_rfl) (fun _ _ _ h => h) (Or.inl ⟨by rfl, ?_⟩) (by assumption) ?_
    rotate_left
    · (intro wS hS; go_simp <;> with_reducible rfl)
    try simp only [Act.put, List.setIfInBounds_toArray, List.set_cons_zero, List.set_cons_succ]
    refine wpAnyH_done (by kernel_rfl) ?_ _
    replace hB := hB.trans (below_of hS hB.size)
    go_wp2_with fail
    go_ret
    exact ⟨by rw [HT.out] <;> rfl, hB⟩
  · rw [if_neg (by decide), if_neg hne] at HT
    have hl := named_len hnm
    have h3 : 3 ≤ nm.length := by
      unfold namedF at hnm
      rw [Bool.and_eq_true, decide_eq_true_iff] at hnm
      exact hnm.1.1
    have hne2 : (nm == []) = false := by simpa using hne
    have h3' : (2 : Int) ≤ (nm.length : Int) := by omega
    have hsl : (⟨nm.toArray⟩ : ByteArray).extract 2 nm.length = ⟨(nm.drop 2).toArray⟩ := by
      apply ByteArray.ext
      simp [ByteArray.extract, ByteArray.copySlice]
      exact List.take_of_length_le (by rw [List.length_drop]; omega)
    have KC : ∀ W, LM W → Hid (Calls Tryd.prog 33 #[.string ⟨(nm.drop 2).toArray⟩, .string ⟨#[47]⟩] W fun e w' => e = .returned (.tuple #[.string ⟨(Lib.cut (nm.drop 2) [47]).1.toArray⟩, .string ⟨(Lib.cut (nm.drop 2) [47]).2.1.toArray⟩, .bool (Lib.cut (nm.drop 2) [47]).2.2]) ∧ Below W.heap.size W w') := fun W h => Lib.hid (ecut_any (nm.drop 2) [47] W (by rw [List.length_drop]; omega) h)
    generalize (Lib.cut (nm.drop 2) [47]).1 = u1 at *
    generalize (Lib.cut (nm.drop 2) [47]).2.1 = u2 at *
    generalize (Lib.cut (nm.drop 2) [47]).2.2 = u3 at *
    generalize nm.drop 2 = nd2 at *
    clear h hd hne hnm
    go_enter Tryd.func16, Tryd.ntmps16
    go_upto_region 1 with fail
    generalize w.alloc (.cells #[.int .i64 1, .string ⟨nm.toArray⟩, .int .u64 ((0 : Nat) : Int), .int .u64 ((0 : Nat) : Int)] 40) = w1 at *
    refine wp_region_held (S := fun W => Below (w1).heap.size (w1) W) (by kernel_rfl) ?_
    change wpAnyH _ _ _ _ _ _ _ _ (w1).drew
    have hS : (fun W => Below (w1).heap.size (w1) W) (w1).drew := (Below.refl _ _).drew
    refine wpAnyH_take (i := 0) (oi := { dst := some 7, op := Op.load 40 (Operand.tmp 1), type := 40, pos := "eid.go:151", after := #[], guard := none }) (v := ?_) rfl (by kernel_rfl) (by kernel_rfl) (by kernel_rfl) (fun _ _ _ h => h) (Or.inl ⟨by rfl, ?_⟩) (by assumption) ?_
    rotate_left
    · (intro wS hS; have c0 := cell_below hS c0; have c1 := cell_below hS c1; have c2 := cell_below hS c2; have c3 := cell_below hS c3; go_simp <;> with_reducible rfl)
    try simp only [Act.put, List.setIfInBounds_toArray, List.set_cons_zero, List.set_cons_succ]
    refine wpAnyH_ready (rs := [1]) (by kernel_rfl) (by simp) ?_
    refine AllReadyH.cons (o := { dst := some 8, op := Op.call { callee := Callee.value (Operand.func 15), args := #[Operand.tmp 7], argTypes := #[40] }, type := 4, pos := "eid.go:151", after := #[{ on := 0, ground := Ground.data }], guard := none }) rfl (fun K hK => ?_) AllReadyH.nil
    go_simp
    refine (KR _).out.mono ?_
    rintro e w101 ⟨rfl, hb⟩
    replace hS : (fun W => Below (w1).heap.size (w1) W) w101 := below_then hS hb (Below.size hS)
    refine hK.out _ _ hS (fun _ => ?_)
    clear hK K hb
    try simp only [Act.put, List.setIfInBounds_toArray, List.set_cons_zero, List.set_cons_succ]
    refine wpAnyH_take (i := 2) (oi := { dst := some 9, op := Op.unOp UnOp.not 4 (Operand.tmp 8), type := 4, pos := "eid.go:151", after := #[{ on := 1, ground := Ground.data }], guard := none }) (v := ?_) rfl (by kernel_rfl) (by kernel_rfl) (by kernel_rfl) (fun _ _ _ h => h) (Or.inl ⟨by rfl, ?_⟩) (by assumption) ?_
    rotate_left
    · (intro wS hS; go_simp <;> with_reducible rfl)
    try simp only [Act.put, List.setIfInBounds_toArray, List.set_cons_zero, List.set_cons_succ]
    refine wpAnyH_take (i := 3) (oi := { dst := some 10, op := Op.move (Operand.tmp 9), type := 4, pos := "eid.go:151", after := #[{ on := 2, ground := Ground.data }, { on := 1, ground := Ground.chain }], guard := none }) (v := ?_) rfl (by kernel_rfl) (by kernel_rfl) (by kernel_rfl) (fun _ _ _ h => h) (Or.inl ⟨by rfl, ?_⟩) (by assumption) ?_
    rotate_left
    · (intro wS hS; go_simp <;> with_reducible rfl)
    try simp only [Act.put, List.setIfInBounds_toArray, List.set_cons_zero, List.set_cons_succ]
    refine wpAnyH_take (i := 4) (oi := { dst := some 11, op := Op.load 40 (Operand.tmp 1), type := 40, pos := "eid.go:151", after := #[{ on := 3, ground := Ground.guard }], guard := some (3, false) }) (v := ?_) rfl (by kernel_rfl) (by kernel_rfl) (by kernel_rfl) (fun _ _ _ h => h) (Or.inl ⟨by rfl, ?_⟩) (by assumption) ?_
    rotate_left
    · (intro wS hS; have c0 := cell_below hS c0; have c1 := cell_below hS c1; have c2 := cell_below hS c2; have c3 := cell_below hS c3; go_simp <;> with_reducible rfl)
    try simp only [Act.put, List.setIfInBounds_toArray, List.set_cons_zero, List.set_cons_succ]
    refine wpAnyH_ready (rs := [5]) (by kernel_rfl) (by simp) ?_
    refine AllReadyH.cons (o := { dst := some 12, op := Op.call { callee := Callee.value (Operand.func 30), args := #[], argTypes := #[] }, type := 40, pos := "eid.go:151", after := #[{ on := 3, ground := Ground.chain }, { on := 3, ground := Ground.guard }], guard := some (3, false) }) rfl (fun K hK => ?_) AllReadyH.nil
    go_simp
    refine (enone_any _).mono ?_
    rintro e w105 ⟨rfl, hb⟩
    replace hS : (fun W => Below (w1).heap.size (w1) W) w105 := below_then hS hb (Below.size hS)
    refine hK.out _ _ hS (fun _ => ?_)
    clear hK K hb
    try simp only [Act.put, List.setIfInBounds_toArray, List.set_cons_zero, List.set_cons_succ]
    refine wpAnyH_take (i := 6) (oi := { dst := some 13, op := Op.binOp BinOp.eql 40 (Operand.tmp 11) (Operand.tmp 12) 40, type := 4, pos := "eid.go:151", after := #[{ on := 4, ground := Ground.data }, { on := 5, ground := Ground.data }, { on := 3, ground := Ground.guard }], guard := some (3, false) }) (v := ?_) rfl (by kernel_rfl) (by kernel_rfl) (by kernel_rfl) (fun _ _ _ h => h) (Or.inl ⟨by rfl, ?_⟩) (by assumption) ?_
    rotate_left
    · (intro wS hS; go_simp <;> with_reducible rfl)
    try simp only [Act.put, List.setIfInBounds_toArray, List.set_cons_zero, List.set_cons_succ]
    refine wpAnyH_take (i := 7) (oi := { dst := some 14, op := Op.pick (Operand.tmp 10) (Operand.const (Value.bool true)) (Operand.tmp 13), type := 4, pos := "eid.go:151", after := #[{ on := 3, ground := Ground.data }, { on := 6, ground := Ground.data }], guard := none }) (v := ?_) rfl (by kernel_rfl) (by kernel_rfl) (by kernel_rfl) (fun _ _ _ h => h) (Or.inl ⟨by rfl, ?_⟩) (by assumption) ?_
    rotate_left
    · (intro wS hS; go_simp <;> with_reducible rfl)
    try simp only [Act.put, List.setIfInBounds_toArray, List.set_cons_zero, List.set_cons_succ]
    refine wpAnyH_take (i := 8) (oi := { dst := some 6, op := Op.assign (Operand.tmp 14), type := 4, pos := "eid.go:151", after := #[{ on := 7, ground := Ground.data }, { on := 5, ground := Ground.chain }], guard := none }) (v := ?_) rfl (by kernel_rfl) (by kernel_rfl) (by kernel_rfl) (fun _ _ _ h => h) (Or.inl ⟨by rfl, ?_⟩) (by assumption) ?_
    rotate_left
    · (intro wS hS; go_simp <;> with_reducible rfl)
    try simp only [Act.put, List.setIfInBounds_toArray, List.set_cons_zero, List.set_cons_succ]
    refine wpAnyH_done (by kernel_rfl) ?_ _
    replace hB := hB.trans (below_of hS hB.size)
    replace c0 := cell_below hS c0
    replace c1 := cell_below hS c1
    have HL2 := Lib.hid (HL1.out.below hS)
    clear hS HL1
    go_wp2_with fail
    refine (KC _ HL2.out).out.mono ?_
    rintro e w9 ⟨rfl, hb⟩
    go_wp2_with fail
    go_ret
    exact ⟨by rw [HT.out] <;> rfl, below_trans hB hb⟩
  · rw [if_pos rfl] at HT
    have K1 := fun W => Lib.hid (edigits_any nd W hd)
    generalize digs nd = p at *
    clear h hd
    go_enter Tryd.func16, Tryd.ntmps16
    go_upto_region 1 with fail
    generalize w.alloc (.cells #[.int .i64 2, .string ⟨([] : List UInt8).toArray⟩, .int .u64 (nd : Int), .int .u64 (sv : Int)] 40) = w1 at *
    refine wp_region_held (S := fun W => Below (w1).heap.size (w1) W) (by kernel_rfl) ?_
    change wpAnyH _ _ _ _ _ _ _ _ (w1).drew
    have hS : (fun W => Below (w1).heap.size (w1) W) (w1).drew := (Below.refl _ _).drew
    refine wpAnyH_take (i := 0) (oi := { dst := some 7, op := Op.load 40 (Operand.tmp 1), type := 40, pos := "eid.go:151", after := #[], guard := none }) (v := ?_) rfl (by kernel_rfl) (by kernel_rfl) (by kernel_rfl) (fun _ _ _ h => h) (Or.inl ⟨by rfl, ?_⟩) (by assumption) ?_
    rotate_left
    · (intro wS hS; have c0 := cell_below hS c0; have c1 := cell_below hS c1; have c2 := cell_below hS c2; have c3 := cell_below hS c3; go_simp <;> with_reducible rfl)
    try simp only [Act.put, List.setIfInBounds_toArray, List.set_cons_zero, List.set_cons_succ]
    refine wpAnyH_ready (rs := [1]) (by kernel_rfl) (by simp) ?_
    refine AllReadyH.cons (o := { dst := some 8, op := Op.call { callee := Callee.value (Operand.func 15), args := #[Operand.tmp 7], argTypes := #[40] }, type := 4, pos := "eid.go:151", after := #[{ on := 0, ground := Ground.data }], guard := none }) rfl (fun K hK => ?_) AllReadyH.nil
    go_simp
    refine (KR _).out.mono ?_
    rintro e w101 ⟨rfl, hb⟩
    replace hS : (fun W => Below (w1).heap.size (w1) W) w101 := below_then hS hb (Below.size hS)
    refine hK.out _ _ hS (fun _ => ?_)
    clear hK K hb
    try simp only [Act.put, List.setIfInBounds_toArray, List.set_cons_zero, List.set_cons_succ]
    refine wpAnyH_take (i := 2) (oi := { dst := some 9, op := Op.unOp UnOp.not 4 (Operand.tmp 8), type := 4, pos := "eid.go:151", after := #[{ on := 1, ground := Ground.data }], guard := none }) (v := ?_) rfl (by kernel_rfl) (by kernel_rfl) (by kernel_rfl) (fun _ _ _ h => h) (Or.inl ⟨by rfl, ?_⟩) (by assumption) ?_
    rotate_left
    · (intro wS hS; go_simp <;> with_reducible rfl)
    try simp only [Act.put, List.setIfInBounds_toArray, List.set_cons_zero, List.set_cons_succ]
    refine wpAnyH_take (i := 3) (oi := { dst := some 10, op := Op.move (Operand.tmp 9), type := 4, pos := "eid.go:151", after := #[{ on := 2, ground := Ground.data }, { on := 1, ground := Ground.chain }], guard := none }) (v := ?_) rfl (by kernel_rfl) (by kernel_rfl) (by kernel_rfl) (fun _ _ _ h => h) (Or.inl ⟨by rfl, ?_⟩) (by assumption) ?_
    rotate_left
    · (intro wS hS; go_simp <;> with_reducible rfl)
    try simp only [Act.put, List.setIfInBounds_toArray, List.set_cons_zero, List.set_cons_succ]
    refine wpAnyH_take (i := 4) (oi := { dst := some 11, op := Op.load 40 (Operand.tmp 1), type := 40, pos := "eid.go:151", after := #[{ on := 3, ground := Ground.guard }], guard := some (3, false) }) (v := ?_) rfl (by kernel_rfl) (by kernel_rfl) (by kernel_rfl) (fun _ _ _ h => h) (Or.inl ⟨by rfl, ?_⟩) (by assumption) ?_
    rotate_left
    · (intro wS hS; have c0 := cell_below hS c0; have c1 := cell_below hS c1; have c2 := cell_below hS c2; have c3 := cell_below hS c3; go_simp <;> with_reducible rfl)
    try simp only [Act.put, List.setIfInBounds_toArray, List.set_cons_zero, List.set_cons_succ]
    refine wpAnyH_ready (rs := [5]) (by kernel_rfl) (by simp) ?_
    refine AllReadyH.cons (o := { dst := some 12, op := Op.call { callee := Callee.value (Operand.func 30), args := #[], argTypes := #[] }, type := 40, pos := "eid.go:151", after := #[{ on := 3, ground := Ground.chain }, { on := 3, ground := Ground.guard }], guard := some (3, false) }) rfl (fun K hK => ?_) AllReadyH.nil
    go_simp
    refine (enone_any _).mono ?_
    rintro e w105 ⟨rfl, hb⟩
    replace hS : (fun W => Below (w1).heap.size (w1) W) w105 := below_then hS hb (Below.size hS)
    refine hK.out _ _ hS (fun _ => ?_)
    clear hK K hb
    try simp only [Act.put, List.setIfInBounds_toArray, List.set_cons_zero, List.set_cons_succ]
    refine wpAnyH_take (i := 6) (oi := { dst := some 13, op := Op.binOp BinOp.eql 40 (Operand.tmp 11) (Operand.tmp 12) 40, type := 4, pos := "eid.go:151", after := #[{ on := 4, ground := Ground.data }, { on := 5, ground := Ground.data }, { on := 3, ground := Ground.guard }], guard := some (3, false) }) (v := ?_) rfl (by kernel_rfl) (by kernel_rfl) (by kernel_rfl) (fun _ _ _ h => h) (Or.inl ⟨by rfl, ?_⟩) (by assumption) ?_
    rotate_left
    · (intro wS hS; go_simp <;> with_reducible rfl)
    try simp only [Act.put, List.setIfInBounds_toArray, List.set_cons_zero, List.set_cons_succ]
    refine wpAnyH_take (i := 7) (oi := { dst := some 14, op := Op.pick (Operand.tmp 10) (Operand.const (Value.bool true)) (Operand.tmp 13), type := 4, pos := "eid.go:151", after := #[{ on := 3, ground := Ground.data }, { on := 6, ground := Ground.data }], guard := none }) (v := ?_) rfl (by kernel_rfl) (by kernel_rfl) (by kernel_rfl) (fun _ _ _ h => h) (Or.inl ⟨by rfl, ?_⟩) (by assumption) ?_
    rotate_left
    · (intro wS hS; go_simp <;> with_reducible rfl)
    try simp only [Act.put, List.setIfInBounds_toArray, List.set_cons_zero, List.set_cons_succ]
    refine wpAnyH_take (i := 8) (oi := { dst := some 6, op := Op.assign (Operand.tmp 14), type := 4, pos := "eid.go:151", after := #[{ on := 7, ground := Ground.data }, { on := 5, ground := Ground.chain }], guard := none }) (v := ?_) rfl (by kernel_rfl) (by kernel_rfl) (by kernel_rfl) (fun _ _ _ h => h) (Or.inl ⟨by rfl, ?_⟩) (by assumption) ?_
    rotate_left
    · (intro wS hS; go_simp <;> with_reducible rfl)
    try simp only [Act.put, List.setIfInBounds_toArray, List.set_cons_zero, List.set_cons_succ]
    refine wpAnyH_done (by kernel_rfl) ?_ _
    replace hB := hB.trans (below_of hS hB.size)
    replace c0 := cell_below hS c0
    replace c1 := cell_below hS c1
    replace c2 := cell_below hS c2
    clear hS
    go_wp2_with fail
    refine (K1 _).out.mono ?_
    rintro e w9 ⟨rfl, rfl⟩
    go_wp2_with fail
    go_ret
    exact ⟨by rw [HT.out] <;> rfl, hB⟩
theorem aw7_name : namedF [47, 47, 97, 47, 98] = true := by
  rw [namedF_eq _ (by decide) (by decide)]
  decide
theorem aw7_right : rightE 1 [47, 47, 97, 47, 98] 0 0 = true := by
  unfold rightE
  rw [if_pos rfl, aw7_name]
  rfl
theorem aw7_cut : Lib.cut [97, 47, 98] [47] = ([97], [98], true) := by decide
theorem aw7_cut2 : Lib.cut [53, 46, 49] [46] = ([53], [49], true) := by decide
theorem aw7_text : textE 1 [47, 47, 97, 47, 98] 0 0 = [100, 116, 110, 58, 47, 47, 97, 47, 98] := rfl
theorem aw7_digs (d : Nat) (h : d < 10) : digs d = [UInt8.ofNat (48 + d)] := by rw [digs, if_pos h]
theorem aw7_text2 : textE 2 [] 5 1 = [105, 112, 110, 58, 53, 46, 49] := by
  unfold textE
  rw [if_pos rfl, aw7_digs 5 (by decide), aw7_digs 1 (by decide)]
  rfl
theorem aw7_trim : Lib.trimPrefix [105, 112, 110, 58, 53, 46, 49] [105, 112, 110, 58] = [53, 46, 49] ∧ Lib.hasPrefix [105, 112, 110, 58, 53, 46, 49] [105, 112, 110, 58] = true := by decide

set_option maxRecDepth 100000 in
set_option maxHeartbeats 1000000 in
theorem eparse_51 (w : World) (hL : LM w) : Calls Tryd.prog 17 #[.string ⟨#[105, 112, 110, 58, 53, 46, 49]⟩] w fun e w' => e = .returned (.tuple #[eidV 2 [] 5 1, .int .i64 0]) ∧ Below w.heap.size w w' := by
  obtain ⟨hB, hc⟩ := one_cells w #[.int .i64 0, .string ⟨#[]⟩, .int .u64 0, .int .u64 0] 40
  have hR := alloc_new w (.cells #[.int .i64 0, .string ⟨#[]⟩, .int .u64 0, .int .u64 0] 40 (0, 0))
  have HL1 := Lib.hid (hL.below hB)
  have K1 : ∀ W, Hid (Calls Tryd.prog 34 #[.string ⟨#[105, 112, 110, 58, 53, 46, 49]⟩, .string ⟨#[105, 112, 110, 58]⟩] W fun e w' => e = .returned (.tuple #[.string ⟨#[53, 46, 49]⟩, .bool true]) ∧ W = w') := fun W => Lib.hid ((ecutp_any [105, 112, 110, 58, 53, 46, 49] [105, 112, 110, 58] W).mono (fun e w' h => ⟨by rw [h.1, aw7_trim.1, aw7_trim.2], h.2⟩))
  have KC : ∀ W, LM W → Hid (Calls Tryd.prog 33 #[.string ⟨#[53, 46, 49]⟩, .string ⟨#[46]⟩] W fun e w' => e = .returned (.tuple #[.string ⟨#[53]⟩, .string ⟨#[49]⟩, .bool true]) ∧ Below W.heap.size W w') := fun W h => Lib.hid ((ecut_any [53, 46, 49] [46] W (by decide) h).mono (fun e w' h => ⟨by rw [h.1, aw7_cut2], h.2⟩))
  have KN5 : ∀ W, Hid (Calls Tryd.prog 35 #[.string ⟨#[53]⟩] W fun e w' => e = .returned (.int .u64 5) ∧ Below W.heap.size W w') := fun W => Lib.hid ((enumber_any [53] W (by decide)).mono (fun e w' h => by
    obtain ⟨⟨n, -, hn, rfl⟩, hb⟩ := h
    rw [hn 5 (by decide) rfl]
    exact ⟨rfl, hb⟩))
  have KN1 : ∀ W, Hid (Calls Tryd.prog 35 #[.string ⟨#[49]⟩] W fun e w' => e = .returned (.int .u64 1) ∧ Below W.heap.size W w') := fun W => Lib.hid ((enumber_any [49] W (by decide)).mono (fun e w' h => by
    obtain ⟨⟨n, -, hn, rfl⟩, hb⟩ := h
    rw [hn 1 (by decide) rfl]
    exact ⟨rfl, hb⟩))
  have KT : ∀ W, Hid (Calls Tryd.prog 12 #[eidV 2 [] 5 1] W fun e w' => e = .returned (.tuple #[.string ⟨#[105, 112, 110, 58, 53, 46, 49]⟩, .int .i64 0]) ∧ Below W.heap.size W w') := fun W => Lib.hid ((etext_yes 2 [] 5 1 W rfl (by decide) (by decide)).mono (fun e w' h => ⟨by rw [h.1, aw7_text2], h.2⟩))
  have hlt := heap_lt hR
  clear hc hL
  go_enter Tryd.func17, Tryd.ntmps17
  go_upto_region 1 with fail
  generalize w.alloc (.cells #[.int .i64 0, .string ⟨#[]⟩, .int .u64 0, .int .u64 0] 40) = w1 at *
  go_wp2_with fail
  refine (enone_any _).mono ?_
  rintro e w2 ⟨rfl, hb⟩
  have HL2 := Lib.hid (HL1.out.below hb)
  replace hR := heap_below hb hR
  replace hB := below_trans hB hb
  clear hb HL1
  go_upto_region 2 with fail
  have hC := alloc_new w2 (.cells #[.int .i64 1, .string ⟨([] : List UInt8).toArray⟩, .int .u64 0, .int .u64 0] 40 (0, 0))
  have hbA := (one_cells w2 #[.int .i64 1, .string ⟨([] : List UInt8).toArray⟩, .int .u64 0, .int .u64 0] 40).1
  have HL3 := Lib.hid (HL2.out.below hbA)
  have hgs : w.heap.size < w2.heap.size := heap_lt hR
  replace hR := heap_below hbA hR
  replace hB := below_trans hB hbA
  clear HL2 hbA
  generalize w2.alloc (.cells #[.int .i64 1, .string ⟨([] : List UInt8).toArray⟩, .int .u64 0, .int .u64 0] 40) = w3 at *
  generalize w2.heap.size = g4 at *
  go_wp2_with fail
  refine (K1 _).out.mono ?_
  rintro e w4 ⟨rfl, rfl⟩
  go_wp2_with fail
  refine (KC _ HL3.out).out.mono ?_
  rintro e w5 ⟨rfl, hb⟩
  replace hR := heap_below hb hR
  replace hC := heap_below hb hC
  replace hB := below_trans hB hb
  clear hb HL3 K1 KC
  go_wp2_with fail
  refine (KN5 _).out.mono ?_
  rintro e w6 ⟨rfl, hb⟩
  replace hR := heap_below hb hR
  replace hC := heap_below hb hC
  replace hB := below_trans hB hb
  clear hb
  go_wp2_with fail
  refine (KN1 _).out.mono ?_
  rintro e w7 ⟨rfl, hb⟩
  replace hR := heap_below hb hR
  replace hC := heap_below hb hC
  replace hB := below_trans hB hb
  clear hb
  obtain ⟨⟨y0, y1, y2, y3⟩, k0, k1, k2, k3⟩ := four_cells hC
  go_upto_region 8 with fail
  have hC2 := four_heap hC (.int .i64 2) (.string ⟨([] : List UInt8).toArray⟩) (.int .u64 5) (.int .u64 1)
  have hG := four_gb w7 g4 (.int .i64 2) (.string ⟨([] : List UInt8).toArray⟩) (.int .u64 5) (.int .u64 1)
  have hR2 := gb_heap hG hR (by simp; omega)
  have hB2 := below_gbw hG hB (by omega)
  generalize ((((w7.setCell ⟨g4, 0, none⟩ (.int .i64 2)).setCell ⟨g4, 1, none⟩ (.string ⟨([] : List UInt8).toArray⟩)).setCell ⟨g4, 2, none⟩ (.int .u64 5)).setCell ⟨g4, 3, none⟩ (.int .u64 1)) = wz at *
  clear hC hG hR hB y0 y1 y2 y3 k0 k1 k2 k3
  have hC := hC2
  have hR := hR2
  have hB := hB2
  clear hC2 hR2 hB2
  obtain ⟨⟨q0, q1, q2, q3⟩, -⟩ := four_cells hC
  go_wp2_with fail
  refine (KT _).out.mono ?_
  rintro e w8 ⟨rfl, hb⟩
  replace hR := heap_below hb hR
  replace hC := heap_below hb hC
  replace hB := below_trans hB hb
  clear hb q0 q1 q2 q3
  obtain ⟨⟨q0, q1, q2, q3⟩, -⟩ := four_cells hC
  obtain ⟨⟨z0, z1, z2, z3⟩, f0, f1, f2, f3⟩ := four_cells hR
  go_wp2_with fail
  have hh9 := four_heap hR (.int .i64 2) (.string ⟨([] : List UInt8).toArray⟩) (.int .u64 5) (.int .u64 1)
  have hB9 := below_gbw (four_gb w8 w.heap.size (.int .i64 2) (.string ⟨([] : List UInt8).toArray⟩) (.int .u64 5) (.int .u64 1)) hB (Nat.le_refl _)
  obtain ⟨⟨r0, r1, r2, r3⟩, -⟩ := four_cells hh9
  refine bodyPost_ret (v := .tuple #[eidV 2 [] 5 1, .int .i64 0]) ?_ rfl ⟨rfl, hB9⟩
  simp [results, Tryd.results17, go_sem, r0, r1, r2, r3]
end Go.Proofs.YtieigjlbjiielaaDoor
