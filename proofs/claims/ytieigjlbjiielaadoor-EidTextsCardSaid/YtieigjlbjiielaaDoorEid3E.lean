/- Contracts of eid.Text and of the reference's Right and Text. No condition but the kinds' bounds. -/
import Derived.Test.YtieigjlbjiielaaDoorEid2E
namespace Go.Proofs.YtieigjlbjiielaaDoor
open Go.RowKit

def textE (sc : Int) (nm : List UInt8) (nd sv : Nat) : List UInt8 :=
  if sc = 2 then [105, 112, 110, 58] ++ digs nd ++ [46] ++ digs sv else if nm = [] then [100, 116, 110, 58, 110, 111, 110, 101] else [100, 116, 110, 58] ++ nm
theorem named_len {nm : List UInt8} (h : namedF nm = true) : nm.length ≤ 64 := by
  unfold namedF at h
  rw [Bool.and_eq_true, decide_eq_true_iff] at h
  exact h.1.2
theorem right_cases {sc : Int} {nm : List UInt8} {nd sv : Nat} (h : rightE sc nm nd sv = true) : (sc = 1 ∧ nd = 0 ∧ sv = 0 ∧ nm = []) ∨ (sc = 1 ∧ nd = 0 ∧ sv = 0 ∧ nm ≠ [] ∧ namedF nm = true) ∨ (sc = 2 ∧ nm = []) := by
  unfold rightE at h
  split at h
  · rename_i h1
    rw [Bool.and_eq_true, decide_eq_true_iff, Bool.or_eq_true] at h
    obtain ⟨⟨h2, h3⟩, h4⟩ := h
    by_cases hn : nm = []
    · exact .inl ⟨h1, h2, h3, hn⟩
    · rcases h4 with h4 | h4
      · exact absurd (List.isEmpty_iff.1 h4) hn
      · exact .inr (.inl ⟨h1, h2, h3, hn, h4⟩)
  · split at h
    · rename_i h2
      exact .inr (.inr ⟨h2, List.isEmpty_iff.1 h⟩)
    · cases h

set_option maxRecDepth 100000 in
theorem etext_no (sc : Int) (nm : List UInt8) (nd sv : Nat) (w : World) (h : rightE sc nm nd sv = false) : Calls Tryd.prog 12 #[eidV sc nm nd sv] w fun e w' => e = .returned (.tuple #[.string ⟨#[]⟩, .int .i64 2]) ∧ Below w.heap.size w w' := by
  obtain ⟨hB, c0, c1, c2, c3⟩ := eid_cells w sc nm nd sv
  have KR := fun W => Lib.hid (eright_any sc nm nd sv W)
  rw [h] at KR
  clear h
  go_enter Tryd.func12, Tryd.ntmps12
  go_wp2_with fail
  refine (KR _).out.mono ?_
  rintro e w1 ⟨rfl, hb⟩
  go_wp2_with fail
  go_ret2
  exact ⟨rfl, below_trans hB hb⟩

set_option maxRecDepth 100000 in
set_option maxHeartbeats 1000000 in
theorem etext_yes (sc : Int) (nm : List UInt8) (nd sv : Nat) (w : World) (h : rightE sc nm nd sv = true) (hd : nd < 18446744073709551616) (hs : sv < 18446744073709551616) : Calls Tryd.prog 12 #[eidV sc nm nd sv] w fun e w' => e = .returned (.tuple #[.string ⟨(textE sc nm nd sv).toArray⟩, .int .i64 0]) ∧ Below w.heap.size w w' := by
  obtain ⟨hB, c0, c1, c2, c3⟩ := eid_cells w sc nm nd sv
  have KR := fun W => Lib.hid (eright_any sc nm nd sv W)
  rw [h] at KR
  have HT : Hid (textE sc nm nd sv = if sc = 2 then [105, 112, 110, 58] ++ digs nd ++ [46] ++ digs sv else if nm = [] then [100, 116, 110, 58, 110, 111, 110, 101] else [100, 116, 110, 58] ++ nm) := rfl
  rcases right_cases h with ⟨rfl, rfl, rfl, rfl⟩ | ⟨rfl, rfl, rfl, hne, hnm⟩ | ⟨rfl, rfl⟩
  · rw [if_neg (by decide), if_pos rfl] at HT
    clear h hd hs
    go_enter Tryd.func12, Tryd.ntmps12
    go_upto_region 1 with fail
    generalize w.alloc (.cells #[.int .i64 1, .string ⟨([] : List UInt8).toArray⟩, .int .u64 ((0 : Nat) : Int), .int .u64 ((0 : Nat) : Int)] 40) = w0 at *
    go_wp2_with fail
    refine (KR _).out.mono ?_
    rintro e w1 ⟨rfl, hb⟩
    replace c0 := cell_below hb c0
    replace c1 := cell_below hb c1
    replace c2 := cell_below hb c2
    replace c3 := cell_below hb c3
    replace hB := below_trans hB hb
    clear hb KR
    go_wp2_with fail
    refine wp_region_held (S := fun W => Below (w1).heap.size (w1) W) (by kernel_rfl) ?_
    change wpAnyH _ _ _ _ _ _ _ _ (w1).drew
    have hS : (fun W => Below (w1).heap.size (w1) W) (w1).drew := (Below.refl _ _).drew
    refine wpAnyH_take (i := 0) (oi := { dst := some 9, op := Op.load 40 (Operand.tmp 1), type := 40, pos := "eid.go:58", after := #[], guard := none }) (v := ?_) rfl (by kernel_rfl) (by kernel_rfl) (by kernel_rfl) (fun _ _ _ h => h) (Or.inl ⟨by rfl, ?_⟩) (by assumption) ?_
    rotate_left
    · (intro wS hS; have c0 := cell_below hS c0; have c1 := cell_below hS c1; have c2 := cell_below hS c2; have c3 := cell_below hS c3; go_simp <;> with_reducible rfl)
    try simp only [Act.put, List.setIfInBounds_toArray, List.set_cons_zero, List.set_cons_succ]
    refine wpAnyH_ready (rs := [1]) (by kernel_rfl) (by simp) ?_
    refine AllReadyH.cons (o := { dst := some 10, op := Op.call { callee := Callee.value (Operand.func 30), args := #[], argTypes := #[] }, type := 40, pos := "eid.go:58", after := #[], guard := none }) rfl (fun K hK => ?_) AllReadyH.nil
    go_simp
    refine (enone_any _).mono ?_
    rintro e w101 ⟨rfl, hb⟩
    replace hS : (fun W => Below (w1).heap.size (w1) W) w101 := below_then hS hb (Below.size hS)
    refine hK.out _ _ hS (fun _ => ?_)
    clear hK K hb
    try simp only [Act.put, List.setIfInBounds_toArray, List.set_cons_zero, List.set_cons_succ]
    refine wpAnyH_take (i := 2) (oi := { dst := some 11, op := Op.binOp BinOp.eql 40 (Operand.tmp 9) (Operand.tmp 10) 40, type := 4, pos := "eid.go:58", after := #[{ on := 0, ground := Ground.data }, { on := 1, ground := Ground.data }], guard := none }) (v := ?_) rfl (by kernel_rfl) (by kernel_rfl) (by kernel_rfl) (fun _ _ _ h => h) (Or.inl ⟨by rfl, ?_⟩) (by assumption) ?_
    rotate_left
    · (intro wS hS; go_simp <;> with_reducible rfl)
    try simp only [Act.put, List.setIfInBounds_toArray, List.set_cons_zero, List.set_cons_succ]
    refine wpAnyH_take (i := 3) (oi := { dst := some 8, op := Op.assign (Operand.tmp 11), type := 4, pos := "eid.go:58", after := #[{ on := 2, ground := Ground.data }, { on := 1, ground := Ground.chain }], guard := none }) (v := ?_) rfl (by kernel_rfl) (by kernel_rfl) (by kernel_rfl) (fun _ _ _ h => h) (Or.inl ⟨by rfl, ?_⟩) (by assumption) ?_
    rotate_left
    · (intro wS hS; go_simp <;> with_reducible rfl)
    try simp only [Act.put, List.setIfInBounds_toArray, List.set_cons_zero, List.set_cons_succ]
    refine wpAnyH_done (by kernel_rfl) ?_ _
    replace hB := hB.trans (below_of hS hB.size)
    go_wp2_with fail
    go_ret2
    exact ⟨by rw [HT.out] <;> rfl, hB⟩
  · rw [if_neg (by decide), if_neg hne] at HT
    have hl := named_len hnm
    have hl2 : ¬ (9223372036854775807 < [(100 : UInt8), 116, 110, 58].length + nm.length) := by simp; omega
    have hl3 : ¬ (9223372036854775807 < 4 + nm.length) := by omega
    obtain ⟨b, r, rfl⟩ : ∃ b r, nm = b :: r := by
      cases nm with
      | nil => exact absurd rfl hne
      | cons b r => exact ⟨b, r, rfl⟩
    have hne2 : ((b :: r : List UInt8) == []) = false := rfl
    clear h hd hs hne hnm hl
    go_enter Tryd.func12, Tryd.ntmps12
    go_upto_region 1 with fail
    generalize w.alloc (.cells #[.int .i64 1, .string ⟨(b :: r : List UInt8).toArray⟩, .int .u64 ((0 : Nat) : Int), .int .u64 ((0 : Nat) : Int)] 40) = w0 at *
    go_wp2_with fail
    refine (KR _).out.mono ?_
    rintro e w1 ⟨rfl, hb⟩
    replace c0 := cell_below hb c0
    replace c1 := cell_below hb c1
    replace c2 := cell_below hb c2
    replace c3 := cell_below hb c3
    replace hB := below_trans hB hb
    clear hb KR
    go_wp2_with fail
    refine wp_region_held (S := fun W => Below (w1).heap.size (w1) W) (by kernel_rfl) ?_
    change wpAnyH _ _ _ _ _ _ _ _ (w1).drew
    have hS : (fun W => Below (w1).heap.size (w1) W) (w1).drew := (Below.refl _ _).drew
    refine wpAnyH_take (i := 0) (oi := { dst := some 9, op := Op.load 40 (Operand.tmp 1), type := 40, pos := "eid.go:58", after := #[], guard := none }) (v := ?_) rfl (by kernel_rfl) (by kernel_rfl) (by kernel_rfl) (fun _ _ _ h => h) (Or.inl ⟨by rfl, ?_⟩) (by assumption) ?_
    rotate_left
    · (intro wS hS; have c0 := cell_below hS c0; have c1 := cell_below hS c1; have c2 := cell_below hS c2; have c3 := cell_below hS c3; go_simp <;> with_reducible rfl)
    try simp only [Act.put, List.setIfInBounds_toArray, List.set_cons_zero, List.set_cons_succ]
    refine wpAnyH_ready (rs := [1]) (by kernel_rfl) (by simp) ?_
    refine AllReadyH.cons (o := { dst := some 10, op := Op.call { callee := Callee.value (Operand.func 30), args := #[], argTypes := #[] }, type := 40, pos := "eid.go:58", after := #[], guard := none }) rfl (fun K hK => ?_) AllReadyH.nil
    go_simp
    refine (enone_any _).mono ?_
    rintro e w101 ⟨rfl, hb⟩
    replace hS : (fun W => Below (w1).heap.size (w1) W) w101 := below_then hS hb (Below.size hS)
    refine hK.out _ _ hS (fun _ => ?_)
    clear hK K hb
    try simp only [Act.put, List.setIfInBounds_toArray, List.set_cons_zero, List.set_cons_succ]
    refine wpAnyH_take (i := 2) (oi := { dst := some 11, op := Op.binOp BinOp.eql 40 (Operand.tmp 9) (Operand.tmp 10) 40, type := 4, pos := "eid.go:58", after := #[{ on := 0, ground := Ground.data }, { on := 1, ground := Ground.data }], guard := none }) (v := ?_) rfl (by kernel_rfl) (by kernel_rfl) (by kernel_rfl) (fun _ _ _ h => h) (Or.inl ⟨by rfl, ?_⟩) (by assumption) ?_
    rotate_left
    · (intro wS hS; go_simp <;> with_reducible rfl)
    try simp only [Act.put, List.setIfInBounds_toArray, List.set_cons_zero, List.set_cons_succ]
    refine wpAnyH_take (i := 3) (oi := { dst := some 8, op := Op.assign (Operand.tmp 11), type := 4, pos := "eid.go:58", after := #[{ on := 2, ground := Ground.data }, { on := 1, ground := Ground.chain }], guard := none }) (v := ?_) rfl (by kernel_rfl) (by kernel_rfl) (by kernel_rfl) (fun _ _ _ h => h) (Or.inl ⟨by rfl, ?_⟩) (by assumption) ?_
    rotate_left
    · (intro wS hS; go_simp <;> with_reducible rfl)
    try simp only [Act.put, List.setIfInBounds_toArray, List.set_cons_zero, List.set_cons_succ]
    refine wpAnyH_done (by kernel_rfl) ?_ _
    replace hB := hB.trans (below_of hS hB.size)
    replace c0 := cell_below hS c0
    replace c1 := cell_below hS c1
    clear hS
    go_wp2_with fail
    rw [show (⟨#[100, 116, 110, 58]⟩ : ByteArray) ++ ⟨(b :: r).toArray⟩ = ⟨([100, 116, 110, 58] ++ b :: r).toArray⟩ from cat_bytes _ _]
    go_ret2
    exact ⟨by rw [HT.out] <;> rfl, hB⟩
  · rw [if_pos rfl] at HT
    have l1 := digs_len hd
    have l2 := digs_len hs
    have K1 := fun W => Lib.hid (edigits_any nd W hd)
    have K2 := fun W => Lib.hid (edigits_any sv W hs)
    clear h hd hs
    generalize digs nd = p at *
    generalize digs sv = q at *
    have f1 : ¬ (9223372036854775807 < 4 + p.length) := by omega
    have f2 : ¬ (9223372036854775807 < 4 + p.length + 1) := by omega
    have f3 : ¬ (9223372036854775807 < 4 + p.length + 1 + q.length) := by omega
    go_enter Tryd.func12, Tryd.ntmps12
    go_upto_region 1 with fail
    generalize w.alloc (.cells #[.int .i64 2, .string ⟨([] : List UInt8).toArray⟩, .int .u64 (nd : Int), .int .u64 (sv : Int)] 40) = w0 at *
    go_wp2_with fail
    refine (KR _).out.mono ?_
    rintro e w1 ⟨rfl, hb⟩
    replace c0 := cell_below hb c0
    replace c1 := cell_below hb c1
    replace c2 := cell_below hb c2
    replace c3 := cell_below hb c3
    replace hB := below_trans hB hb
    clear hb KR
    go_wp2_with fail
    refine wp_region_held (S := fun W => Below (w1).heap.size (w1) W) (by kernel_rfl) ?_
    change wpAnyH _ _ _ _ _ _ _ _ (w1).drew
    have hS : (fun W => Below (w1).heap.size (w1) W) (w1).drew := (Below.refl _ _).drew
    refine wpAnyH_take (i := 0) (oi := { dst := some 9, op := Op.load 40 (Operand.tmp 1), type := 40, pos := "eid.go:58", after := #[], guard := none }) (v := ?_) rfl (by kernel_rfl) (by kernel_rfl) (by kernel_rfl) (fun _ _ _ h => h) (Or.inl ⟨by rfl, ?_⟩) (by assumption) ?_
    rotate_left
    · (intro wS hS; have c0 := cell_below hS c0; have c1 := cell_below hS c1; have c2 := cell_below hS c2; have c3 := cell_below hS c3; go_simp <;> with_reducible rfl)
    try simp only [Act.put, List.setIfInBounds_toArray, List.set_cons_zero, List.set_cons_succ]
    refine wpAnyH_ready (rs := [1]) (by kernel_rfl) (by simp) ?_
    refine AllReadyH.cons (o := { dst := some 10, op := Op.call { callee := Callee.value (Operand.func 30), args := #[], argTypes := #[] }, type := 40, pos := "eid.go:58", after := #[], guard := none }) rfl (fun K hK => ?_) AllReadyH.nil
    go_simp
    refine (enone_any _).mono ?_
    rintro e w101 ⟨rfl, hb⟩
    replace hS : (fun W => Below (w1).heap.size (w1) W) w101 := below_then hS hb (Below.size hS)
    refine hK.out _ _ hS (fun _ => ?_)
    clear hK K hb
    try simp only [Act.put, List.setIfInBounds_toArray, List.set_cons_zero, List.set_cons_succ]
    refine wpAnyH_take (i := 2) (oi := { dst := some 11, op := Op.binOp BinOp.eql 40 (Operand.tmp 9) (Operand.tmp 10) 40, type := 4, pos := "eid.go:58", after := #[{ on := 0, ground := Ground.data }, { on := 1, ground := Ground.data }], guard := none }) (v := ?_) rfl (by kernel_rfl) (by kernel_rfl) (by kernel_rfl) (fun _ _ _ h => h) (Or.inl ⟨by rfl, ?_⟩) (by assumption) ?_
    rotate_left
    · (intro wS hS; go_simp <;> with_reducible rfl)
    try simp only [Act.put, List.setIfInBounds_toArray, List.set_cons_zero, List.set_cons_succ]
    refine wpAnyH_take (i := 3) (oi := { dst := some 8, op := Op.assign (Operand.tmp 11), type := 4, pos := "eid.go:58", after := #[{ on := 2, ground := Ground.data }, { on := 1, ground := Ground.chain }], guard := none }) (v := ?_) rfl (by kernel_rfl) (by kernel_rfl) (by kernel_rfl) (fun _ _ _ h => h) (Or.inl ⟨by rfl, ?_⟩) (by assumption) ?_
    rotate_left
    · (intro wS hS; go_simp <;> with_reducible rfl)
    try simp only [Act.put, List.setIfInBounds_toArray, List.set_cons_zero, List.set_cons_succ]
    refine wpAnyH_done (by kernel_rfl) ?_ _
    replace hB := hB.trans (below_of hS hB.size)
    replace c0 := cell_below hS c0
    replace c1 := cell_below hS c1
    replace c2 := cell_below hS c2
    replace c3 := cell_below hS c3
    clear hS
    go_wp2_with fail
    generalize w101 = wz at *
    refine wp_region_held (S := fun W => Below (wz).heap.size (wz) W) (by kernel_rfl) ?_
    change wpAnyH _ _ _ _ _ _ _ _ (wz).drew
    have hS : (fun W => Below (wz).heap.size (wz) W) (wz).drew := (Below.refl _ _).drew
    refine wpAnyH_take (i := 0) (oi := { dst := some 19, op := Op.fieldAddr 40 (Operand.tmp 1) 2, type := 0, pos := "eid.go:63", after := #[], guard := none }) (v := ?_) rfl (by kernel_rfl) (by kernel_rfl) (by kernel_rfl) (fun _ _ _ h => h) (Or.inl ⟨by rfl, ?_⟩) (by assumption) ?_
    rotate_left
    · (intro wS hS; go_simp <;> with_reducible rfl)
    try simp only [Act.put, List.setIfInBounds_toArray, List.set_cons_zero, List.set_cons_succ]
    refine wpAnyH_take (i := 1) (oi := { dst := some 20, op := Op.load 22 (Operand.tmp 19), type := 22, pos := "eid.go:63", after := #[{ on := 0, ground := Ground.data }], guard := none }) (v := ?_) rfl (by kernel_rfl) (by kernel_rfl) (by kernel_rfl) (fun _ _ _ h => h) (Or.inl ⟨by rfl, ?_⟩) (by assumption) ?_
    rotate_left
    · (intro wS hS; have c2 := cell_below hS c2; have c3 := cell_below hS c3; go_simp <;> with_reducible rfl)
    try simp only [Act.put, List.setIfInBounds_toArray, List.set_cons_zero, List.set_cons_succ]
    refine wpAnyH_take (i := 5) (oi := { dst := some 24, op := Op.fieldAddr 40 (Operand.tmp 1) 3, type := 0, pos := "eid.go:63", after := #[], guard := none }) (v := ?_) rfl (by kernel_rfl) (by kernel_rfl) (by kernel_rfl) (fun _ _ _ h => h) (Or.inl ⟨by rfl, ?_⟩) (by assumption) ?_
    rotate_left
    · (intro wS hS; go_simp <;> with_reducible rfl)
    try simp only [Act.put, List.setIfInBounds_toArray, List.set_cons_zero, List.set_cons_succ]
    refine wpAnyH_take (i := 6) (oi := { dst := some 25, op := Op.load 22 (Operand.tmp 24), type := 22, pos := "eid.go:63", after := #[{ on := 5, ground := Ground.data }], guard := none }) (v := ?_) rfl (by kernel_rfl) (by kernel_rfl) (by kernel_rfl) (fun _ _ _ h => h) (Or.inl ⟨by rfl, ?_⟩) (by assumption) ?_
    rotate_left
    · (intro wS hS; have c2 := cell_below hS c2; have c3 := cell_below hS c3; go_simp <;> with_reducible rfl)
    try simp only [Act.put, List.setIfInBounds_toArray, List.set_cons_zero, List.set_cons_succ]
    refine wpAnyH_ready (rs := [2]) (by kernel_rfl) (by simp) ?_
    refine AllReadyH.cons (o := { dst := some 21, op := Op.call { callee := Callee.value (Operand.func 31), args := #[Operand.tmp 20], argTypes := #[22] }, type := 9, pos := "eid.go:63", after := #[{ on := 1, ground := Ground.data }], guard := none }) rfl (fun K hK => ?_) AllReadyH.nil
    go_simp
    refine (K1 _).out.mono ?_
    rintro e w102 ⟨rfl, rfl⟩
    refine hK.out _ _ hS (fun _ => ?_)
    clear hK K
    try simp only [Act.put, List.setIfInBounds_toArray, List.set_cons_zero, List.set_cons_succ]
    refine wpAnyH_take (i := 3) (oi := { dst := some 22, op := Op.binOp BinOp.add 9 (Operand.const (Value.string { data := #[105, 112, 110, 58] })) (Operand.tmp 21) 9, type := 9, pos := "eid.go:63", after := #[{ on := 2, ground := Ground.data }], guard := none }) (v := ?_) rfl (by kernel_rfl) (by kernel_rfl) (by kernel_rfl) (fun _ _ _ h => h) (Or.inl ⟨by rfl, ?_⟩) (by assumption) ?_
    rotate_left
    · (intro wS hS; go_simp <;> with_reducible rfl)
    try simp only [Act.put, List.setIfInBounds_toArray, List.set_cons_zero, List.set_cons_succ]
    refine wpAnyH_take (i := 4) (oi := { dst := some 23, op := Op.binOp BinOp.add 9 (Operand.tmp 22) (Operand.const (Value.string { data := #[46] })) 9, type := 9, pos := "eid.go:63", after := #[{ on := 3, ground := Ground.data }], guard := none }) (v := ?_) rfl (by kernel_rfl) (by kernel_rfl) (by kernel_rfl) (fun _ _ _ h => h) (Or.inl ⟨by rfl, ?_⟩) (by assumption) ?_
    rotate_left
    · (intro wS hS; go_simp <;> with_reducible rfl)
    try simp only [Act.put, List.setIfInBounds_toArray, List.set_cons_zero, List.set_cons_succ]
    refine wpAnyH_ready (rs := [7]) (by kernel_rfl) (by simp) ?_
    refine AllReadyH.cons (o := { dst := some 26, op := Op.call { callee := Callee.value (Operand.func 31), args := #[Operand.tmp 25], argTypes := #[22] }, type := 9, pos := "eid.go:63", after := #[{ on := 6, ground := Ground.data }, { on := 2, ground := Ground.chain }], guard := none }) rfl (fun K hK => ?_) AllReadyH.nil
    go_simp
    refine (K2 _).out.mono ?_
    rintro e w107 ⟨rfl, rfl⟩
    refine hK.out _ _ hS (fun _ => ?_)
    clear hK K
    try simp only [Act.put, List.setIfInBounds_toArray, List.set_cons_zero, List.set_cons_succ]
    refine wpAnyH_take (i := 8) (oi := { dst := some 27, op := Op.binOp BinOp.add 9 (Operand.tmp 23) (Operand.tmp 26) 9, type := 9, pos := "eid.go:63", after := #[{ on := 4, ground := Ground.data }, { on := 7, ground := Ground.data }], guard := none }) (v := ?_) rfl (by kernel_rfl) (by kernel_rfl) (by kernel_rfl) (fun _ _ _ h => h) (Or.inl ⟨by rfl, ?_⟩) (by assumption) ?_
    rotate_left
    · (intro wS hS; go_simp <;> with_reducible rfl)
    try simp only [Act.put, List.setIfInBounds_toArray, List.set_cons_zero, List.set_cons_succ]
    refine wpAnyH_take (i := 9) (oi := { dst := some 2, op := Op.assign (Operand.tmp 27), type := 9, pos := "eid.go:63", after := #[{ on := 8, ground := Ground.data }, { on := 7, ground := Ground.chain }, { on := 0, ground := Ground.phase }, { on := 1, ground := Ground.phase }, { on := 2, ground := Ground.phase }, { on := 3, ground := Ground.phase }, { on := 4, ground := Ground.phase }, { on := 5, ground := Ground.phase }, { on := 6, ground := Ground.phase }, { on := 7, ground := Ground.phase }, { on := 8, ground := Ground.phase }], guard := none }) (v := ?_) rfl (by kernel_rfl) (by kernel_rfl) (by kernel_rfl) (fun _ _ _ h => h) (Or.inl ⟨by rfl, ?_⟩) (by assumption) ?_
    rotate_left
    · (intro wS hS; go_simp <;> with_reducible rfl)
    try simp only [Act.put, List.setIfInBounds_toArray, List.set_cons_zero, List.set_cons_succ]
    refine wpAnyH_take (i := 10) (oi := { dst := some 3, op := Op.assign (Operand.const (Value.int IntKind.i64 0)), type := 32, pos := "eid.go:63", after := #[{ on := 9, ground := Ground.chain }, { on := 0, ground := Ground.phase }, { on := 1, ground := Ground.phase }, { on := 2, ground := Ground.phase }, { on := 3, ground := Ground.phase }, { on := 4, ground := Ground.phase }, { on := 5, ground := Ground.phase }, { on := 6, ground := Ground.phase }, { on := 7, ground := Ground.phase }, { on := 8, ground := Ground.phase }, { on := 9, ground := Ground.phase }], guard := none }) (v := ?_) rfl (by kernel_rfl) (by kernel_rfl) (by kernel_rfl) (fun _ _ _ h => h) (Or.inl ⟨by rfl, ?_⟩) (by assumption) ?_
    rotate_left
    · (intro wS hS; go_simp <;> with_reducible rfl)
    try simp only [Act.put, List.setIfInBounds_toArray, List.set_cons_zero, List.set_cons_succ]
    refine wpAnyH_done (by kernel_rfl) ?_ _
    replace hB := hB.trans (below_of hS hB.size)
    go_wp2_with fail
    go_ret2
    have hcat : ∀ xs ys : List UInt8, (⟨xs.toArray⟩ : ByteArray) ++ ⟨ys.toArray⟩ = ⟨(xs ++ ys).toArray⟩ := cat_bytes
    refine ⟨?_, hB⟩
    rw [HT.out, show (⟨#[105, 112, 110, 58]⟩ : ByteArray) = ⟨([105, 112, 110, 58] : List UInt8).toArray⟩ from rfl, show (⟨#[46]⟩ : ByteArray) = ⟨([46] : List UInt8).toArray⟩ from rfl]
    simp only [hcat, List.append_assoc]
    rfl

set_option maxRecDepth 100000 in
set_option maxHeartbeats 1000000 in
theorem rtext_yes (sc : Int) (nm : List UInt8) (nd sv : Nat) (w : World) (hd : nd < 18446744073709551616) (hs : sv < 18446744073709551616) (hn : nm.length ≤ 1000) : Calls Tryd.prog 19 #[eidV sc nm nd sv] w fun e w' => e = .returned (.string ⟨(textE sc nm nd sv).toArray⟩) ∧ Below w.heap.size w w' := by
  obtain ⟨hB, c0, c1, c2, c3⟩ := eid_cells w sc nm nd sv
  have HT : Hid (textE sc nm nd sv = if sc = 2 then [105, 112, 110, 58] ++ digs nd ++ [46] ++ digs sv else if nm = [] then [100, 116, 110, 58, 110, 111, 110, 101] else [100, 116, 110, 58] ++ nm) := rfl
  by_cases h2 : sc = 2
  · rw [if_pos h2] at HT
    subst h2
    have l1 := digs_len hd
    have l2 := digs_len hs
    have K1 := fun W => Lib.hid (digits7_any nd W hd)
    have K2 := fun W => Lib.hid (digits7_any sv W hs)
    clear hd hs
    generalize digs nd = p at *
    generalize digs sv = q at *
    have f1 : ¬ (9223372036854775807 < 4 + p.length) := by omega
    have f2 : ¬ (9223372036854775807 < 4 + p.length + 1) := by omega
    have f3 : ¬ (9223372036854775807 < 4 + p.length + 1 + q.length) := by omega
    go_enter Tryd.func19, Tryd.ntmps19
    go_upto_region 1 with fail
    generalize w.alloc (.cells #[.int .i64 2, .string ⟨nm.toArray⟩, .int .u64 (nd : Int), .int .u64 (sv : Int)] 40) = w1 at *
    go_wp2_with fail
    refine wp_region_held (S := fun W => Below (w1).heap.size (w1) W) (by kernel_rfl) ?_
    change wpAnyH _ _ _ _ _ _ _ _ (w1).drew
    have hS : (fun W => Below (w1).heap.size (w1) W) (w1).drew := (Below.refl _ _).drew
    refine wpAnyH_take (i := 0) (oi := { dst := some 6, op := Op.fieldAddr 40 (Operand.tmp 1) 2, type := 0, pos := "ref.go:43", after := #[], guard := none }) (v := ?_) rfl (by kernel_rfl) (by kernel_rfl) (by kernel_rfl) (fun _ _ _ h => h) (Or.inl ⟨by rfl, ?_⟩) (by assumption) ?_
    rotate_left
    · (intro wS hS; go_simp <;> with_reducible rfl)
    try simp only [Act.put, List.setIfInBounds_toArray, List.set_cons_zero, List.set_cons_succ]
    refine wpAnyH_take (i := 1) (oi := { dst := some 7, op := Op.load 22 (Operand.tmp 6), type := 22, pos := "ref.go:43", after := #[{ on := 0, ground := Ground.data }], guard := none }) (v := ?_) rfl (by kernel_rfl) (by kernel_rfl) (by kernel_rfl) (fun _ _ _ h => h) (Or.inl ⟨by rfl, ?_⟩) (by assumption) ?_
    rotate_left
    · (intro wS hS; have c2 := cell_below hS c2; have c3 := cell_below hS c3; go_simp <;> with_reducible rfl)
    try simp only [Act.put, List.setIfInBounds_toArray, List.set_cons_zero, List.set_cons_succ]
    refine wpAnyH_take (i := 5) (oi := { dst := some 11, op := Op.fieldAddr 40 (Operand.tmp 1) 3, type := 0, pos := "ref.go:43", after := #[], guard := none }) (v := ?_) rfl (by kernel_rfl) (by kernel_rfl) (by kernel_rfl) (fun _ _ _ h => h) (Or.inl ⟨by rfl, ?_⟩) (by assumption) ?_
    rotate_left
    · (intro wS hS; go_simp <;> with_reducible rfl)
    try simp only [Act.put, List.setIfInBounds_toArray, List.set_cons_zero, List.set_cons_succ]
    refine wpAnyH_take (i := 6) (oi := { dst := some 12, op := Op.load 22 (Operand.tmp 11), type := 22, pos := "ref.go:43", after := #[{ on := 5, ground := Ground.data }], guard := none }) (v := ?_) rfl (by kernel_rfl) (by kernel_rfl) (by kernel_rfl) (fun _ _ _ h => h) (Or.inl ⟨by rfl, ?_⟩) (by assumption) ?_
    rotate_left
    · (intro wS hS; have c2 := cell_below hS c2; have c3 := cell_below hS c3; go_simp <;> with_reducible rfl)
    try simp only [Act.put, List.setIfInBounds_toArray, List.set_cons_zero, List.set_cons_succ]
    refine wpAnyH_ready (rs := [2]) (by kernel_rfl) (by simp) ?_
    refine AllReadyH.cons (o := { dst := some 8, op := Op.call { callee := Callee.value (Operand.func 39), args := #[Operand.tmp 7], argTypes := #[22] }, type := 9, pos := "ref.go:43", after := #[{ on := 1, ground := Ground.data }], guard := none }) rfl (fun K hK => ?_) AllReadyH.nil
    go_simp
    refine (K1 _).out.mono ?_
    rintro e w102 ⟨rfl, rfl⟩
    refine hK.out _ _ hS (fun _ => ?_)
    clear hK K
    try simp only [Act.put, List.setIfInBounds_toArray, List.set_cons_zero, List.set_cons_succ]
    refine wpAnyH_take (i := 3) (oi := { dst := some 9, op := Op.binOp BinOp.add 9 (Operand.const (Value.string { data := #[105, 112, 110, 58] })) (Operand.tmp 8) 9, type := 9, pos := "ref.go:43", after := #[{ on := 2, ground := Ground.data }], guard := none }) (v := ?_) rfl (by kernel_rfl) (by kernel_rfl) (by kernel_rfl) (fun _ _ _ h => h) (Or.inl ⟨by rfl, ?_⟩) (by assumption) ?_
    rotate_left
    · (intro wS hS; go_simp <;> with_reducible rfl)
    try simp only [Act.put, List.setIfInBounds_toArray, List.set_cons_zero, List.set_cons_succ]
    refine wpAnyH_take (i := 4) (oi := { dst := some 10, op := Op.binOp BinOp.add 9 (Operand.tmp 9) (Operand.const (Value.string { data := #[46] })) 9, type := 9, pos := "ref.go:43", after := #[{ on := 3, ground := Ground.data }], guard := none }) (v := ?_) rfl (by kernel_rfl) (by kernel_rfl) (by kernel_rfl) (fun _ _ _ h => h) (Or.inl ⟨by rfl, ?_⟩) (by assumption) ?_
    rotate_left
    · (intro wS hS; go_simp <;> with_reducible rfl)
    try simp only [Act.put, List.setIfInBounds_toArray, List.set_cons_zero, List.set_cons_succ]
    refine wpAnyH_ready (rs := [7]) (by kernel_rfl) (by simp) ?_
    refine AllReadyH.cons (o := { dst := some 13, op := Op.call { callee := Callee.value (Operand.func 39), args := #[Operand.tmp 12], argTypes := #[22] }, type := 9, pos := "ref.go:43", after := #[{ on := 6, ground := Ground.data }, { on := 2, ground := Ground.chain }], guard := none }) rfl (fun K hK => ?_) AllReadyH.nil
    go_simp
    refine (K2 _).out.mono ?_
    rintro e w107 ⟨rfl, rfl⟩
    refine hK.out _ _ hS (fun _ => ?_)
    clear hK K
    try simp only [Act.put, List.setIfInBounds_toArray, List.set_cons_zero, List.set_cons_succ]
    refine wpAnyH_take (i := 8) (oi := { dst := some 14, op := Op.binOp BinOp.add 9 (Operand.tmp 10) (Operand.tmp 13) 9, type := 9, pos := "ref.go:43", after := #[{ on := 4, ground := Ground.data }, { on := 7, ground := Ground.data }], guard := none }) (v := ?_) rfl (by kernel_rfl) (by kernel_rfl) (by kernel_rfl) (fun _ _ _ h => h) (Or.inl ⟨by rfl, ?_⟩) (by assumption) ?_
    rotate_left
    · (intro wS hS; go_simp <;> with_reducible rfl)
    try simp only [Act.put, List.setIfInBounds_toArray, List.set_cons_zero, List.set_cons_succ]
    refine wpAnyH_take (i := 9) (oi := { dst := some 2, op := Op.assign (Operand.tmp 14), type := 9, pos := "ref.go:43", after := #[{ on := 8, ground := Ground.data }, { on := 7, ground := Ground.chain }, { on := 0, ground := Ground.phase }, { on := 1, ground := Ground.phase }, { on := 2, ground := Ground.phase }, { on := 3, ground := Ground.phase }, { on := 4, ground := Ground.phase }, { on := 5, ground := Ground.phase }, { on := 6, ground := Ground.phase }, { on := 7, ground := Ground.phase }, { on := 8, ground := Ground.phase }], guard := none }) (v := ?_) rfl (by kernel_rfl) (by kernel_rfl) (by kernel_rfl) (fun _ _ _ h => h) (Or.inl ⟨by rfl, ?_⟩) (by assumption) ?_
    rotate_left
    · (intro wS hS; go_simp <;> with_reducible rfl)
    try simp only [Act.put, List.setIfInBounds_toArray, List.set_cons_zero, List.set_cons_succ]
    refine wpAnyH_done (by kernel_rfl) ?_ _
    replace hB := hB.trans (below_of hS hB.size)
    go_wp2_with fail
    go_ret
    have hcat : ∀ xs ys : List UInt8, (⟨xs.toArray⟩ : ByteArray) ++ ⟨ys.toArray⟩ = ⟨(xs ++ ys).toArray⟩ := cat_bytes
    refine ⟨?_, hB⟩
    rw [HT.out, show (⟨#[105, 112, 110, 58]⟩ : ByteArray) = ⟨([105, 112, 110, 58] : List UInt8).toArray⟩ from rfl, show (⟨#[46]⟩ : ByteArray) = ⟨([46] : List UInt8).toArray⟩ from rfl]
    simp only [hcat, List.append_assoc]
    rfl
  · rw [if_neg h2] at HT
    have h2b : (sc == 2) = false := by rw [beq_eq_false_iff_ne]; exact h2
    cases nm with
    | nil =>
      rw [if_pos rfl] at HT
      go_enter Tryd.func19, Tryd.ntmps19
      go_wp2_with fail
      go_ret
      exact ⟨by rw [HT.out] <;> rfl, hB⟩
    | cons b r =>
      rw [if_neg (by simp)] at HT
      have hne2 : ((b :: r : List UInt8) == []) = false := rfl
      have hl2 : ¬ (9223372036854775807 < [(100 : UInt8), 116, 110, 58].length + (b :: r).length) := by simp at hn ⊢; omega
      have hl3 : ¬ (9223372036854775807 < 4 + (b :: r).length) := by omega
      go_enter Tryd.func19, Tryd.ntmps19
      go_wp2_with fail
      rw [show (⟨#[100, 116, 110, 58]⟩ : ByteArray) ++ ⟨(b :: r).toArray⟩ = ⟨([100, 116, 110, 58] ++ b :: r).toArray⟩ from cat_bytes _ _]
      go_ret
      exact ⟨by rw [HT.out] <;> rfl, hB⟩
end Go.Proofs.YtieigjlbjiielaaDoor
