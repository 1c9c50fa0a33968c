/- Layer 8 (stamp): the reference's text. -/
import Derived.Test.YtieigjlbjiielaaStamp7
namespace Go.Proofs.Ytieigjlbjiielaa
open Go.RowKit

set_option maxRecDepth 100000 in
set_option maxHeartbeats 2000000 in
theorem refkey_any (sc nd sv t q : Nat) (nm : List UInt8) (w : World) (h1 : sc < 9223372036854775808) (h2 : nd < 18446744073709551616) (h3 : sv < 18446744073709551616) (h4 : t < 18446744073709551616) (h5 : q < 18446744073709551616) (hn : nm.length ≤ 1000) :
    Calls Try.prog 14 #[.agg #[.int .i64 sc, .string ⟨nm.toArray⟩, .int .u64 nd, .int .u64 sv], stp t q] w fun e w' => e = .returned (.string ⟨(keyB sc nd sv t q nm).toArray⟩) ∧ Below w.heap.size w w' := by
  obtain ⟨hB, hca, hcb⟩ := two_cells w #[.int .i64 (sc : Int), .string ⟨nm.toArray⟩, .int .u64 (nd : Int), .int .u64 (sv : Int)] #[.int .u64 (t : Int), .int .u64 (q : Int)] 29 24
  have c0 := hca 0 (.int .i64 (sc : Int)) rfl
  have c1 := hca 1 (.string ⟨nm.toArray⟩) rfl
  have c2 := hca 2 (.int .u64 (nd : Int)) rfl
  have c3 := hca 3 (.int .u64 (sv : Int)) rfl
  have d0 := hcb 0 (.int .u64 (t : Int)) rfl
  have d1 := hcb 1 (.int .u64 (q : Int)) rfl
  clear hca hcb
  have HK : Hid (keyB sc nd sv t q nm = [] ++ (digs sc ++ [32]) ++ (digs nd ++ [32]) ++ (digs sv ++ [32]) ++ (digs t ++ [32]) ++ (digs q ++ [32]) ++ nm) := rfl
  have K1 := fun w => Lib.hid (refdigits_any sc w (by omega))
  have K2 := fun w => Lib.hid (refdigits_any nd w h2)
  have K3 := fun w => Lib.hid (refdigits_any sv w h3)
  have K4 := fun w => Lib.hid (refdigits_any t w h4)
  have K5 := fun w => Lib.hid (refdigits_any q w h5)
  have l1 := digs_len (n := sc) (by omega)
  have l2 := digs_len h2
  have l3 := digs_len h3
  have l4 := digs_len h4
  have l5 := digs_len h5
  generalize keyB sc nd sv t q nm = r at *
  generalize digs sc = s1 at *
  generalize digs nd = s2 at *
  generalize digs sv = s3 at *
  generalize digs t = s4 at *
  generalize digs q = s5 at *
  clear h2 h3 h4 h5
  go_enter Try.func14, Try.ntmps14
  go_wp2_with fail
  generalize ((w.alloc (.cells #[.int .i64 (sc : Int), .string ⟨nm.toArray⟩, .int .u64 (nd : Int), .int .u64 (sv : Int)] 29)).alloc (.cells #[.int .u64 (t : Int), .int .u64 (q : Int)] 24)) = w0 at *
  have hwr : IntKind.u64.wrap (sc : Int) = sc := by rw [wrap_u64]; omega
  have f1 : ¬ (9223372036854775807 < s1.length + 1) := by omega
  have f2 : ¬ (9223372036854775807 < s1.length + 1 + s2.length) := by omega
  have f3 : ¬ (9223372036854775807 < s1.length + 1 + s2.length + 1) := by omega
  have f4 : ¬ (9223372036854775807 < s1.length + 1 + s2.length + 1 + s3.length) := by omega
  have f5 : ¬ (9223372036854775807 < s1.length + 1 + s2.length + 1 + s3.length + 1) := by omega
  have f6 : ¬ (9223372036854775807 < s1.length + 1 + s2.length + 1 + s3.length + 1 + s4.length) := by omega
  have f7 : ¬ (9223372036854775807 < s1.length + 1 + s2.length + 1 + s3.length + 1 + s4.length + 1) := by omega
  have f8 : ¬ (9223372036854775807 < s1.length + 1 + s2.length + 1 + s3.length + 1 + s4.length + 1 + s5.length) := by omega
  have f9 : ¬ (9223372036854775807 < s1.length + 1 + s2.length + 1 + s3.length + 1 + s4.length + 1 + s5.length + 1) := by omega
  have f10 : ¬ (9223372036854775807 < s1.length + 1 + s2.length + 1 + s3.length + 1 + s4.length + 1 + s5.length + 1 + nm.length) := by omega
  refine wp_region_held (S := fun W => Below (w0).heap.size (w0) W) (by kernel_rfl) ?_
  change wpAnyH _ _ _ _ _ _ _ _ (w0).drew
  have hS : (fun W => Below (w0).heap.size (w0) W) (w0).drew := (Below.refl _ _).drew
  refine wpAnyH_take (i := 0) (oi := { dst := some 5, op := Op.fieldAddr 29 (Operand.tmp 2) 0, type := 0, pos := "ref.go:28", after := #[], guard := none }) (v := ?_) rfl (by kernel_rfl) (by kernel_rfl) (by kernel_rfl) (fun _ _ _ h => h) (Or.inl ⟨by rfl, ?_⟩) (by assumption) ?_
  rotate_left
  · (intro wS hS; go_simp <;> with_reducible rfl)
  try simp only [Act.put, List.setIfInBounds_toArray, List.set_cons_zero, List.set_cons_succ]
  refine wpAnyH_take (i := 1) (oi := { dst := some 6, op := Op.load 3 (Operand.tmp 5), type := 3, pos := "ref.go:28", after := #[{ on := 0, ground := Ground.data }], guard := none }) (v := ?_) rfl (by kernel_rfl) (by kernel_rfl) (by kernel_rfl) (fun _ _ _ h => h) (Or.inl ⟨by rfl, ?_⟩) (by assumption) ?_
  rotate_left
  · (intro wS hS; have c0 := cell_below hS c0; have c1 := cell_below hS c1; have c2 := cell_below hS c2; have c3 := cell_below hS c3; have d0 := cell_below hS d0; have d1 := cell_below hS d1; go_simp <;> with_reducible rfl)
  try simp only [Act.put, List.setIfInBounds_toArray, List.set_cons_zero, List.set_cons_succ]
  refine wpAnyH_take (i := 2) (oi := { dst := some 7, op := Op.convert 3 22 (Operand.tmp 6), type := 22, pos := "ref.go:28", after := #[{ on := 1, ground := Ground.data }], guard := none }) (v := ?_) rfl (by kernel_rfl) (by kernel_rfl) (by kernel_rfl) (fun _ _ _ h => h) (Or.inl ⟨by rfl, ?_⟩) (by assumption) ?_
  rotate_left
  · (intro wS hS; go_simp <;> with_reducible rfl)
  try simp only [Act.put, List.setIfInBounds_toArray, List.set_cons_zero, List.set_cons_succ]
  refine wpAnyH_take (i := 5) (oi := { dst := some 10, op := Op.fieldAddr 29 (Operand.tmp 2) 2, type := 0, pos := "ref.go:28", after := #[], guard := none }) (v := ?_) rfl (by kernel_rfl) (by kernel_rfl) (by kernel_rfl) (fun _ _ _ h => h) (Or.inl ⟨by rfl, ?_⟩) (by assumption) ?_
  rotate_left
  · (intro wS hS; go_simp <;> with_reducible rfl)
  try simp only [Act.put, List.setIfInBounds_toArray, List.set_cons_zero, List.set_cons_succ]
  refine wpAnyH_take (i := 6) (oi := { dst := some 11, op := Op.load 22 (Operand.tmp 10), type := 22, pos := "ref.go:28", after := #[{ on := 5, ground := Ground.data }], guard := none }) (v := ?_) rfl (by kernel_rfl) (by kernel_rfl) (by kernel_rfl) (fun _ _ _ h => h) (Or.inl ⟨by rfl, ?_⟩) (by assumption) ?_
  rotate_left
  · (intro wS hS; have c0 := cell_below hS c0; have c1 := cell_below hS c1; have c2 := cell_below hS c2; have c3 := cell_below hS c3; have d0 := cell_below hS d0; have d1 := cell_below hS d1; go_simp <;> with_reducible rfl)
  try simp only [Act.put, List.setIfInBounds_toArray, List.set_cons_zero, List.set_cons_succ]
  refine wpAnyH_take (i := 10) (oi := { dst := some 15, op := Op.fieldAddr 29 (Operand.tmp 2) 3, type := 0, pos := "ref.go:28", after := #[], guard := none }) (v := ?_) rfl (by kernel_rfl) (by kernel_rfl) (by kernel_rfl) (fun _ _ _ h => h) (Or.inl ⟨by rfl, ?_⟩) (by assumption) ?_
  rotate_left
  · (intro wS hS; go_simp <;> with_reducible rfl)
  try simp only [Act.put, List.setIfInBounds_toArray, List.set_cons_zero, List.set_cons_succ]
  refine wpAnyH_take (i := 11) (oi := { dst := some 16, op := Op.load 22 (Operand.tmp 15), type := 22, pos := "ref.go:28", after := #[{ on := 10, ground := Ground.data }], guard := none }) (v := ?_) rfl (by kernel_rfl) (by kernel_rfl) (by kernel_rfl) (fun _ _ _ h => h) (Or.inl ⟨by rfl, ?_⟩) (by assumption) ?_
  rotate_left
  · (intro wS hS; have c0 := cell_below hS c0; have c1 := cell_below hS c1; have c2 := cell_below hS c2; have c3 := cell_below hS c3; have d0 := cell_below hS d0; have d1 := cell_below hS d1; go_simp <;> with_reducible rfl)
  try simp only [Act.put, List.setIfInBounds_toArray, List.set_cons_zero, List.set_cons_succ]
  refine wpAnyH_take (i := 15) (oi := { dst := some 20, op := Op.fieldAddr 24 (Operand.tmp 3) 0, type := 0, pos := "ref.go:28", after := #[], guard := none }) (v := ?_) rfl (by kernel_rfl) (by kernel_rfl) (by kernel_rfl) (fun _ _ _ h => h) (Or.inl ⟨by rfl, ?_⟩) (by assumption) ?_
  rotate_left
  · (intro wS hS; go_simp <;> with_reducible rfl)
  try simp only [Act.put, List.setIfInBounds_toArray, List.set_cons_zero, List.set_cons_succ]
  refine wpAnyH_take (i := 16) (oi := { dst := some 21, op := Op.load 22 (Operand.tmp 20), type := 22, pos := "ref.go:28", after := #[{ on := 15, ground := Ground.data }], guard := none }) (v := ?_) rfl (by kernel_rfl) (by kernel_rfl) (by kernel_rfl) (fun _ _ _ h => h) (Or.inl ⟨by rfl, ?_⟩) (by assumption) ?_
  rotate_left
  · (intro wS hS; have c0 := cell_below hS c0; have c1 := cell_below hS c1; have c2 := cell_below hS c2; have c3 := cell_below hS c3; have d0 := cell_below hS d0; have d1 := cell_below hS d1; go_simp <;> with_reducible rfl)
  try simp only [Act.put, List.setIfInBounds_toArray, List.set_cons_zero, List.set_cons_succ]
  refine wpAnyH_take (i := 20) (oi := { dst := some 25, op := Op.fieldAddr 24 (Operand.tmp 3) 1, type := 0, pos := "ref.go:28", after := #[], guard := none }) (v := ?_) rfl (by kernel_rfl) (by kernel_rfl) (by kernel_rfl) (fun _ _ _ h => h) (Or.inl ⟨by rfl, ?_⟩) (by assumption) ?_
  rotate_left
  · (intro wS hS; go_simp <;> with_reducible rfl)
  try simp only [Act.put, List.setIfInBounds_toArray, List.set_cons_zero, List.set_cons_succ]
  refine wpAnyH_take (i := 21) (oi := { dst := some 26, op := Op.load 22 (Operand.tmp 25), type := 22, pos := "ref.go:28", after := #[{ on := 20, ground := Ground.data }], guard := none }) (v := ?_) rfl (by kernel_rfl) (by kernel_rfl) (by kernel_rfl) (fun _ _ _ h => h) (Or.inl ⟨by rfl, ?_⟩) (by assumption) ?_
  rotate_left
  · (intro wS hS; have c0 := cell_below hS c0; have c1 := cell_below hS c1; have c2 := cell_below hS c2; have c3 := cell_below hS c3; have d0 := cell_below hS d0; have d1 := cell_below hS d1; go_simp <;> with_reducible rfl)
  try simp only [Act.put, List.setIfInBounds_toArray, List.set_cons_zero, List.set_cons_succ]
  refine wpAnyH_take (i := 25) (oi := { dst := some 30, op := Op.fieldAddr 29 (Operand.tmp 2) 1, type := 0, pos := "ref.go:28", after := #[], guard := none }) (v := ?_) rfl (by kernel_rfl) (by kernel_rfl) (by kernel_rfl) (fun _ _ _ h => h) (Or.inl ⟨by rfl, ?_⟩) (by assumption) ?_
  rotate_left
  · (intro wS hS; go_simp <;> with_reducible rfl)
  try simp only [Act.put, List.setIfInBounds_toArray, List.set_cons_zero, List.set_cons_succ]
  refine wpAnyH_take (i := 26) (oi := { dst := some 31, op := Op.load 9 (Operand.tmp 30), type := 9, pos := "ref.go:28", after := #[{ on := 25, ground := Ground.data }], guard := none }) (v := ?_) rfl (by kernel_rfl) (by kernel_rfl) (by kernel_rfl) (fun _ _ _ h => h) (Or.inl ⟨by rfl, ?_⟩) (by assumption) ?_
  rotate_left
  · (intro wS hS; have c0 := cell_below hS c0; have c1 := cell_below hS c1; have c2 := cell_below hS c2; have c3 := cell_below hS c3; have d0 := cell_below hS d0; have d1 := cell_below hS d1; go_simp <;> with_reducible rfl)
  try simp only [Act.put, List.setIfInBounds_toArray, List.set_cons_zero, List.set_cons_succ]
  refine wpAnyH_ready (rs := [3]) (by kernel_rfl) (by simp) ?_
  refine AllReadyH.cons (o := { dst := some 8, op := Op.call { callee := Callee.value (Operand.func 26), args := #[Operand.tmp 7], argTypes := #[22] }, type := 9, pos := "ref.go:28", after := #[{ on := 2, ground := Ground.data }], guard := none }) rfl (fun K hK => ?_) AllReadyH.nil
  go_simp
  refine (K1 _).out.mono ?_
  rintro e w103 ⟨rfl, rfl⟩
  refine hK.out _ _ hS (fun _ => ?_)
  clear hK K
  try simp only [Act.put, List.setIfInBounds_toArray, List.set_cons_zero, List.set_cons_succ]
  refine wpAnyH_take (i := 4) (oi := { dst := some 9, op := Op.binOp BinOp.add 9 (Operand.tmp 8) (Operand.const (Value.string { data := #[32] })) 9, type := 9, pos := "ref.go:28", after := #[{ on := 3, ground := Ground.data }], guard := none }) (v := ?_) rfl (by kernel_rfl) (by kernel_rfl) (by kernel_rfl) (fun _ _ _ h => h) (Or.inl ⟨by rfl, ?_⟩) (by assumption) ?_
  rotate_left
  · (intro wS hS; go_simp <;> with_reducible rfl)
  try simp only [Act.put, List.setIfInBounds_toArray, List.set_cons_zero, List.set_cons_succ]
  refine wpAnyH_ready (rs := [7]) (by kernel_rfl) (by simp) ?_
  refine AllReadyH.cons (o := { dst := some 12, op := Op.call { callee := Callee.value (Operand.func 26), args := #[Operand.tmp 11], argTypes := #[22] }, type := 9, pos := "ref.go:28", after := #[{ on := 6, ground := Ground.data }, { on := 3, ground := Ground.chain }], guard := none }) rfl (fun K hK => ?_) AllReadyH.nil
  go_simp
  refine (K2 _).out.mono ?_
  rintro e w107 ⟨rfl, rfl⟩
  refine hK.out _ _ hS (fun _ => ?_)
  clear hK K
  try simp only [Act.put, List.setIfInBounds_toArray, List.set_cons_zero, List.set_cons_succ]
  refine wpAnyH_take (i := 8) (oi := { dst := some 13, op := Op.binOp BinOp.add 9 (Operand.tmp 9) (Operand.tmp 12) 9, type := 9, pos := "ref.go:28", after := #[{ on := 4, ground := Ground.data }, { on := 7, ground := Ground.data }], guard := none }) (v := ?_) rfl (by kernel_rfl) (by kernel_rfl) (by kernel_rfl) (fun _ _ _ h => h) (Or.inl ⟨by rfl, ?_⟩) (by assumption) ?_
  rotate_left
  · (intro wS hS; go_simp <;> with_reducible rfl)
  try simp only [Act.put, List.setIfInBounds_toArray, List.set_cons_zero, List.set_cons_succ]
  refine wpAnyH_take (i := 9) (oi := { dst := some 14, op := Op.binOp BinOp.add 9 (Operand.tmp 13) (Operand.const (Value.string { data := #[32] })) 9, type := 9, pos := "ref.go:28", after := #[{ on := 8, ground := Ground.data }], guard := none }) (v := ?_) rfl (by kernel_rfl) (by kernel_rfl) (by kernel_rfl) (fun _ _ _ h => h) (Or.inl ⟨by rfl, ?_⟩) (by assumption) ?_
  rotate_left
  · (intro wS hS; go_simp <;> with_reducible rfl)
  try simp only [Act.put, List.setIfInBounds_toArray, List.set_cons_zero, List.set_cons_succ]
  refine wpAnyH_ready (rs := [12]) (by kernel_rfl) (by simp) ?_
  refine AllReadyH.cons (o := { dst := some 17, op := Op.call { callee := Callee.value (Operand.func 26), args := #[Operand.tmp 16], argTypes := #[22] }, type := 9, pos := "ref.go:28", after := #[{ on := 11, ground := Ground.data }, { on := 7, ground := Ground.chain }], guard := none }) rfl (fun K hK => ?_) AllReadyH.nil
  go_simp
  refine (K3 _).out.mono ?_
  rintro e w112 ⟨rfl, rfl⟩
  refine hK.out _ _ hS (fun _ => ?_)
  clear hK K
  try simp only [Act.put, List.setIfInBounds_toArray, List.set_cons_zero, List.set_cons_succ]
  refine wpAnyH_take (i := 13) (oi := { dst := some 18, op := Op.binOp BinOp.add 9 (Operand.tmp 14) (Operand.tmp 17) 9, type := 9, pos := "ref.go:28", after := #[{ on := 9, ground := Ground.data }, { on := 12, ground := Ground.data }], guard := none }) (v := ?_) rfl (by kernel_rfl) (by kernel_rfl) (by kernel_rfl) (fun _ _ _ h => h) (Or.inl ⟨by rfl, ?_⟩) (by assumption) ?_
  rotate_left
  · (intro wS hS; go_simp <;> with_reducible rfl)
  try simp only [Act.put, List.setIfInBounds_toArray, List.set_cons_zero, List.set_cons_succ]
  refine wpAnyH_take (i := 14) (oi := { dst := some 19, op := Op.binOp BinOp.add 9 (Operand.tmp 18) (Operand.const (Value.string { data := #[32] })) 9, type := 9, pos := "ref.go:28", after := #[{ on := 13, ground := Ground.data }], guard := none }) (v := ?_) rfl (by kernel_rfl) (by kernel_rfl) (by kernel_rfl) (fun _ _ _ h => h) (Or.inl ⟨by rfl, ?_⟩) (by assumption) ?_
  rotate_left
  · (intro wS hS; go_simp <;> with_reducible rfl)
  try simp only [Act.put, List.setIfInBounds_toArray, List.set_cons_zero, List.set_cons_succ]
  refine wpAnyH_ready (rs := [17]) (by kernel_rfl) (by simp) ?_
  refine AllReadyH.cons (o := { dst := some 22, op := Op.call { callee := Callee.value (Operand.func 26), args := #[Operand.tmp 21], argTypes := #[22] }, type := 9, pos := "ref.go:28", after := #[{ on := 16, ground := Ground.data }, { on := 12, ground := Ground.chain }], guard := none }) rfl (fun K hK => ?_) AllReadyH.nil
  go_simp
  refine (K4 _).out.mono ?_
  rintro e w117 ⟨rfl, rfl⟩
  refine hK.out _ _ hS (fun _ => ?_)
  clear hK K
  try simp only [Act.put, List.setIfInBounds_toArray, List.set_cons_zero, List.set_cons_succ]
  refine wpAnyH_take (i := 18) (oi := { dst := some 23, op := Op.binOp BinOp.add 9 (Operand.tmp 19) (Operand.tmp 22) 9, type := 9, pos := "ref.go:28", after := #[{ on := 14, ground := Ground.data }, { on := 17, ground := Ground.data }], guard := none }) (v := ?_) rfl (by kernel_rfl) (by kernel_rfl) (by kernel_rfl) (fun _ _ _ h => h) (Or.inl ⟨by rfl, ?_⟩) (by assumption) ?_
  rotate_left
  · (intro wS hS; go_simp <;> with_reducible rfl)
  try simp only [Act.put, List.setIfInBounds_toArray, List.set_cons_zero, List.set_cons_succ]
  refine wpAnyH_take (i := 19) (oi := { dst := some 24, op := Op.binOp BinOp.add 9 (Operand.tmp 23) (Operand.const (Value.string { data := #[32] })) 9, type := 9, pos := "ref.go:28", after := #[{ on := 18, ground := Ground.data }], guard := none }) (v := ?_) rfl (by kernel_rfl) (by kernel_rfl) (by kernel_rfl) (fun _ _ _ h => h) (Or.inl ⟨by rfl, ?_⟩) (by assumption) ?_
  rotate_left
  · (intro wS hS; go_simp <;> with_reducible rfl)
  try simp only [Act.put, List.setIfInBounds_toArray, List.set_cons_zero, List.set_cons_succ]
  refine wpAnyH_ready (rs := [22]) (by kernel_rfl) (by simp) ?_
  refine AllReadyH.cons (o := { dst := some 27, op := Op.call { callee := Callee.value (Operand.func 26), args := #[Operand.tmp 26], argTypes := #[22] }, type := 9, pos := "ref.go:28", after := #[{ on := 21, ground := Ground.data }, { on := 17, ground := Ground.chain }], guard := none }) rfl (fun K hK => ?_) AllReadyH.nil
  go_simp
  refine (K5 _).out.mono ?_
  rintro e w122 ⟨rfl, rfl⟩
  refine hK.out _ _ hS (fun _ => ?_)
  clear hK K
  try simp only [Act.put, List.setIfInBounds_toArray, List.set_cons_zero, List.set_cons_succ]
  refine wpAnyH_take (i := 23) (oi := { dst := some 28, op := Op.binOp BinOp.add 9 (Operand.tmp 24) (Operand.tmp 27) 9, type := 9, pos := "ref.go:28", after := #[{ on := 19, ground := Ground.data }, { on := 22, ground := Ground.data }], guard := none }) (v := ?_) rfl (by kernel_rfl) (by kernel_rfl) (by kernel_rfl) (fun _ _ _ h => h) (Or.inl ⟨by rfl, ?_⟩) (by assumption) ?_
  rotate_left
  · (intro wS hS; go_simp <;> with_reducible rfl)
  try simp only [Act.put, List.setIfInBounds_toArray, List.set_cons_zero, List.set_cons_succ]
  refine wpAnyH_take (i := 24) (oi := { dst := some 29, op := Op.binOp BinOp.add 9 (Operand.tmp 28) (Operand.const (Value.string { data := #[32] })) 9, type := 9, pos := "ref.go:28", after := #[{ on := 23, ground := Ground.data }], guard := none }) (v := ?_) rfl (by kernel_rfl) (by kernel_rfl) (by kernel_rfl) (fun _ _ _ h => h) (Or.inl ⟨by rfl, ?_⟩) (by assumption) ?_
  rotate_left
  · (intro wS hS; go_simp <;> with_reducible rfl)
  try simp only [Act.put, List.setIfInBounds_toArray, List.set_cons_zero, List.set_cons_succ]
  refine wpAnyH_take (i := 27) (oi := { dst := some 32, op := Op.binOp BinOp.add 9 (Operand.tmp 29) (Operand.tmp 31) 9, type := 9, pos := "ref.go:28", after := #[{ on := 24, ground := Ground.data }, { on := 26, ground := Ground.data }], guard := none }) (v := ?_) rfl (by kernel_rfl) (by kernel_rfl) (by kernel_rfl) (fun _ _ _ h => h) (Or.inl ⟨by rfl, ?_⟩) (by assumption) ?_
  rotate_left
  · (intro wS hS; go_simp <;> with_reducible rfl)
  try simp only [Act.put, List.setIfInBounds_toArray, List.set_cons_zero, List.set_cons_succ]
  refine wpAnyH_take (i := 28) (oi := { dst := some 4, op := Op.assign (Operand.tmp 32), type := 9, pos := "ref.go:28", after := #[{ on := 27, ground := Ground.data }, { on := 22, ground := Ground.chain }, { on := 0, ground := Ground.phase }, { on := 1, ground := Ground.phase }, { on := 2, ground := Ground.phase }, { on := 3, ground := Ground.phase }, { on := 4, ground := Ground.phase }, { on := 5, ground := Ground.phase }, { on := 6, ground := Ground.phase }, { on := 7, ground := Ground.phase }, { on := 8, ground := Ground.phase }, { on := 9, ground := Ground.phase }, { on := 10, ground := Ground.phase }, { on := 11, ground := Ground.phase }, { on := 12, ground := Ground.phase }, { on := 13, ground := Ground.phase }, { on := 14, ground := Ground.phase }, { on := 15, ground := Ground.phase }, { on := 16, ground := Ground.phase }, { on := 17, ground := Ground.phase }, { on := 18, ground := Ground.phase }, { on := 19, ground := Ground.phase }, { on := 20, ground := Ground.phase }, { on := 21, ground := Ground.phase }, { on := 22, ground := Ground.phase }, { on := 23, ground := Ground.phase }, { on := 24, ground := Ground.phase }, { on := 25, ground := Ground.phase }, { on := 26, ground := Ground.phase }, { on := 27, ground := Ground.phase }], guard := none }) (v := ?_) rfl (by kernel_rfl) (by kernel_rfl) (by kernel_rfl) (fun _ _ _ h => h) (Or.inl ⟨by rfl, ?_⟩) (by assumption) ?_
  rotate_left
  · (intro wS hS; go_simp <;> with_reducible rfl)
  try simp only [Act.put, List.setIfInBounds_toArray, List.set_cons_zero, List.set_cons_succ]
  refine wpAnyH_done (by kernel_rfl) ?_ _
  go_wp2_with fail
  go_ret
  have hcat : ∀ xs ys : List UInt8, (⟨xs.toArray⟩ : ByteArray) ++ ⟨ys.toArray⟩ = ⟨(xs ++ ys).toArray⟩ := cat_bytes
  refine ⟨?_, hB.trans (below_of hS hB.size)⟩
  rw [HK.out, show (⟨#[32]⟩ : ByteArray) = ⟨([32] : List UInt8).toArray⟩ from rfl]
  simp only [hcat]
  simp
end Go.Proofs.Ytieigjlbjiielaa
