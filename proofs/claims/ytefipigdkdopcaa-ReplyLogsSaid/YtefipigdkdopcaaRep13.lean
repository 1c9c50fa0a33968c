/- The statements' first call on layer 36: awake answers true. No condition. -/
import Derived.Test.YtefipigdkdopcaaRep12
import Derived.Test.YtefipigdkdopcaaRep2
import Derived.Deep.RegionHeld
namespace Go.Proofs.Ytefipigdkdopcaa
open Go.RowKit

abbrev frA : Fr := (0, 0, 0, 1, [97])
theorem goodA : GoodR 0 3 [frA] [] [7] :=
  ⟨by decide, by decide, by decide, by simp, by simp, by decide, by decide, by decide, by simp only [List.mem_singleton, forall_eq]; decide⟩
theorem textA : ∃ h : List UInt8, h.length = 32 ∧ textR 0 3 [frA] [] [7] = [48, 32, 51, 32, 102, 114, 97, 109, 101, 32] ++ (h ++ [32, 99, 111, 117, 110, 116, 32, 55, 10]) := by
  refine ⟨hexS (frB frA), by rw [hexS_length, frB_length]; rfl, ?_⟩
  have d0 : digs 0 = [48] := by rw [digs]; rfl
  have d3 : digs 3 = [51] := by rw [digs]; rfl
  have d7 : digs 7 = [55] := by rw [digs]; rfl
  unfold textR wordsT restW
  simp [Lib.join_cons, Lib.joinTail, frW, inW, d0, d3, d7]

set_option maxRecDepth 100000 in
set_option maxHeartbeats 4000000 in
theorem awake36_any (w : World) : Calls Try.prog 24 #[] w fun e w' => e = .returned (.bool true) ∧ Below w.heap.size w w' := by
  obtain ⟨hx, hxl, htx⟩ := textA
  have hpt := prs_text goodA
  have htb := textR_bound goodA
  have KT := fun A a C c W h1 h3 => Lib.hid (rtext36_yes 0 3 [frA] [] [7] A 1 a none 0 0 C 1 c W h1 (Rd.empty _ _) h3 goodA)
  have KP := fun W => Lib.hid (rparse_any (textR 0 3 [frA] [] [7]) W (by omega))
  have htl : (textR 0 3 [frA] [] [7]).length = 51 := by rw [htx]; simp [hxl]
  have hsl : (⟨(textR 0 3 [frA] [] [7]).toArray⟩ : ByteArray).extract 0 10 = ⟨#[48, 32, 51, 32, 102, 114, 97, 109, 101, 32]⟩ := by
    rw [extract_list, htx]; rfl
  obtain ⟨hp1, hp2⟩ := hpt
  unfold prsPost at KP
  rw [hp1] at KP
  have KP2 : ∀ W, Hid (Calls Try.prog 25 #[.string ⟨(textR 0 3 [frA] [] [7]).toArray⟩] W fun x w' => ∃ A a B b C c, x = .returned (.tuple #[rpl 0 3 A 1 a B 0 b C 1 c, .int .i64 0]) ∧ Rd w' A 1 a 5 (frCs [frA]) ∧ Below W.heap.size W w') := fun W => Lib.hid ((KP W).out.mono (fun x w' ⟨h1, h2, _⟩ => by
    obtain ⟨A, a, B, b, C, c, h3, h4, -, -⟩ := h2 hp2
    exact ⟨A, a, B, b, C, c, h3, h4, h1⟩))
  clear KP hp1 hp2 htx hxl htb
  generalize textR 0 3 [frA] [] [7] = tx at *
  have hun : unhexF [48, 97, 102, 102] = some [10, 255] := by decide +kernel
  have KB : ∀ W, Hid (Calls Try.prog 30 #[.string ⟨#[48, 97, 102, 102]⟩] W fun e w' => ∃ A c, e = .returned (.tuple #[.slice A 2 c, .bool true]) ∧ RdB w' A 2 c [10, 255] ∧ Below W.heap.size W w') := fun W => Lib.hid ((rbytes_any [48, 97, 102, 102] W (by decide)).mono (fun e w' h => by
    rw [hun] at h
    obtain ⟨⟨v, h1, h2⟩, h3⟩ := h
    obtain ⟨A, c, rfl, hr, -⟩ := Rd.of_own h2
    exact ⟨A, c, h1, hr, h3⟩))
  have KH : ∀ A c W, RdB W A 2 c [10, 255] → Hid (Calls Try.prog 29 #[.slice A 2 c] W fun e w' => e = .returned (.string ⟨#[48, 97, 102, 102]⟩) ∧ Below W.heap.size W w') := fun A c W h => Lib.hid (rhex_any [10, 255] A 2 c W h (by decide))
  clear hun
  obtain ⟨bb, hc1, hc2, hc3⟩ := three_cells w #[.int .u64 0, .int .u64 0, .int .i64 0, .int .i64 1, .string ⟨#[97]⟩] #[.int .u64 0, .int .u64 0, .int .i64 0, .int .i64 1, .string ⟨#[97]⟩] #[.int .i64 7] 100 100 3
  have hb1 := (one_cells w #[.int .u64 0, .int .u64 0, .int .i64 0, .int .i64 1, .string ⟨#[97]⟩] 100)
  have q0 := hb1.2 0 _ rfl
  have q1 := hb1.2 1 _ rfl
  have q2 := hb1.2 2 _ rfl
  have q3 := hb1.2 3 _ rfl
  have q4 := hb1.2 4 _ rfl
  clear hb1
  go_enter Try.func24, Try.ntmps24
  go_wp2_with fail
  generalize hW3 : ((w.alloc (.cells #[.int .u64 0, .int .u64 0, .int .i64 0, .int .i64 1, .string ⟨#[97]⟩] 100)).alloc (.cells #[.int .u64 0, .int .u64 0, .int .i64 0, .int .i64 1, .string ⟨#[97]⟩] 100)).alloc (.cells #[.int .i64 7] 3) = w3 at *
  clear hW3
  have hf : Rd w3 (some ⟨w.heap.size + 1, 0, none⟩) 1 1 5 (frCs [frA]) := by
    refine ⟨rfl, Nat.le_refl _, by decide, (fun e => by cases e), fun ad e j u hu => ?_⟩
    cases e
    rw [add_plain0]
    exact hc2 j u (by rw [List.getElem?_toArray]; exact hu)
  have hi : Rd w3 (some ⟨w.heap.size + 1 + 1, 0, none⟩) 1 1 1 (inCs [7]) := by
    refine ⟨rfl, Nat.le_refl _, by decide, (fun e => by cases e), fun ad e j u hu => ?_⟩
    cases e
    rw [add_plain0]
    exact (cell_heap (o := j) hc3).trans (by rw [List.getElem?_toArray]; exact hu)
  replace q0 := hc1 0 _ rfl
  replace q1 := hc1 1 _ rfl
  replace q2 := hc1 2 _ rfl
  replace q3 := hc1 3 _ rfl
  replace q4 := hc1 4 _ rfl
  clear hc1 hc2 hc3
  refine (KT _ _ _ _ _ hf hi).out.mono ?_
  rintro x w4 ⟨rfl, hb⟩
  clear hf hi KT
  replace q0 := cell_below hb q0
  replace q1 := cell_below hb q1
  replace q2 := cell_below hb q2
  replace q3 := cell_below hb q3
  replace q4 := cell_below hb q4
  replace bb := below_trans bb hb
  clear hb
  go_wp2_with fail
  refine (KP2 _).out.mono ?_
  rintro x w5 ⟨A, a, B, b, C, c, rfl, hf, hb⟩
  clear KP2
  obtain ⟨hb2, hca⟩ := one_cells w5 (rplCs 0 3 A 1 a B 0 b C 1 c) 47
  have p1 := hca 1 (.int .u64 (3 : Nat)) rfl
  have p2 := hca 2 (.slice A 1 a) rfl
  replace hf := hf.below hb2
  replace q0 := cell_below hb2 (cell_below hb q0)
  replace q1 := cell_below hb2 (cell_below hb q1)
  replace q2 := cell_below hb2 (cell_below hb q2)
  replace q3 := cell_below hb2 (cell_below hb q3)
  replace q4 := cell_below hb2 (cell_below hb q4)
  replace bb := below_trans (below_trans bb hb) hb2
  clear hca hb2 hb
  go_upto_region 4 with fail
  generalize w5.alloc (.cells (rplCs 0 3 A 1 a B 0 b C 1 c) 47) = w6 at *
  go_wp2_with fail
  refine (KB _).out.mono ?_
  rintro x w7 ⟨A7, c7, rfl, hr, hb⟩
  replace q0 := cell_below hb q0
  replace q1 := cell_below hb q1
  replace q2 := cell_below hb q2
  replace q3 := cell_below hb q3
  replace q4 := cell_below hb q4
  replace p1 := cell_below hb p1
  replace p2 := cell_below hb p2
  replace hf := hf.below hb
  replace bb := below_trans bb hb
  clear hb KB
  obtain ⟨ad, rfl⟩ := hf.some_of_pos (by decide)
  obtain ⟨e0, e1, e2, e3, e4⟩ := hf.frame 0 (by decide)
  have ea : ad.add (0 * 5) = ad := by unfold Addr.add; simp
  rw [ea] at e0 e1 e2 e3 e4
  have h1a := hf.nc
  have h1b := hr.cm
  have h1c := hf.cm
  unfold maxLen at h1b h1c
  clear ea hf
  simp only [List.getElem_cons_zero] at e0 e1 e2 e3 e4
  go_upto_region 5 with fail
  refine wp_region_held (S := fun W => Below (w7).heap.size (w7) W) (by kernel_rfl) ?_
  change wpAnyH _ _ _ _ _ _ _ _ (w7).drew
  have hS : (fun W => Below (w7).heap.size (w7) W) (w7).drew := (Below.refl _ _).drew
  refine wpAnyH_take (i := 0) (oi := { dst := some 26, op := Op.move (Operand.tmp 3), type := 25, pos := "law.go:16", after := #[], guard := none }) (v := ?_) rfl (by kernel_rfl) (by kernel_rfl) (by kernel_rfl) (fun _ _ _ h => h) (Or.inl ⟨by rfl, ?_⟩) (by assumption) ?_
  rotate_left
  · (intro wS hS; go_simp <;> with_reducible rfl)
  try simp only [Act.put, List.setIfInBounds_toArray, List.set_cons_zero, List.set_cons_succ]
  refine wpAnyH_take (i := 1) (oi := { dst := some 27, op := Op.binOp BinOp.eql 25 (Operand.tmp 26) (Operand.const (Value.int IntKind.i64 0)) 25, type := 4, pos := "law.go:16", after := #[{ on := 0, ground := Ground.data }], guard := none }) (v := ?_) rfl (by kernel_rfl) (by kernel_rfl) (by kernel_rfl) (fun _ _ _ h => h) (Or.inl ⟨by rfl, ?_⟩) (by assumption) ?_
  rotate_left
  · (intro wS hS; go_simp <;> with_reducible rfl)
  try simp only [Act.put, List.setIfInBounds_toArray, List.set_cons_zero, List.set_cons_succ]
  refine wpAnyH_take (i := 2) (oi := { dst := some 28, op := Op.move (Operand.tmp 27), type := 4, pos := "law.go:16", after := #[{ on := 1, ground := Ground.data }], guard := none }) (v := ?_) rfl (by kernel_rfl) (by kernel_rfl) (by kernel_rfl) (fun _ _ _ h => h) (Or.inl ⟨by rfl, ?_⟩) (by assumption) ?_
  rotate_left
  · (intro wS hS; go_simp <;> with_reducible rfl)
  try simp only [Act.put, List.setIfInBounds_toArray, List.set_cons_zero, List.set_cons_succ]
  refine wpAnyH_take (i := 3) (oi := { dst := some 29, op := Op.move (Operand.tmp 2), type := 9, pos := "law.go:16", after := #[{ on := 2, ground := Ground.guard }], guard := some (2, true) }) (v := ?_) rfl (by kernel_rfl) (by kernel_rfl) (by kernel_rfl) (fun _ _ _ h => h) (Or.inl ⟨by rfl, ?_⟩) (by assumption) ?_
  rotate_left
  · (intro wS hS; go_simp <;> with_reducible rfl)
  try simp only [Act.put, List.setIfInBounds_toArray, List.set_cons_zero, List.set_cons_succ]
  refine wpAnyH_take (i := 4) (oi := { dst := some 30, op := Op.call { callee := Callee.builtin Builtin.len, args := #[Operand.tmp 29], argTypes := #[9] }, type := 3, pos := "law.go:16", after := #[{ on := 3, ground := Ground.data }, { on := 2, ground := Ground.guard }], guard := some (2, true) }) (v := ?_) rfl (by kernel_rfl) (by kernel_rfl) (by kernel_rfl) (fun _ _ _ h => h) (Or.inl ⟨by rfl, ?_⟩) (by assumption) ?_
  rotate_left
  · (intro wS hS; go_simp <;> with_reducible rfl)
  try simp only [Act.put, List.setIfInBounds_toArray, List.set_cons_zero, List.set_cons_succ]
  refine wpAnyH_take (i := 5) (oi := { dst := some 31, op := Op.binOp BinOp.eql 3 (Operand.tmp 30) (Operand.const (Value.int IntKind.i64 51)) 3, type := 4, pos := "law.go:16", after := #[{ on := 4, ground := Ground.data }, { on := 2, ground := Ground.guard }], guard := some (2, true) }) (v := ?_) rfl (by kernel_rfl) (by kernel_rfl) (by kernel_rfl) (fun _ _ _ h => h) (Or.inl ⟨by rfl, ?_⟩) (by assumption) ?_
  rotate_left
  · (intro wS hS; go_simp <;> with_reducible rfl)
  try simp only [Act.put, List.setIfInBounds_toArray, List.set_cons_zero, List.set_cons_succ]
  refine wpAnyH_take (i := 6) (oi := { dst := some 32, op := Op.pick (Operand.tmp 28) (Operand.tmp 31) (Operand.const (Value.bool false)), type := 4, pos := "law.go:16", after := #[{ on := 2, ground := Ground.data }, { on := 5, ground := Ground.data }], guard := none }) (v := ?_) rfl (by kernel_rfl) (by kernel_rfl) (by kernel_rfl) (fun _ _ _ h => h) (Or.inl ⟨by rfl, ?_⟩) (by assumption) ?_
  rotate_left
  · (intro wS hS; go_simp <;> with_reducible rfl)
  try simp only [Act.put, List.setIfInBounds_toArray, List.set_cons_zero, List.set_cons_succ]
  refine wpAnyH_take (i := 7) (oi := { dst := some 33, op := Op.move (Operand.tmp 32), type := 4, pos := "law.go:16", after := #[{ on := 6, ground := Ground.data }, { on := 2, ground := Ground.chain }], guard := none }) (v := ?_) rfl (by kernel_rfl) (by kernel_rfl) (by kernel_rfl) (fun _ _ _ h => h) (Or.inl ⟨by rfl, ?_⟩) (by assumption) ?_
  rotate_left
  · (intro wS hS; go_simp <;> with_reducible rfl)
  try simp only [Act.put, List.setIfInBounds_toArray, List.set_cons_zero, List.set_cons_succ]
  refine wpAnyH_take (i := 8) (oi := { dst := some 34, op := Op.move (Operand.tmp 2), type := 9, pos := "law.go:16", after := #[{ on := 7, ground := Ground.guard }], guard := some (7, true) }) (v := ?_) rfl (by kernel_rfl) (by kernel_rfl) (by kernel_rfl) (fun _ _ _ h => h) (Or.inl ⟨by rfl, ?_⟩) (by assumption) ?_
  rotate_left
  · (intro wS hS; go_simp <;> with_reducible rfl)
  try simp only [Act.put, List.setIfInBounds_toArray, List.set_cons_zero, List.set_cons_succ]
  refine wpAnyH_take (i := 9) (oi := { dst := some 35, op := Op.slice 9 (Operand.tmp 34) none (some (Operand.const (Value.int IntKind.i64 10))) none, type := 9, pos := "law.go:16", after := #[{ on := 8, ground := Ground.data }, { on := 7, ground := Ground.guard }], guard := some (7, true) }) (v := ?_) rfl (by kernel_rfl) (by kernel_rfl) (by kernel_rfl) (fun _ _ _ h => h) (Or.inl ⟨by rfl, ?_⟩) (by assumption) ?_
  rotate_left
  · (intro wS hS; go_simp <;> with_reducible rfl)
  try simp only [Act.put, List.setIfInBounds_toArray, List.set_cons_zero, List.set_cons_succ]
  refine wpAnyH_take (i := 10) (oi := { dst := some 36, op := Op.binOp BinOp.eql 9 (Operand.tmp 35) (Operand.const (Value.string { data := #[48, 32, 51, 32, 102, 114, 97, 109, 101, 32] })) 9, type := 4, pos := "law.go:16", after := #[{ on := 9, ground := Ground.data }, { on := 7, ground := Ground.guard }], guard := some (7, true) }) (v := ?_) rfl (by kernel_rfl) (by kernel_rfl) (by kernel_rfl) (fun _ _ _ h => h) (Or.inl ⟨by rfl, ?_⟩) (by assumption) ?_
  rotate_left
  · (intro wS hS; go_simp <;> with_reducible rfl)
  try simp only [Act.put, List.setIfInBounds_toArray, List.set_cons_zero, List.set_cons_succ]
  refine wpAnyH_take (i := 11) (oi := { dst := some 37, op := Op.pick (Operand.tmp 33) (Operand.tmp 36) (Operand.const (Value.bool false)), type := 4, pos := "law.go:16", after := #[{ on := 7, ground := Ground.data }, { on := 10, ground := Ground.data }], guard := none }) (v := ?_) rfl (by kernel_rfl) (by kernel_rfl) (by kernel_rfl) (fun _ _ _ h => h) (Or.inl ⟨by rfl, ?_⟩) (by assumption) ?_
  rotate_left
  · (intro wS hS; go_simp <;> with_reducible rfl)
  try simp only [Act.put, List.setIfInBounds_toArray, List.set_cons_zero, List.set_cons_succ]
  refine wpAnyH_take (i := 12) (oi := { dst := some 38, op := Op.move (Operand.tmp 37), type := 4, pos := "law.go:16", after := #[{ on := 11, ground := Ground.data }, { on := 7, ground := Ground.chain }], guard := none }) (v := ?_) rfl (by kernel_rfl) (by kernel_rfl) (by kernel_rfl) (fun _ _ _ h => h) (Or.inl ⟨by rfl, ?_⟩) (by assumption) ?_
  rotate_left
  · (intro wS hS; go_simp <;> with_reducible rfl)
  try simp only [Act.put, List.setIfInBounds_toArray, List.set_cons_zero, List.set_cons_succ]
  refine wpAnyH_take (i := 13) (oi := { dst := some 39, op := Op.move (Operand.tmp 5), type := 25, pos := "law.go:16", after := #[{ on := 12, ground := Ground.guard }], guard := some (12, true) }) (v := ?_) rfl (by kernel_rfl) (by kernel_rfl) (by kernel_rfl) (fun _ _ _ h => h) (Or.inl ⟨by rfl, ?_⟩) (by assumption) ?_
  rotate_left
  · (intro wS hS; go_simp <;> with_reducible rfl)
  try simp only [Act.put, List.setIfInBounds_toArray, List.set_cons_zero, List.set_cons_succ]
  refine wpAnyH_take (i := 14) (oi := { dst := some 40, op := Op.binOp BinOp.eql 25 (Operand.tmp 39) (Operand.const (Value.int IntKind.i64 0)) 25, type := 4, pos := "law.go:16", after := #[{ on := 13, ground := Ground.data }, { on := 12, ground := Ground.guard }], guard := some (12, true) }) (v := ?_) rfl (by kernel_rfl) (by kernel_rfl) (by kernel_rfl) (fun _ _ _ h => h) (Or.inl ⟨by rfl, ?_⟩) (by assumption) ?_
  rotate_left
  · (intro wS hS; go_simp <;> with_reducible rfl)
  try simp only [Act.put, List.setIfInBounds_toArray, List.set_cons_zero, List.set_cons_succ]
  refine wpAnyH_take (i := 15) (oi := { dst := some 41, op := Op.pick (Operand.tmp 38) (Operand.tmp 40) (Operand.const (Value.bool false)), type := 4, pos := "law.go:16", after := #[{ on := 12, ground := Ground.data }, { on := 14, ground := Ground.data }], guard := none }) (v := ?_) rfl (by kernel_rfl) (by kernel_rfl) (by kernel_rfl) (fun _ _ _ h => h) (Or.inl ⟨by rfl, ?_⟩) (by assumption) ?_
  rotate_left
  · (intro wS hS; go_simp <;> with_reducible rfl)
  try simp only [Act.put, List.setIfInBounds_toArray, List.set_cons_zero, List.set_cons_succ]
  refine wpAnyH_take (i := 16) (oi := { dst := some 42, op := Op.move (Operand.tmp 41), type := 4, pos := "law.go:16", after := #[{ on := 15, ground := Ground.data }, { on := 12, ground := Ground.chain }], guard := none }) (v := ?_) rfl (by kernel_rfl) (by kernel_rfl) (by kernel_rfl) (fun _ _ _ h => h) (Or.inl ⟨by rfl, ?_⟩) (by assumption) ?_
  rotate_left
  · (intro wS hS; go_simp <;> with_reducible rfl)
  try simp only [Act.put, List.setIfInBounds_toArray, List.set_cons_zero, List.set_cons_succ]
  refine wpAnyH_take (i := 17) (oi := { dst := some 43, op := Op.fieldAddr 47 (Operand.tmp 4) 2, type := 0, pos := "law.go:16", after := #[{ on := 16, ground := Ground.guard }], guard := some (16, true) }) (v := ?_) rfl (by kernel_rfl) (by kernel_rfl) (by kernel_rfl) (fun _ _ _ h => h) (Or.inl ⟨by rfl, ?_⟩) (by assumption) ?_
  rotate_left
  · (intro wS hS; go_simp <;> with_reducible rfl)
  try simp only [Act.put, List.setIfInBounds_toArray, List.set_cons_zero, List.set_cons_succ]
  refine wpAnyH_take (i := 18) (oi := { dst := some 44, op := Op.load 43 (Operand.tmp 43), type := 43, pos := "law.go:16", after := #[{ on := 17, ground := Ground.data }, { on := 16, ground := Ground.guard }], guard := some (16, true) }) (v := ?_) rfl (by kernel_rfl) (by kernel_rfl) (by kernel_rfl) (fun _ _ _ h => h) (Or.inl ⟨by rfl, ?_⟩) (by assumption) ?_
  rotate_left
  · (intro wS hS; have q0 := cell_below hS q0; have q1 := cell_below hS q1; have q2 := cell_below hS q2; have q3 := cell_below hS q3; have q4 := cell_below hS q4; have p1 := cell_below hS p1; have p2 := cell_below hS p2; have e0 := cell_below hS e0; have e1 := cell_below hS e1; have e2 := cell_below hS e2; have e3 := cell_below hS e3; have e4 := cell_below hS e4; go_simp <;> with_reducible rfl)
  try simp only [Act.put, List.setIfInBounds_toArray, List.set_cons_zero, List.set_cons_succ]
  refine wpAnyH_take (i := 19) (oi := { dst := some 45, op := Op.call { callee := Callee.builtin Builtin.len, args := #[Operand.tmp 44], argTypes := #[43] }, type := 3, pos := "law.go:16", after := #[{ on := 18, ground := Ground.data }, { on := 16, ground := Ground.guard }], guard := some (16, true) }) (v := ?_) rfl (by kernel_rfl) (by kernel_rfl) (by kernel_rfl) (fun _ _ _ h => h) (Or.inl ⟨by rfl, ?_⟩) (by assumption) ?_
  rotate_left
  · (intro wS hS; go_simp <;> with_reducible rfl)
  try simp only [Act.put, List.setIfInBounds_toArray, List.set_cons_zero, List.set_cons_succ]
  refine wpAnyH_take (i := 20) (oi := { dst := some 46, op := Op.binOp BinOp.eql 3 (Operand.tmp 45) (Operand.const (Value.int IntKind.i64 1)) 3, type := 4, pos := "law.go:16", after := #[{ on := 19, ground := Ground.data }, { on := 16, ground := Ground.guard }], guard := some (16, true) }) (v := ?_) rfl (by kernel_rfl) (by kernel_rfl) (by kernel_rfl) (fun _ _ _ h => h) (Or.inl ⟨by rfl, ?_⟩) (by assumption) ?_
  rotate_left
  · (intro wS hS; go_simp <;> with_reducible rfl)
  try simp only [Act.put, List.setIfInBounds_toArray, List.set_cons_zero, List.set_cons_succ]
  refine wpAnyH_take (i := 21) (oi := { dst := some 47, op := Op.pick (Operand.tmp 42) (Operand.tmp 46) (Operand.const (Value.bool false)), type := 4, pos := "law.go:16", after := #[{ on := 16, ground := Ground.data }, { on := 20, ground := Ground.data }], guard := none }) (v := ?_) rfl (by kernel_rfl) (by kernel_rfl) (by kernel_rfl) (fun _ _ _ h => h) (Or.inl ⟨by rfl, ?_⟩) (by assumption) ?_
  rotate_left
  · (intro wS hS; go_simp <;> with_reducible rfl)
  try simp only [Act.put, List.setIfInBounds_toArray, List.set_cons_zero, List.set_cons_succ]
  refine wpAnyH_take (i := 22) (oi := { dst := some 48, op := Op.move (Operand.tmp 47), type := 4, pos := "law.go:16", after := #[{ on := 21, ground := Ground.data }, { on := 16, ground := Ground.chain }], guard := none }) (v := ?_) rfl (by kernel_rfl) (by kernel_rfl) (by kernel_rfl) (fun _ _ _ h => h) (Or.inl ⟨by rfl, ?_⟩) (by assumption) ?_
  rotate_left
  · (intro wS hS; go_simp <;> with_reducible rfl)
  try simp only [Act.put, List.setIfInBounds_toArray, List.set_cons_zero, List.set_cons_succ]
  refine wpAnyH_take (i := 23) (oi := { dst := some 49, op := Op.fieldAddr 47 (Operand.tmp 4) 2, type := 0, pos := "law.go:16", after := #[{ on := 22, ground := Ground.guard }], guard := some (22, true) }) (v := ?_) rfl (by kernel_rfl) (by kernel_rfl) (by kernel_rfl) (fun _ _ _ h => h) (Or.inl ⟨by rfl, ?_⟩) (by assumption) ?_
  rotate_left
  · (intro wS hS; go_simp <;> with_reducible rfl)
  try simp only [Act.put, List.setIfInBounds_toArray, List.set_cons_zero, List.set_cons_succ]
  refine wpAnyH_take (i := 24) (oi := { dst := some 50, op := Op.load 43 (Operand.tmp 49), type := 43, pos := "law.go:16", after := #[{ on := 23, ground := Ground.data }, { on := 22, ground := Ground.guard }], guard := some (22, true) }) (v := ?_) rfl (by kernel_rfl) (by kernel_rfl) (by kernel_rfl) (fun _ _ _ h => h) (Or.inl ⟨by rfl, ?_⟩) (by assumption) ?_
  rotate_left
  · (intro wS hS; have q0 := cell_below hS q0; have q1 := cell_below hS q1; have q2 := cell_below hS q2; have q3 := cell_below hS q3; have q4 := cell_below hS q4; have p1 := cell_below hS p1; have p2 := cell_below hS p2; have e0 := cell_below hS e0; have e1 := cell_below hS e1; have e2 := cell_below hS e2; have e3 := cell_below hS e3; have e4 := cell_below hS e4; go_simp <;> with_reducible rfl)
  try simp only [Act.put, List.setIfInBounds_toArray, List.set_cons_zero, List.set_cons_succ]
  refine wpAnyH_take (i := 25) (oi := { dst := some 51, op := Op.indexAddr 43 (Operand.tmp 50) (Operand.const (Value.int IntKind.i64 0)), type := 0, pos := "law.go:16", after := #[{ on := 24, ground := Ground.data }, { on := 22, ground := Ground.guard }], guard := some (22, true) }) (v := ?_) rfl (by kernel_rfl) (by kernel_rfl) (by kernel_rfl) (fun _ _ _ h => h) (Or.inl ⟨by rfl, ?_⟩) (by assumption) ?_
  rotate_left
  · (intro wS hS; go_simp <;> with_reducible rfl)
  try simp only [Act.put, List.setIfInBounds_toArray, List.set_cons_zero, List.set_cons_succ]
  refine wpAnyH_take (i := 26) (oi := { dst := some 52, op := Op.load 100 (Operand.tmp 51), type := 100, pos := "law.go:16", after := #[{ on := 25, ground := Ground.data }, { on := 22, ground := Ground.guard }], guard := some (22, true) }) (v := ?_) rfl (by kernel_rfl) (by kernel_rfl) (by kernel_rfl) (fun _ _ _ h => h) (Or.inl ⟨by rfl, ?_⟩) (by assumption) ?_
  rotate_left
  · (intro wS hS; have q0 := cell_below hS q0; have q1 := cell_below hS q1; have q2 := cell_below hS q2; have q3 := cell_below hS q3; have q4 := cell_below hS q4; have p1 := cell_below hS p1; have p2 := cell_below hS p2; have e0 := cell_below hS e0; have e1 := cell_below hS e1; have e2 := cell_below hS e2; have e3 := cell_below hS e3; have e4 := cell_below hS e4; go_simp <;> with_reducible rfl)
  try simp only [Act.put, List.setIfInBounds_toArray, List.set_cons_zero, List.set_cons_succ]
  refine wpAnyH_take (i := 27) (oi := { dst := some 53, op := Op.load 100 (Operand.tmp 1), type := 100, pos := "law.go:16", after := #[{ on := 22, ground := Ground.guard }], guard := some (22, true) }) (v := ?_) rfl (by kernel_rfl) (by kernel_rfl) (by kernel_rfl) (fun _ _ _ h => h) (Or.inl ⟨by rfl, ?_⟩) (by assumption) ?_
  rotate_left
  · (intro wS hS; have q0 := cell_below hS q0; have q1 := cell_below hS q1; have q2 := cell_below hS q2; have q3 := cell_below hS q3; have q4 := cell_below hS q4; have p1 := cell_below hS p1; have p2 := cell_below hS p2; have e0 := cell_below hS e0; have e1 := cell_below hS e1; have e2 := cell_below hS e2; have e3 := cell_below hS e3; have e4 := cell_below hS e4; go_simp <;> with_reducible rfl)
  try simp only [Act.put, List.setIfInBounds_toArray, List.set_cons_zero, List.set_cons_succ]
  refine wpAnyH_take (i := 28) (oi := { dst := some 54, op := Op.binOp BinOp.eql 100 (Operand.tmp 52) (Operand.tmp 53) 100, type := 4, pos := "law.go:16", after := #[{ on := 26, ground := Ground.data }, { on := 27, ground := Ground.data }, { on := 22, ground := Ground.guard }], guard := some (22, true) }) (v := ?_) rfl (by kernel_rfl) (by kernel_rfl) (by kernel_rfl) (fun _ _ _ h => h) (Or.inl ⟨by rfl, ?_⟩) (by assumption) ?_
  rotate_left
  · (intro wS hS; go_simp <;> with_reducible rfl)
  try simp only [Act.put, List.setIfInBounds_toArray, List.set_cons_zero, List.set_cons_succ]
  refine wpAnyH_take (i := 29) (oi := { dst := some 55, op := Op.pick (Operand.tmp 48) (Operand.tmp 54) (Operand.const (Value.bool false)), type := 4, pos := "law.go:16", after := #[{ on := 22, ground := Ground.data }, { on := 28, ground := Ground.data }], guard := none }) (v := ?_) rfl (by kernel_rfl) (by kernel_rfl) (by kernel_rfl) (fun _ _ _ h => h) (Or.inl ⟨by rfl, ?_⟩) (by assumption) ?_
  rotate_left
  · (intro wS hS; go_simp <;> with_reducible rfl)
  try simp only [Act.put, List.setIfInBounds_toArray, List.set_cons_zero, List.set_cons_succ]
  refine wpAnyH_take (i := 30) (oi := { dst := some 56, op := Op.move (Operand.tmp 55), type := 4, pos := "law.go:16", after := #[{ on := 29, ground := Ground.data }, { on := 22, ground := Ground.chain }], guard := none }) (v := ?_) rfl (by kernel_rfl) (by kernel_rfl) (by kernel_rfl) (fun _ _ _ h => h) (Or.inl ⟨by rfl, ?_⟩) (by assumption) ?_
  rotate_left
  · (intro wS hS; go_simp <;> with_reducible rfl)
  try simp only [Act.put, List.setIfInBounds_toArray, List.set_cons_zero, List.set_cons_succ]
  refine wpAnyH_take (i := 31) (oi := { dst := some 57, op := Op.fieldAddr 47 (Operand.tmp 4) 1, type := 0, pos := "law.go:16", after := #[{ on := 30, ground := Ground.guard }], guard := some (30, true) }) (v := ?_) rfl (by kernel_rfl) (by kernel_rfl) (by kernel_rfl) (fun _ _ _ h => h) (Or.inl ⟨by rfl, ?_⟩) (by assumption) ?_
  rotate_left
  · (intro wS hS; go_simp <;> with_reducible rfl)
  try simp only [Act.put, List.setIfInBounds_toArray, List.set_cons_zero, List.set_cons_succ]
  refine wpAnyH_take (i := 32) (oi := { dst := some 58, op := Op.load 22 (Operand.tmp 57), type := 22, pos := "law.go:16", after := #[{ on := 31, ground := Ground.data }, { on := 30, ground := Ground.guard }], guard := some (30, true) }) (v := ?_) rfl (by kernel_rfl) (by kernel_rfl) (by kernel_rfl) (fun _ _ _ h => h) (Or.inl ⟨by rfl, ?_⟩) (by assumption) ?_
  rotate_left
  · (intro wS hS; have q0 := cell_below hS q0; have q1 := cell_below hS q1; have q2 := cell_below hS q2; have q3 := cell_below hS q3; have q4 := cell_below hS q4; have p1 := cell_below hS p1; have p2 := cell_below hS p2; have e0 := cell_below hS e0; have e1 := cell_below hS e1; have e2 := cell_below hS e2; have e3 := cell_below hS e3; have e4 := cell_below hS e4; go_simp <;> with_reducible rfl)
  try simp only [Act.put, List.setIfInBounds_toArray, List.set_cons_zero, List.set_cons_succ]
  refine wpAnyH_take (i := 33) (oi := { dst := some 59, op := Op.binOp BinOp.eql 22 (Operand.tmp 58) (Operand.const (Value.int IntKind.u64 3)) 22, type := 4, pos := "law.go:16", after := #[{ on := 32, ground := Ground.data }, { on := 30, ground := Ground.guard }], guard := some (30, true) }) (v := ?_) rfl (by kernel_rfl) (by kernel_rfl) (by kernel_rfl) (fun _ _ _ h => h) (Or.inl ⟨by rfl, ?_⟩) (by assumption) ?_
  rotate_left
  · (intro wS hS; go_simp <;> with_reducible rfl)
  try simp only [Act.put, List.setIfInBounds_toArray, List.set_cons_zero, List.set_cons_succ]
  refine wpAnyH_take (i := 34) (oi := { dst := some 60, op := Op.pick (Operand.tmp 56) (Operand.tmp 59) (Operand.const (Value.bool false)), type := 4, pos := "law.go:16", after := #[{ on := 30, ground := Ground.data }, { on := 33, ground := Ground.data }], guard := none }) (v := ?_) rfl (by kernel_rfl) (by kernel_rfl) (by kernel_rfl) (fun _ _ _ h => h) (Or.inl ⟨by rfl, ?_⟩) (by assumption) ?_
  rotate_left
  · (intro wS hS; go_simp <;> with_reducible rfl)
  try simp only [Act.put, List.setIfInBounds_toArray, List.set_cons_zero, List.set_cons_succ]
  refine wpAnyH_take (i := 35) (oi := { dst := some 61, op := Op.move (Operand.tmp 60), type := 4, pos := "law.go:16", after := #[{ on := 34, ground := Ground.data }, { on := 30, ground := Ground.chain }], guard := none }) (v := ?_) rfl (by kernel_rfl) (by kernel_rfl) (by kernel_rfl) (fun _ _ _ h => h) (Or.inl ⟨by rfl, ?_⟩) (by assumption) ?_
  rotate_left
  · (intro wS hS; go_simp <;> with_reducible rfl)
  try simp only [Act.put, List.setIfInBounds_toArray, List.set_cons_zero, List.set_cons_succ]
  refine wpAnyH_take (i := 36) (oi := { dst := some 62, op := Op.move (Operand.tmp 6), type := 53, pos := "law.go:16", after := #[{ on := 35, ground := Ground.guard }], guard := some (35, true) }) (v := ?_) rfl (by kernel_rfl) (by kernel_rfl) (by kernel_rfl) (fun _ _ _ h => h) (Or.inl ⟨by rfl, ?_⟩) (by assumption) ?_
  rotate_left
  · (intro wS hS; go_simp <;> with_reducible rfl)
  try simp only [Act.put, List.setIfInBounds_toArray, List.set_cons_zero, List.set_cons_succ]
  refine wpAnyH_take (i := 37) (oi := { dst := some 63, op := Op.convert 53 9 (Operand.tmp 62), type := 9, pos := "law.go:16", after := #[{ on := 36, ground := Ground.data }, { on := 35, ground := Ground.guard }], guard := some (35, true) }) (v := ?_) rfl (by kernel_rfl) (by kernel_rfl) (by kernel_rfl) (fun _ _ _ h => h) (Or.inl ⟨by rfl, ?_⟩) (by assumption) ?_
  rotate_left
  · (intro wS hS; have hstr := run_string_of (P := Try.prog) 53 9 5 Try.underlying53 Try.underlying5 Try.underlying9 (Rd.below hr hS); go_simp <;> with_reducible rfl)
  try simp only [Act.put, List.setIfInBounds_toArray, List.set_cons_zero, List.set_cons_succ]
  refine wpAnyH_take (i := 38) (oi := { dst := some 64, op := Op.binOp BinOp.eql 9 (Operand.tmp 63) (Operand.const (Value.string { data := #[10, 255] })) 9, type := 4, pos := "law.go:16", after := #[{ on := 37, ground := Ground.data }, { on := 35, ground := Ground.guard }], guard := some (35, true) }) (v := ?_) rfl (by kernel_rfl) (by kernel_rfl) (by kernel_rfl) (fun _ _ _ h => h) (Or.inl ⟨by rfl, ?_⟩) (by assumption) ?_
  rotate_left
  · (intro wS hS; go_simp <;> with_reducible rfl)
  try simp only [Act.put, List.setIfInBounds_toArray, List.set_cons_zero, List.set_cons_succ]
  refine wpAnyH_take (i := 39) (oi := { dst := some 65, op := Op.pick (Operand.tmp 61) (Operand.tmp 64) (Operand.const (Value.bool false)), type := 4, pos := "law.go:16", after := #[{ on := 35, ground := Ground.data }, { on := 38, ground := Ground.data }], guard := none }) (v := ?_) rfl (by kernel_rfl) (by kernel_rfl) (by kernel_rfl) (fun _ _ _ h => h) (Or.inl ⟨by rfl, ?_⟩) (by assumption) ?_
  rotate_left
  · (intro wS hS; go_simp <;> with_reducible rfl)
  try simp only [Act.put, List.setIfInBounds_toArray, List.set_cons_zero, List.set_cons_succ]
  refine wpAnyH_take (i := 40) (oi := { dst := some 66, op := Op.move (Operand.tmp 65), type := 4, pos := "law.go:16", after := #[{ on := 39, ground := Ground.data }, { on := 35, ground := Ground.chain }], guard := none }) (v := ?_) rfl (by kernel_rfl) (by kernel_rfl) (by kernel_rfl) (fun _ _ _ h => h) (Or.inl ⟨by rfl, ?_⟩) (by assumption) ?_
  rotate_left
  · (intro wS hS; go_simp <;> with_reducible rfl)
  try simp only [Act.put, List.setIfInBounds_toArray, List.set_cons_zero, List.set_cons_succ]
  refine wpAnyH_take (i := 41) (oi := { dst := some 67, op := Op.move (Operand.tmp 7), type := 4, pos := "law.go:16", after := #[{ on := 40, ground := Ground.guard }], guard := some (40, true) }) (v := ?_) rfl (by kernel_rfl) (by kernel_rfl) (by kernel_rfl) (fun _ _ _ h => h) (Or.inl ⟨by rfl, ?_⟩) (by assumption) ?_
  rotate_left
  · (intro wS hS; go_simp <;> with_reducible rfl)
  try simp only [Act.put, List.setIfInBounds_toArray, List.set_cons_zero, List.set_cons_succ]
  refine wpAnyH_take (i := 42) (oi := { dst := some 68, op := Op.pick (Operand.tmp 66) (Operand.tmp 67) (Operand.const (Value.bool false)), type := 4, pos := "law.go:16", after := #[{ on := 40, ground := Ground.data }, { on := 41, ground := Ground.data }], guard := none }) (v := ?_) rfl (by kernel_rfl) (by kernel_rfl) (by kernel_rfl) (fun _ _ _ h => h) (Or.inl ⟨by rfl, ?_⟩) (by assumption) ?_
  rotate_left
  · (intro wS hS; go_simp <;> with_reducible rfl)
  try simp only [Act.put, List.setIfInBounds_toArray, List.set_cons_zero, List.set_cons_succ]
  refine wpAnyH_take (i := 43) (oi := { dst := some 69, op := Op.move (Operand.tmp 68), type := 4, pos := "law.go:16", after := #[{ on := 42, ground := Ground.data }, { on := 40, ground := Ground.chain }], guard := none }) (v := ?_) rfl (by kernel_rfl) (by kernel_rfl) (by kernel_rfl) (fun _ _ _ h => h) (Or.inl ⟨by rfl, ?_⟩) (by assumption) ?_
  rotate_left
  · (intro wS hS; go_simp <;> with_reducible rfl)
  try simp only [Act.put, List.setIfInBounds_toArray, List.set_cons_zero, List.set_cons_succ]
  refine wpAnyH_take (i := 44) (oi := { dst := some 70, op := Op.move (Operand.tmp 6), type := 53, pos := "law.go:16", after := #[{ on := 43, ground := Ground.guard }], guard := some (43, true) }) (v := ?_) rfl (by kernel_rfl) (by kernel_rfl) (by kernel_rfl) (fun _ _ _ h => h) (Or.inl ⟨by rfl, ?_⟩) (by assumption) ?_
  rotate_left
  · (intro wS hS; go_simp <;> with_reducible rfl)
  try simp only [Act.put, List.setIfInBounds_toArray, List.set_cons_zero, List.set_cons_succ]
  refine wpAnyH_ready (rs := [45]) (by kernel_rfl) (by simp) ?_
  refine AllReadyH.cons (o := { dst := some 71, op := Op.call { callee := Callee.value (Operand.func 29), args := #[Operand.tmp 70], argTypes := #[53] }, type := 9, pos := "law.go:16", after := #[{ on := 44, ground := Ground.data }, { on := 43, ground := Ground.chain }, { on := 43, ground := Ground.guard }], guard := some (43, true) }) rfl (fun K hK => ?_) AllReadyH.nil
  go_simp
  refine (KH _ _ _ (Rd.below hr hS)).out.mono ?_
  rintro e w145 ⟨rfl, hb⟩
  replace hS : (fun W => Below (w7).heap.size (w7) W) w145 := below_then hS hb (Below.size hS)
  refine hK.out _ _ hS (fun _ => ?_)
  clear hK K hb
  try simp only [Act.put, List.setIfInBounds_toArray, List.set_cons_zero, List.set_cons_succ]
  refine wpAnyH_take (i := 46) (oi := { dst := some 72, op := Op.binOp BinOp.eql 9 (Operand.tmp 71) (Operand.const (Value.string { data := #[48, 97, 102, 102] })) 9, type := 4, pos := "law.go:16", after := #[{ on := 45, ground := Ground.data }, { on := 43, ground := Ground.guard }], guard := some (43, true) }) (v := ?_) rfl (by kernel_rfl) (by kernel_rfl) (by kernel_rfl) (fun _ _ _ h => h) (Or.inl ⟨by rfl, ?_⟩) (by assumption) ?_
  rotate_left
  · (intro wS hS; go_simp <;> with_reducible rfl)
  try simp only [Act.put, List.setIfInBounds_toArray, List.set_cons_zero, List.set_cons_succ]
  refine wpAnyH_take (i := 47) (oi := { dst := some 73, op := Op.pick (Operand.tmp 69) (Operand.tmp 72) (Operand.const (Value.bool false)), type := 4, pos := "law.go:16", after := #[{ on := 43, ground := Ground.data }, { on := 46, ground := Ground.data }], guard := none }) (v := ?_) rfl (by kernel_rfl) (by kernel_rfl) (by kernel_rfl) (fun _ _ _ h => h) (Or.inl ⟨by rfl, ?_⟩) (by assumption) ?_
  rotate_left
  · (intro wS hS; go_simp <;> with_reducible rfl)
  try simp only [Act.put, List.setIfInBounds_toArray, List.set_cons_zero, List.set_cons_succ]
  refine wpAnyH_take (i := 48) (oi := { dst := some 0, op := Op.assign (Operand.tmp 73), type := 4, pos := "law.go:16", after := #[{ on := 47, ground := Ground.data }, { on := 45, ground := Ground.chain }, { on := 0, ground := Ground.phase }, { on := 1, ground := Ground.phase }, { on := 2, ground := Ground.phase }, { on := 3, ground := Ground.phase }, { on := 4, ground := Ground.phase }, { on := 5, ground := Ground.phase }, { on := 6, ground := Ground.phase }, { on := 7, ground := Ground.phase }, { on := 8, ground := Ground.phase }, { on := 9, ground := Ground.phase }, { on := 10, ground := Ground.phase }, { on := 11, ground := Ground.phase }, { on := 12, ground := Ground.phase }, { on := 13, ground := Ground.phase }, { on := 14, ground := Ground.phase }, { on := 15, ground := Ground.phase }, { on := 16, ground := Ground.phase }, { on := 17, ground := Ground.phase }, { on := 18, ground := Ground.phase }, { on := 19, ground := Ground.phase }, { on := 20, ground := Ground.phase }, { on := 21, ground := Ground.phase }, { on := 22, ground := Ground.phase }, { on := 23, ground := Ground.phase }, { on := 24, ground := Ground.phase }, { on := 25, ground := Ground.phase }, { on := 26, ground := Ground.phase }, { on := 27, ground := Ground.phase }, { on := 28, ground := Ground.phase }, { on := 29, ground := Ground.phase }, { on := 30, ground := Ground.phase }, { on := 31, ground := Ground.phase }, { on := 32, ground := Ground.phase }, { on := 33, ground := Ground.phase }, { on := 34, ground := Ground.phase }, { on := 35, ground := Ground.phase }, { on := 36, ground := Ground.phase }, { on := 37, ground := Ground.phase }, { on := 38, ground := Ground.phase }, { on := 39, ground := Ground.phase }, { on := 40, ground := Ground.phase }, { on := 41, ground := Ground.phase }, { on := 42, ground := Ground.phase }, { on := 43, ground := Ground.phase }, { on := 44, ground := Ground.phase }, { on := 45, ground := Ground.phase }, { on := 46, ground := Ground.phase }, { on := 47, ground := Ground.phase }], guard := none }) (v := ?_) rfl (by kernel_rfl) (by kernel_rfl) (by kernel_rfl) (fun _ _ _ h => h) (Or.inl ⟨by rfl, ?_⟩) (by assumption) ?_
  rotate_left
  · (intro wS hS; go_simp <;> with_reducible rfl)
  try simp only [Act.put, List.setIfInBounds_toArray, List.set_cons_zero, List.set_cons_succ]
  refine wpAnyH_done (by kernel_rfl) ?_ _
  go_wp2_with fail
  go_ret
  exact ⟨rfl, below_of (below_trans bb hS) (Nat.le_refl _)⟩
end Go.Proofs.Ytefipigdkdopcaa
