/- Layer 8 (stamp): what must come at any rate; the laws. -/
import Derived.Test.YtieigjlbjiielaaStamp3
namespace Go.Proofs.Ytieigjlbjiielaa
open Go.RowKit

theorem key_awake : keyB 1 0 0 5 2 [] = [49, 32, 48, 32, 48, 32, 53, 32, 50, 32] := by
  simp [keyB, digs]

set_option maxRecDepth 100000 in
set_option maxHeartbeats 1000000 in
theorem awake08_any (w : World) : Calls Try.prog 9 #[] w fun e w' => e = .returned (.bool true) ∧ Below w.heap.size w w' := by
  have hB := Below.refl w.heap.size w
  have KV := Lib.hid (svalue_any 5 2 w)
  have KO := fun A w h => Lib.hid (sof_any 5 2 A 2 w h)
  have KE := fun w => Lib.hid (send_any 5 2 3 w (by omega) (by omega))
  have K8 := fun w => Lib.hid (sover_any 5 2 3 8 w (by omega) (by omega))
  have K7 := fun w => Lib.hid (sover_any 5 2 3 7 w (by omega) (by omega))
  have KL := fun w => Lib.hid (sless_any 5 2 5 3 w)
  have KK := fun w => Lib.hid (skey_any 1 0 0 5 2 [] w (by omega) (by omega) (by omega) (by omega) (by omega) (by simp))
  simp only [key_awake, show endN 5 3 = 8 from rfl, show lessB 5 2 5 3 = true from rfl, show decide (8 ≤ 8) = true from rfl, show decide (8 ≤ 7) = false from rfl] at KE K8 K7 KL KK
  go_enter Try.func9, Try.ntmps9
  go_wp2_with fail
  refine KV.out.mono ?_
  rintro e w1 ⟨A, rfl, hr, hb⟩
  replace hB := below_trans hB hb
  clear hb KV
  go_wp2_with fail
  refine (KO _ _ hr).out.mono ?_
  rintro e w2 ⟨rfl, hb⟩
  replace hB := below_trans hB hb
  clear hb KO hr
  obtain ⟨hb, hca⟩ := one_cells w2 #[.int .u64 5, .int .u64 2] 24
  have c0 := hca 0 (.int .u64 5) rfl
  have c1 := hca 1 (.int .u64 2) rfl
  replace hB := below_trans hB hb
  clear hb hca
  go_wp2_with (first
    | (go_at_call 10; refine (KE _).out.mono ?_; rintro e w3 ⟨rfl, hb⟩; replace hB := below_trans hB hb; replace c0 := cell_below hb c0; replace c1 := cell_below hb c1; clear hb)
    | (go_at_call_of 12 (Value.int IntKind.u64 8); refine (K8 _).out.mono ?_; rintro e w3 ⟨rfl, hb⟩; replace hB := below_trans hB hb; replace c0 := cell_below hb c0; replace c1 := cell_below hb c1; clear hb)
    | (go_at_call_of 12 (Value.int IntKind.u64 7); refine (K7 _).out.mono ?_; rintro e w3 ⟨rfl, hb⟩; replace hB := below_trans hB hb; replace c0 := cell_below hb c0; replace c1 := cell_below hb c1; clear hb)
    | (go_at_call 16; refine (KL _).out.mono ?_; rintro e w3 ⟨rfl, hb⟩; replace hB := below_trans hB hb; replace c0 := cell_below hb c0; replace c1 := cell_below hb c1; clear hb)
    | (go_at_call 13; refine (KK _).out.mono ?_; rintro e w3 ⟨rfl, hb⟩; replace hB := below_trans hB hb; clear hb c0 c1))
  go_ret
  exact ⟨by simp, hB⟩

set_option maxRecDepth 100000 in
set_option maxHeartbeats 2000000 in
theorem stampends_law (s1 s2 life now : Nat) (w : World) (h1 : s1 < 18446744073709551616) (hl : life < 18446744073709551616) :
    Calls Try.prog 3 #[stp s1 s2, .int .u64 life, .int .u64 now] w fun e w' => e = .returned (.bool true) ∧ Below w.heap.size w w' := by
  obtain ⟨hB, hca⟩ := one_cells w #[.int .u64 (s1 : Int), .int .u64 (s2 : Int)] 24
  have c0 := hca 0 (.int .u64 (s1 : Int)) rfl
  have c1 := hca 1 (.int .u64 (s2 : Int)) rfl
  clear hca
  have KE := fun w => Lib.hid (send_any s1 s2 life w h1 hl)
  have KR := fun w => Lib.hid (refend_any s1 s2 life w h1 hl)
  have KO := fun w => Lib.hid (sover_any s1 s2 life now w h1 hl)
  clear h1 hl
  generalize endN s1 life = r at *
  have HD : Hid (decide (r ≤ now) = decide ((r : Int) ≤ now)) := by show _ = _; rw [decide_eq_decide]; omega
  generalize decide (r ≤ now) = d at *
  go_enter Try.func3, Try.ntmps3
  go_wp2_with fail
  obtain ⟨w0, hw0⟩ : ∃ W, W = w.alloc (.cells #[.int .u64 (s1 : Int), .int .u64 (s2 : Int)] 24) := ⟨_, rfl⟩
  rw [← hw0] at c0 c1 hB ⊢
  clear hw0
  refine wp_region_held (S := fun W => Below (w0).heap.size (w0) W) (by kernel_rfl) ?_
  change wpAnyH _ _ _ _ _ _ _ _ (w0).drew
  have hS : (fun W => Below (w0).heap.size (w0) W) (w0).drew := (Below.refl _ _).drew
  refine wpAnyH_ready (rs := [0]) (by kernel_rfl) (by simp) ?_
  refine AllReadyH.cons (o := { dst := some 7, op := Op.call { callee := Callee.value (Operand.func 9), args := #[], argTypes := #[] }, type := 4, pos := "law.go:48", after := #[], guard := none }) rfl (fun K hK => ?_) AllReadyH.nil
  go_simp
  refine (awake08_any _).mono ?_
  rintro e w100 ⟨rfl, hb⟩
  replace hS : (fun W => Below (w0).heap.size (w0) W) w100 := below_then hS hb (Below.size hS)
  refine hK.out _ _ hS (fun _ => ?_)
  clear hK K hb
  try simp only [Act.put, List.setIfInBounds_toArray, List.set_cons_zero, List.set_cons_succ]
  refine wpAnyH_take (i := 1) (oi := { dst := some 8, op := Op.move (Operand.tmp 7), type := 4, pos := "law.go:48", after := #[{ on := 0, ground := Ground.data }, { on := 0, ground := Ground.chain }], guard := none }) (v := ?_) rfl (by kernel_rfl) (by kernel_rfl) (by kernel_rfl) (fun _ _ _ h => h) (Or.inl ⟨by rfl, ?_⟩) (by assumption) ?_
  rotate_left
  · (intro wS hS; go_simp <;> with_reducible rfl)
  try simp only [Act.put, List.setIfInBounds_toArray, List.set_cons_zero, List.set_cons_succ]
  refine wpAnyH_take (i := 2) (oi := { dst := some 9, op := Op.load 24 (Operand.tmp 3), type := 24, pos := "law.go:48", after := #[{ on := 1, ground := Ground.guard }], guard := some (1, true) }) (v := ?_) rfl (by kernel_rfl) (by kernel_rfl) (by kernel_rfl) (fun _ _ _ h => h) (Or.inl ⟨by rfl, ?_⟩) (by assumption) ?_
  rotate_left
  · (intro wS hS; have c0 := cell_below hS c0; have c1 := cell_below hS c1; go_simp <;> with_reducible rfl)
  try simp only [Act.put, List.setIfInBounds_toArray, List.set_cons_zero, List.set_cons_succ]
  refine wpAnyH_take (i := 3) (oi := { dst := some 10, op := Op.move (Operand.tmp 1), type := 22, pos := "law.go:48", after := #[{ on := 1, ground := Ground.guard }], guard := some (1, true) }) (v := ?_) rfl (by kernel_rfl) (by kernel_rfl) (by kernel_rfl) (fun _ _ _ h => h) (Or.inl ⟨by rfl, ?_⟩) (by assumption) ?_
  rotate_left
  · (intro wS hS; go_simp <;> with_reducible rfl)
  try simp only [Act.put, List.setIfInBounds_toArray, List.set_cons_zero, List.set_cons_succ]
  refine wpAnyH_take (i := 5) (oi := { dst := some 12, op := Op.load 24 (Operand.tmp 3), type := 24, pos := "law.go:48", after := #[{ on := 1, ground := Ground.guard }], guard := some (1, true) }) (v := ?_) rfl (by kernel_rfl) (by kernel_rfl) (by kernel_rfl) (fun _ _ _ h => h) (Or.inl ⟨by rfl, ?_⟩) (by assumption) ?_
  rotate_left
  · (intro wS hS; have c0 := cell_below hS c0; have c1 := cell_below hS c1; go_simp <;> with_reducible rfl)
  try simp only [Act.put, List.setIfInBounds_toArray, List.set_cons_zero, List.set_cons_succ]
  refine wpAnyH_take (i := 6) (oi := { dst := some 13, op := Op.move (Operand.tmp 1), type := 22, pos := "law.go:48", after := #[{ on := 1, ground := Ground.guard }], guard := some (1, true) }) (v := ?_) rfl (by kernel_rfl) (by kernel_rfl) (by kernel_rfl) (fun _ _ _ h => h) (Or.inl ⟨by rfl, ?_⟩) (by assumption) ?_
  rotate_left
  · (intro wS hS; go_simp <;> with_reducible rfl)
  try simp only [Act.put, List.setIfInBounds_toArray, List.set_cons_zero, List.set_cons_succ]
  refine wpAnyH_ready (rs := [4]) (by kernel_rfl) (by simp) ?_
  refine AllReadyH.cons (o := { dst := some 11, op := Op.call { callee := Callee.value (Operand.func 10), args := #[Operand.tmp 9, Operand.tmp 10], argTypes := #[24, 22] }, type := 22, pos := "law.go:48", after := #[{ on := 2, ground := Ground.data }, { on := 3, ground := Ground.data }, { on := 1, ground := Ground.chain }, { on := 1, ground := Ground.guard }], guard := some (1, true) }) rfl (fun K hK => ?_) AllReadyH.nil
  go_simp
  refine (KE _).out.mono ?_
  rintro e w104 ⟨rfl, hb⟩
  replace hS : (fun W => Below (w0).heap.size (w0) W) w104 := below_then hS hb (Below.size hS)
  refine hK.out _ _ hS (fun _ => ?_)
  clear hK K hb
  try simp only [Act.put, List.setIfInBounds_toArray, List.set_cons_zero, List.set_cons_succ]
  refine wpAnyH_ready (rs := [7]) (by kernel_rfl) (by simp) ?_
  refine AllReadyH.cons (o := { dst := some 14, op := Op.call { callee := Callee.value (Operand.func 11), args := #[Operand.tmp 12, Operand.tmp 13], argTypes := #[24, 22] }, type := 22, pos := "law.go:48", after := #[{ on := 5, ground := Ground.data }, { on := 6, ground := Ground.data }, { on := 4, ground := Ground.chain }, { on := 1, ground := Ground.guard }], guard := some (1, true) }) rfl (fun K hK => ?_) AllReadyH.nil
  go_simp
  refine (KR _).out.mono ?_
  rintro e w107 ⟨rfl, hb⟩
  replace hS : (fun W => Below (w0).heap.size (w0) W) w107 := below_then hS hb (Below.size hS)
  refine hK.out _ _ hS (fun _ => ?_)
  clear hK K hb
  try simp only [Act.put, List.setIfInBounds_toArray, List.set_cons_zero, List.set_cons_succ]
  refine wpAnyH_take (i := 8) (oi := { dst := some 15, op := Op.binOp BinOp.eql 22 (Operand.tmp 11) (Operand.tmp 14) 22, type := 4, pos := "law.go:48", after := #[{ on := 4, ground := Ground.data }, { on := 7, ground := Ground.data }, { on := 1, ground := Ground.guard }], guard := some (1, true) }) (v := ?_) rfl (by kernel_rfl) (by kernel_rfl) (by kernel_rfl) (fun _ _ _ h => h) (Or.inl ⟨by rfl, ?_⟩) (by assumption) ?_
  rotate_left
  · (intro wS hS; go_simp <;> with_reducible rfl)
  try simp only [Act.put, List.setIfInBounds_toArray, List.set_cons_zero, List.set_cons_succ]
  refine wpAnyH_take (i := 9) (oi := { dst := some 16, op := Op.pick (Operand.tmp 8) (Operand.tmp 15) (Operand.const (Value.bool false)), type := 4, pos := "law.go:48", after := #[{ on := 1, ground := Ground.data }, { on := 8, ground := Ground.data }], guard := none }) (v := ?_) rfl (by kernel_rfl) (by kernel_rfl) (by kernel_rfl) (fun _ _ _ h => h) (Or.inl ⟨by rfl, ?_⟩) (by assumption) ?_
  rotate_left
  · (intro wS hS; go_simp <;> with_reducible rfl)
  try simp only [Act.put, List.setIfInBounds_toArray, List.set_cons_zero, List.set_cons_succ]
  refine wpAnyH_take (i := 10) (oi := { dst := some 17, op := Op.move (Operand.tmp 16), type := 4, pos := "law.go:48", after := #[{ on := 9, ground := Ground.data }, { on := 7, ground := Ground.chain }], guard := none }) (v := ?_) rfl (by kernel_rfl) (by kernel_rfl) (by kernel_rfl) (fun _ _ _ h => h) (Or.inl ⟨by rfl, ?_⟩) (by assumption) ?_
  rotate_left
  · (intro wS hS; go_simp <;> with_reducible rfl)
  try simp only [Act.put, List.setIfInBounds_toArray, List.set_cons_zero, List.set_cons_succ]
  refine wpAnyH_take (i := 11) (oi := { dst := some 18, op := Op.load 24 (Operand.tmp 3), type := 24, pos := "law.go:48", after := #[{ on := 10, ground := Ground.guard }], guard := some (10, true) }) (v := ?_) rfl (by kernel_rfl) (by kernel_rfl) (by kernel_rfl) (fun _ _ _ h => h) (Or.inl ⟨by rfl, ?_⟩) (by assumption) ?_
  rotate_left
  · (intro wS hS; have c0 := cell_below hS c0; have c1 := cell_below hS c1; go_simp <;> with_reducible rfl)
  try simp only [Act.put, List.setIfInBounds_toArray, List.set_cons_zero, List.set_cons_succ]
  refine wpAnyH_take (i := 12) (oi := { dst := some 19, op := Op.move (Operand.tmp 1), type := 22, pos := "law.go:48", after := #[{ on := 10, ground := Ground.guard }], guard := some (10, true) }) (v := ?_) rfl (by kernel_rfl) (by kernel_rfl) (by kernel_rfl) (fun _ _ _ h => h) (Or.inl ⟨by rfl, ?_⟩) (by assumption) ?_
  rotate_left
  · (intro wS hS; go_simp <;> with_reducible rfl)
  try simp only [Act.put, List.setIfInBounds_toArray, List.set_cons_zero, List.set_cons_succ]
  refine wpAnyH_take (i := 13) (oi := { dst := some 20, op := Op.move (Operand.tmp 2), type := 22, pos := "law.go:48", after := #[{ on := 10, ground := Ground.guard }], guard := some (10, true) }) (v := ?_) rfl (by kernel_rfl) (by kernel_rfl) (by kernel_rfl) (fun _ _ _ h => h) (Or.inl ⟨by rfl, ?_⟩) (by assumption) ?_
  rotate_left
  · (intro wS hS; go_simp <;> with_reducible rfl)
  try simp only [Act.put, List.setIfInBounds_toArray, List.set_cons_zero, List.set_cons_succ]
  refine wpAnyH_take (i := 15) (oi := { dst := some 22, op := Op.load 24 (Operand.tmp 3), type := 24, pos := "law.go:48", after := #[{ on := 10, ground := Ground.guard }], guard := some (10, true) }) (v := ?_) rfl (by kernel_rfl) (by kernel_rfl) (by kernel_rfl) (fun _ _ _ h => h) (Or.inl ⟨by rfl, ?_⟩) (by assumption) ?_
  rotate_left
  · (intro wS hS; have c0 := cell_below hS c0; have c1 := cell_below hS c1; go_simp <;> with_reducible rfl)
  try simp only [Act.put, List.setIfInBounds_toArray, List.set_cons_zero, List.set_cons_succ]
  refine wpAnyH_take (i := 16) (oi := { dst := some 23, op := Op.move (Operand.tmp 1), type := 22, pos := "law.go:48", after := #[{ on := 10, ground := Ground.guard }], guard := some (10, true) }) (v := ?_) rfl (by kernel_rfl) (by kernel_rfl) (by kernel_rfl) (fun _ _ _ h => h) (Or.inl ⟨by rfl, ?_⟩) (by assumption) ?_
  rotate_left
  · (intro wS hS; go_simp <;> with_reducible rfl)
  try simp only [Act.put, List.setIfInBounds_toArray, List.set_cons_zero, List.set_cons_succ]
  refine wpAnyH_take (i := 18) (oi := { dst := some 25, op := Op.move (Operand.tmp 2), type := 22, pos := "law.go:48", after := #[{ on := 10, ground := Ground.guard }], guard := some (10, true) }) (v := ?_) rfl (by kernel_rfl) (by kernel_rfl) (by kernel_rfl) (fun _ _ _ h => h) (Or.inl ⟨by rfl, ?_⟩) (by assumption) ?_
  rotate_left
  · (intro wS hS; go_simp <;> with_reducible rfl)
  try simp only [Act.put, List.setIfInBounds_toArray, List.set_cons_zero, List.set_cons_succ]
  refine wpAnyH_ready (rs := [14]) (by kernel_rfl) (by simp) ?_
  refine AllReadyH.cons (o := { dst := some 21, op := Op.call { callee := Callee.value (Operand.func 12), args := #[Operand.tmp 18, Operand.tmp 19, Operand.tmp 20], argTypes := #[24, 22, 22] }, type := 4, pos := "law.go:48", after := #[{ on := 11, ground := Ground.data }, { on := 12, ground := Ground.data }, { on := 13, ground := Ground.data }, { on := 10, ground := Ground.chain }, { on := 10, ground := Ground.guard }], guard := some (10, true) }) rfl (fun K hK => ?_) AllReadyH.nil
  go_simp
  refine (KO _).out.mono ?_
  rintro e w114 ⟨rfl, hb⟩
  replace hS : (fun W => Below (w0).heap.size (w0) W) w114 := below_then hS hb (Below.size hS)
  refine hK.out _ _ hS (fun _ => ?_)
  clear hK K hb
  try simp only [Act.put, List.setIfInBounds_toArray, List.set_cons_zero, List.set_cons_succ]
  refine wpAnyH_ready (rs := [17]) (by kernel_rfl) (by simp) ?_
  refine AllReadyH.cons (o := { dst := some 24, op := Op.call { callee := Callee.value (Operand.func 11), args := #[Operand.tmp 22, Operand.tmp 23], argTypes := #[24, 22] }, type := 22, pos := "law.go:48", after := #[{ on := 15, ground := Ground.data }, { on := 16, ground := Ground.data }, { on := 14, ground := Ground.chain }, { on := 10, ground := Ground.guard }], guard := some (10, true) }) rfl (fun K hK => ?_) AllReadyH.nil
  go_simp
  refine (KR _).out.mono ?_
  rintro e w117 ⟨rfl, hb⟩
  replace hS : (fun W => Below (w0).heap.size (w0) W) w117 := below_then hS hb (Below.size hS)
  refine hK.out _ _ hS (fun _ => ?_)
  clear hK K hb
  try simp only [Act.put, List.setIfInBounds_toArray, List.set_cons_zero, List.set_cons_succ]
  refine wpAnyH_take (i := 19) (oi := { dst := some 26, op := Op.binOp BinOp.leq 22 (Operand.tmp 24) (Operand.tmp 25) 22, type := 4, pos := "law.go:48", after := #[{ on := 17, ground := Ground.data }, { on := 18, ground := Ground.data }, { on := 10, ground := Ground.guard }], guard := some (10, true) }) (v := ?_) rfl (by kernel_rfl) (by kernel_rfl) (by kernel_rfl) (fun _ _ _ h => h) (Or.inl ⟨by rfl, ?_⟩) (by assumption) ?_
  rotate_left
  · (intro wS hS; go_simp <;> with_reducible rfl)
  try simp only [Act.put, List.setIfInBounds_toArray, List.set_cons_zero, List.set_cons_succ]
  refine wpAnyH_take (i := 20) (oi := { dst := some 27, op := Op.binOp BinOp.eql 4 (Operand.tmp 21) (Operand.tmp 26) 4, type := 4, pos := "law.go:48", after := #[{ on := 14, ground := Ground.data }, { on := 19, ground := Ground.data }, { on := 10, ground := Ground.guard }], guard := some (10, true) }) (v := ?_) rfl (by kernel_rfl) (by kernel_rfl) (by kernel_rfl) (fun _ _ _ h => h) (Or.inl ⟨by rfl, ?_⟩) (by assumption) ?_
  rotate_left
  · (intro wS hS; go_simp <;> with_reducible rfl)
  try simp only [Act.put, List.setIfInBounds_toArray, List.set_cons_zero, List.set_cons_succ]
  refine wpAnyH_take (i := 21) (oi := { dst := some 28, op := Op.pick (Operand.tmp 17) (Operand.tmp 27) (Operand.const (Value.bool false)), type := 4, pos := "law.go:48", after := #[{ on := 10, ground := Ground.data }, { on := 20, ground := Ground.data }], guard := none }) (v := ?_) rfl (by kernel_rfl) (by kernel_rfl) (by kernel_rfl) (fun _ _ _ h => h) (Or.inl ⟨by rfl, ?_⟩) (by assumption) ?_
  rotate_left
  · (intro wS hS; go_simp <;> with_reducible rfl)
  try simp only [Act.put, List.setIfInBounds_toArray, List.set_cons_zero, List.set_cons_succ]
  refine wpAnyH_take (i := 22) (oi := { dst := some 6, op := Op.assign (Operand.tmp 28), type := 4, pos := "law.go:48", after := #[{ on := 21, ground := Ground.data }, { on := 17, ground := Ground.chain }, { on := 0, ground := Ground.phase }, { on := 1, ground := Ground.phase }, { on := 2, ground := Ground.phase }, { on := 3, ground := Ground.phase }, { on := 4, ground := Ground.phase }, { on := 5, ground := Ground.phase }, { on := 6, ground := Ground.phase }, { on := 7, ground := Ground.phase }, { on := 8, ground := Ground.phase }, { on := 9, ground := Ground.phase }, { on := 10, ground := Ground.phase }, { on := 11, ground := Ground.phase }, { on := 12, ground := Ground.phase }, { on := 13, ground := Ground.phase }, { on := 14, ground := Ground.phase }, { on := 15, ground := Ground.phase }, { on := 16, ground := Ground.phase }, { on := 17, ground := Ground.phase }, { on := 18, ground := Ground.phase }, { on := 19, ground := Ground.phase }, { on := 20, ground := Ground.phase }, { on := 21, ground := Ground.phase }], guard := none }) (v := ?_) rfl (by kernel_rfl) (by kernel_rfl) (by kernel_rfl) (fun _ _ _ h => h) (Or.inl ⟨by rfl, ?_⟩) (by assumption) ?_
  rotate_left
  · (intro wS hS; go_simp <;> with_reducible rfl)
  try simp only [Act.put, List.setIfInBounds_toArray, List.set_cons_zero, List.set_cons_succ]
  refine wpAnyH_done (by kernel_rfl) ?_ _
  go_wp2_with fail
  go_ret
  exact ⟨ret_bool (by simp [HD.out]), hB.trans (below_of hS hB.size)⟩
end Go.Proofs.Ytieigjlbjiielaa
