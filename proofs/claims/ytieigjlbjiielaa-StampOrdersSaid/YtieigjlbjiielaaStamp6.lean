/- The law StampOrders, walked. -/
import Derived.Test.YtieigjlbjiielaaStamp5
import Derived.Deep.DeepCutAuto
namespace Go.Proofs.Ytieigjlbjiielaa
open Go.RowKit

theorem cells_rd2 {w : World} {cs : Array Value} {e : TypeId} {n : Nat} (hn : cs.size = n * 2) (hm : n ≤ maxLen) : Rd (w.alloc (.cells cs e)) (some ⟨w.heap.size, 0, none⟩) n n 2 cs.toList := by
  refine ⟨by simpa using hn, Nat.le_refl _, hm, fun e => (by cases e), fun ad e j u hu => ?_⟩
  cases e
  exact World.news_of_block (alloc_new w _) j u hu

theorem lat3 (a b c : Nat × Nat) : (latN [a, b, c] 3 = a ∨ latN [a, b, c] 3 = b ∨ latN [a, b, c] 3 = c) ∧ lessB (latN [a, b, c] 3).1 (latN [a, b, c] 3).2 a.1 a.2 = false ∧ lessB (latN [a, b, c] 3).1 (latN [a, b, c] 3).2 b.1 b.2 = false ∧ lessB (latN [a, b, c] 3).1 (latN [a, b, c] 3).2 c.1 c.2 = false := by
  obtain ⟨a1, a2⟩ := a
  obtain ⟨b1, b2⟩ := b
  obtain ⟨c1, c2⟩ := c
  have e : latN [(a1, a2), (b1, b2), (c1, c2)] 3 = latS (latS (a1, a2) (b1, b2)) (c1, c2) := rfl
  rw [e]
  unfold latS
  split
  · rename_i h1
    simp only [lessB, Bool.or_eq_true, Bool.and_eq_true, decide_eq_true_eq] at h1
    split
    · rename_i h2
      simp only [lessB, Bool.or_eq_true, Bool.and_eq_true, decide_eq_true_eq] at h2
      refine ⟨by simp, ?_, ?_, ?_⟩ <;> simp [lessB] <;> omega
    · rename_i h2
      simp only [lessB, Bool.or_eq_true, Bool.and_eq_true, decide_eq_true_eq] at h2
      refine ⟨by simp, ?_, ?_, ?_⟩ <;> simp [lessB] <;> omega
  · rename_i h1
    simp only [lessB, Bool.or_eq_true, Bool.and_eq_true, decide_eq_true_eq] at h1
    split
    · rename_i h2
      simp only [lessB, Bool.or_eq_true, Bool.and_eq_true, decide_eq_true_eq] at h2
      refine ⟨by simp, ?_, ?_, ?_⟩ <;> simp [lessB] <;> omega
    · rename_i h2
      simp only [lessB, Bool.or_eq_true, Bool.and_eq_true, decide_eq_true_eq] at h2
      refine ⟨by simp, ?_, ?_, ?_⟩ <;> simp [lessB] <;> omega

set_option maxRecDepth 100000 in
set_option maxHeartbeats 8000000 in
theorem stamporders_law (a1v a2v b1v b2v c1v c2v : Nat) (w : World) :
    Calls Try.prog 5 #[stp a1v a2v, stp b1v b2v, stp c1v c2v] w fun e w' => e = .returned (.bool true) ∧ Below w.heap.size w w' := by
  obtain ⟨hB, hca, hcb, hcc⟩ := three_cells w #[.int .u64 (a1v : Int), .int .u64 (a2v : Int)] #[.int .u64 (b1v : Int), .int .u64 (b2v : Int)] #[.int .u64 (c1v : Int), .int .u64 (c2v : Int)] 24 24 24
  have a0 := hca 0 (.int .u64 (a1v : Int)) rfl
  have a1 := hca 1 (.int .u64 (a2v : Int)) rfl
  have b0 := hcb 0 (.int .u64 (b1v : Int)) rfl
  have b1 := hcb 1 (.int .u64 (b2v : Int)) rfl
  have c0 : _ = some (Value.int .u64 (c1v : Int)) := cell_heap (o := 0) hcc
  have c1 : _ = some (Value.int .u64 (c2v : Int)) := cell_heap (o := 1) hcc
  clear hca hcb hcc
  have hM := lat3 (a1v, a2v) (b1v, b2v) (c1v, c2v)
  have KT := fun A W h => Lib.hid (latest_any [(a1v, a2v), (b1v, b2v), (c1v, c2v)] A 3 3 W h (by omega))
  generalize latN [(a1v, a2v), (b1v, b2v), (c1v, c2v)] 3 = L at *
  obtain ⟨l1v, l2v⟩ := L
  obtain ⟨hM, m1, m2, m3⟩ := hM
  dsimp only at m1 m2 m3 KT
  simp only [Prod.mk.injEq] at hM
  go_enter Try.func5, Try.ntmps5
  go_wp2_with fail
  have hsz : (((w.alloc (.cells #[.int .u64 (a1v : Int), .int .u64 (a2v : Int)] 24)).alloc (.cells #[.int .u64 (b1v : Int), .int .u64 (b2v : Int)] 24)).alloc (.cells #[.int .u64 (c1v : Int), .int .u64 (c2v : Int)] 24)).heap.size = w.heap.size + 1 + 1 + 1 := by rw [alloc_size, alloc_size, alloc_size]
  generalize (((w.alloc (.cells #[.int .u64 (a1v : Int), .int .u64 (a2v : Int)] 24)).alloc (.cells #[.int .u64 (b1v : Int), .int .u64 (b2v : Int)] 24)).alloc (.cells #[.int .u64 (c1v : Int), .int .u64 (c2v : Int)] 24)) = wa at *
  have hb := (one_cells wa #[.int .u64 (a1v : Int), .int .u64 (a2v : Int), .int .u64 (b1v : Int), .int .u64 (b2v : Int), .int .u64 (c1v : Int), .int .u64 (c2v : Int)] 24).1
  have hr : Rd (wa.alloc (.cells #[.int .u64 (a1v : Int), .int .u64 (a2v : Int), .int .u64 (b1v : Int), .int .u64 (b2v : Int), .int .u64 (c1v : Int), .int .u64 (c2v : Int)] 24)) (some ⟨wa.heap.size, 0, none⟩) 3 3 2 (sts2 [(a1v, a2v), (b1v, b2v), (c1v, c2v)]) := cells_rd2 rfl (by decide)
  rw [hsz] at hr
  refine (KT _ _ hr).out.mono ?_
  rintro e wb ⟨rfl, hb2⟩
  replace hb := below_trans hb hb2
  obtain ⟨hb3, hca⟩ := one_cells wb #[.int .u64 (l1v : Int), .int .u64 (l2v : Int)] 24
  have l0 := hca 0 (.int .u64 (l1v : Int)) rfl
  have l1 := hca 1 (.int .u64 (l2v : Int)) rfl
  replace hb := below_trans hb hb3
  replace a0 := cell_below hb a0
  replace a1 := cell_below hb a1
  replace b0 := cell_below hb b0
  replace b1 := cell_below hb b1
  replace c0 := cell_below hb c0
  replace c1 := cell_below hb c1
  replace hB := below_trans hB hb
  clear hca hb hb2 hb3 hr KT
  go_wp2_with fail
  generalize wb.alloc (.cells #[.int .u64 (l1v : Int), .int .u64 (l2v : Int)] 24) = w0 at *
  have KL := fun W => Lib.hid (sless_any a1v a2v b1v b2v W)
  have KR := fun W => Lib.hid (refless_any a1v a2v b1v b2v W)
  have K10 := fun W => Lib.hid (refless_any l1v l2v a1v a2v W)
  have K15 := fun W => Lib.hid (refless_any l1v l2v b1v b2v W)
  have K20 := fun W => Lib.hid (refless_any l1v l2v c1v c2v W)
  rw [m1] at K10
  rw [m2] at K15
  rw [m3] at K20
  clear m1 m2 m3
  go_cut [49] (fun s49 wx => s49 = .bool false ∧ Below w0.heap.size w0 wx)
  case first =>
    generalize lessB a1v a2v b1v b2v = r at *
    by_cases ha : l1v = a1v ∧ l2v = a2v
    · obtain ⟨rfl, rfl⟩ := ha
      clear hM
      refine wp_region_held (S := fun W => Below (w0).heap.size (w0) W) (by kernel_rfl) ?_
      change wpAnyH _ _ _ _ _ _ _ _ (w0).drew
      have hS : (fun W => Below (w0).heap.size (w0) W) (w0).drew := (Below.refl _ _).drew
      refine wpAnyH_take (i := 0) (oi := { dst := some 13, op := Op.load 24 (Operand.tmp 3), type := 24, pos := "law.go:40", after := #[], guard := none }) (v := ?_) rfl (by kernel_rfl) (by kernel_rfl) (by kernel_rfl) (fun _ _ _ h => h) (Or.inl ⟨by rfl, ?_⟩) (by assumption) ?_
      rotate_left
      · (intro wS hS; have a0 := cell_below hS a0; have a1 := cell_below hS a1; have b0 := cell_below hS b0; have b1 := cell_below hS b1; have c0 := cell_below hS c0; have c1 := cell_below hS c1; have l0 := cell_below hS l0; have l1 := cell_below hS l1; go_simp <;> with_reducible rfl)
      try simp only [Act.put, List.setIfInBounds_toArray, List.set_cons_zero, List.set_cons_succ]
      refine wpAnyH_take (i := 1) (oi := { dst := some 14, op := Op.load 24 (Operand.tmp 4), type := 24, pos := "law.go:40", after := #[], guard := none }) (v := ?_) rfl (by kernel_rfl) (by kernel_rfl) (by kernel_rfl) (fun _ _ _ h => h) (Or.inl ⟨by rfl, ?_⟩) (by assumption) ?_
      rotate_left
      · (intro wS hS; have a0 := cell_below hS a0; have a1 := cell_below hS a1; have b0 := cell_below hS b0; have b1 := cell_below hS b1; have c0 := cell_below hS c0; have c1 := cell_below hS c1; have l0 := cell_below hS l0; have l1 := cell_below hS l1; go_simp <;> with_reducible rfl)
      try simp only [Act.put, List.setIfInBounds_toArray, List.set_cons_zero, List.set_cons_succ]
      refine wpAnyH_take (i := 3) (oi := { dst := some 16, op := Op.load 24 (Operand.tmp 3), type := 24, pos := "law.go:40", after := #[], guard := none }) (v := ?_) rfl (by kernel_rfl) (by kernel_rfl) (by kernel_rfl) (fun _ _ _ h => h) (Or.inl ⟨by rfl, ?_⟩) (by assumption) ?_
      rotate_left
      · (intro wS hS; have a0 := cell_below hS a0; have a1 := cell_below hS a1; have b0 := cell_below hS b0; have b1 := cell_below hS b1; have c0 := cell_below hS c0; have c1 := cell_below hS c1; have l0 := cell_below hS l0; have l1 := cell_below hS l1; go_simp <;> with_reducible rfl)
      try simp only [Act.put, List.setIfInBounds_toArray, List.set_cons_zero, List.set_cons_succ]
      refine wpAnyH_take (i := 4) (oi := { dst := some 17, op := Op.load 24 (Operand.tmp 4), type := 24, pos := "law.go:40", after := #[], guard := none }) (v := ?_) rfl (by kernel_rfl) (by kernel_rfl) (by kernel_rfl) (fun _ _ _ h => h) (Or.inl ⟨by rfl, ?_⟩) (by assumption) ?_
      rotate_left
      · (intro wS hS; have a0 := cell_below hS a0; have a1 := cell_below hS a1; have b0 := cell_below hS b0; have b1 := cell_below hS b1; have c0 := cell_below hS c0; have c1 := cell_below hS c1; have l0 := cell_below hS l0; have l1 := cell_below hS l1; go_simp <;> with_reducible rfl)
      try simp only [Act.put, List.setIfInBounds_toArray, List.set_cons_zero, List.set_cons_succ]
      refine wpAnyH_ready (rs := [2]) (by kernel_rfl) (by simp) ?_
      refine AllReadyH.cons (o := { dst := some 15, op := Op.call { callee := Callee.value (Operand.func 16), args := #[Operand.tmp 13, Operand.tmp 14], argTypes := #[24, 24] }, type := 4, pos := "law.go:40", after := #[{ on := 0, ground := Ground.data }, { on := 1, ground := Ground.data }], guard := none }) rfl (fun K hK => ?_) AllReadyH.nil
      go_simp
      refine (KL _).out.mono ?_
      rintro e w102 ⟨rfl, hb⟩
      replace hS : (fun W => Below (w0).heap.size (w0) W) w102 := below_then hS hb (Below.size hS)
      refine hK.out _ _ hS (fun _ => ?_)
      clear hK K hb
      try simp only [Act.put, List.setIfInBounds_toArray, List.set_cons_zero, List.set_cons_succ]
      refine wpAnyH_ready (rs := [5]) (by kernel_rfl) (by simp) ?_
      refine AllReadyH.cons (o := { dst := some 18, op := Op.call { callee := Callee.value (Operand.func 17), args := #[Operand.tmp 16, Operand.tmp 17], argTypes := #[24, 24] }, type := 4, pos := "law.go:40", after := #[{ on := 3, ground := Ground.data }, { on := 4, ground := Ground.data }, { on := 2, ground := Ground.chain }], guard := none }) rfl (fun K hK => ?_) AllReadyH.nil
      go_simp
      refine (KR _).out.mono ?_
      rintro e w105 ⟨rfl, hb⟩
      replace hS : (fun W => Below (w0).heap.size (w0) W) w105 := below_then hS hb (Below.size hS)
      refine hK.out _ _ hS (fun _ => ?_)
      clear hK K hb
      try simp only [Act.put, List.setIfInBounds_toArray, List.set_cons_zero, List.set_cons_succ]
      refine wpAnyH_take (i := 6) (oi := { dst := some 19, op := Op.binOp BinOp.neq 4 (Operand.tmp 15) (Operand.tmp 18) 4, type := 4, pos := "law.go:40", after := #[{ on := 2, ground := Ground.data }, { on := 5, ground := Ground.data }], guard := none }) (v := ?_) rfl (by kernel_rfl) (by kernel_rfl) (by kernel_rfl) (fun _ _ _ h => h) (Or.inl ⟨by rfl, ?_⟩) (by assumption) ?_
      rotate_left
      · (intro wS hS; go_simp <;> with_reducible rfl)
      try simp only [Act.put, List.setIfInBounds_toArray, List.set_cons_zero, List.set_cons_succ]
      refine wpAnyH_take (i := 7) (oi := { dst := some 20, op := Op.move (Operand.tmp 19), type := 4, pos := "law.go:40", after := #[{ on := 6, ground := Ground.data }, { on := 5, ground := Ground.chain }], guard := none }) (v := ?_) rfl (by kernel_rfl) (by kernel_rfl) (by kernel_rfl) (fun _ _ _ h => h) (Or.inl ⟨by rfl, ?_⟩) (by assumption) ?_
      rotate_left
      · (intro wS hS; go_simp <;> with_reducible rfl)
      try simp only [Act.put, List.setIfInBounds_toArray, List.set_cons_zero, List.set_cons_succ]
      refine wpAnyH_take (i := 8) (oi := { dst := some 21, op := Op.load 24 (Operand.tmp 7), type := 24, pos := "law.go:40", after := #[{ on := 7, ground := Ground.guard }], guard := some (7, false) }) (v := ?_) rfl (by kernel_rfl) (by kernel_rfl) (by kernel_rfl) (fun _ _ _ h => h) (Or.inl ⟨by rfl, ?_⟩) (by assumption) ?_
      rotate_left
      · (intro wS hS; have a0 := cell_below hS a0; have a1 := cell_below hS a1; have b0 := cell_below hS b0; have b1 := cell_below hS b1; have c0 := cell_below hS c0; have c1 := cell_below hS c1; have l0 := cell_below hS l0; have l1 := cell_below hS l1; go_simp <;> with_reducible rfl)
      try simp only [Act.put, List.setIfInBounds_toArray, List.set_cons_zero, List.set_cons_succ]
      refine wpAnyH_take (i := 9) (oi := { dst := some 22, op := Op.load 24 (Operand.tmp 3), type := 24, pos := "law.go:40", after := #[{ on := 7, ground := Ground.guard }], guard := some (7, false) }) (v := ?_) rfl (by kernel_rfl) (by kernel_rfl) (by kernel_rfl) (fun _ _ _ h => h) (Or.inl ⟨by rfl, ?_⟩) (by assumption) ?_
      rotate_left
      · (intro wS hS; have a0 := cell_below hS a0; have a1 := cell_below hS a1; have b0 := cell_below hS b0; have b1 := cell_below hS b1; have c0 := cell_below hS c0; have c1 := cell_below hS c1; have l0 := cell_below hS l0; have l1 := cell_below hS l1; go_simp <;> with_reducible rfl)
      try simp only [Act.put, List.setIfInBounds_toArray, List.set_cons_zero, List.set_cons_succ]
      refine wpAnyH_ready (rs := [10]) (by kernel_rfl) (by simp) ?_
      refine AllReadyH.cons (o := { dst := some 23, op := Op.call { callee := Callee.value (Operand.func 17), args := #[Operand.tmp 21, Operand.tmp 22], argTypes := #[24, 24] }, type := 4, pos := "law.go:40", after := #[{ on := 8, ground := Ground.data }, { on := 9, ground := Ground.data }, { on := 7, ground := Ground.chain }, { on := 7, ground := Ground.guard }], guard := some (7, false) }) rfl (fun K hK => ?_) AllReadyH.nil
      go_simp
      refine (K10 _).out.mono ?_
      rintro e w110 ⟨rfl, hb⟩
      replace hS : (fun W => Below (w0).heap.size (w0) W) w110 := below_then hS hb (Below.size hS)
      refine hK.out _ _ hS (fun _ => ?_)
      clear hK K hb
      try simp only [Act.put, List.setIfInBounds_toArray, List.set_cons_zero, List.set_cons_succ]
      refine wpAnyH_take (i := 11) (oi := { dst := some 24, op := Op.pick (Operand.tmp 20) (Operand.const (Value.bool true)) (Operand.tmp 23), type := 4, pos := "law.go:40", after := #[{ on := 7, ground := Ground.data }, { on := 10, ground := Ground.data }], guard := none }) (v := ?_) rfl (by kernel_rfl) (by kernel_rfl) (by kernel_rfl) (fun _ _ _ h => h) (Or.inl ⟨by rfl, ?_⟩) (by assumption) ?_
      rotate_left
      · (intro wS hS; go_simp <;> with_reducible rfl)
      try simp only [Act.put, List.setIfInBounds_toArray, List.set_cons_zero, List.set_cons_succ]
      refine wpAnyH_take (i := 12) (oi := { dst := some 25, op := Op.move (Operand.tmp 24), type := 4, pos := "law.go:40", after := #[{ on := 11, ground := Ground.data }, { on := 10, ground := Ground.chain }], guard := none }) (v := ?_) rfl (by kernel_rfl) (by kernel_rfl) (by kernel_rfl) (fun _ _ _ h => h) (Or.inl ⟨by rfl, ?_⟩) (by assumption) ?_
      rotate_left
      · (intro wS hS; go_simp <;> with_reducible rfl)
      try simp only [Act.put, List.setIfInBounds_toArray, List.set_cons_zero, List.set_cons_succ]
      refine wpAnyH_take (i := 13) (oi := { dst := some 26, op := Op.load 24 (Operand.tmp 7), type := 24, pos := "law.go:40", after := #[{ on := 12, ground := Ground.guard }], guard := some (12, false) }) (v := ?_) rfl (by kernel_rfl) (by kernel_rfl) (by kernel_rfl) (fun _ _ _ h => h) (Or.inl ⟨by rfl, ?_⟩) (by assumption) ?_
      rotate_left
      · (intro wS hS; have a0 := cell_below hS a0; have a1 := cell_below hS a1; have b0 := cell_below hS b0; have b1 := cell_below hS b1; have c0 := cell_below hS c0; have c1 := cell_below hS c1; have l0 := cell_below hS l0; have l1 := cell_below hS l1; go_simp <;> with_reducible rfl)
      try simp only [Act.put, List.setIfInBounds_toArray, List.set_cons_zero, List.set_cons_succ]
      refine wpAnyH_take (i := 14) (oi := { dst := some 27, op := Op.load 24 (Operand.tmp 4), type := 24, pos := "law.go:40", after := #[{ on := 12, ground := Ground.guard }], guard := some (12, false) }) (v := ?_) rfl (by kernel_rfl) (by kernel_rfl) (by kernel_rfl) (fun _ _ _ h => h) (Or.inl ⟨by rfl, ?_⟩) (by assumption) ?_
      rotate_left
      · (intro wS hS; have a0 := cell_below hS a0; have a1 := cell_below hS a1; have b0 := cell_below hS b0; have b1 := cell_below hS b1; have c0 := cell_below hS c0; have c1 := cell_below hS c1; have l0 := cell_below hS l0; have l1 := cell_below hS l1; go_simp <;> with_reducible rfl)
      try simp only [Act.put, List.setIfInBounds_toArray, List.set_cons_zero, List.set_cons_succ]
      refine wpAnyH_ready (rs := [15]) (by kernel_rfl) (by simp) ?_
      refine AllReadyH.cons (o := { dst := some 28, op := Op.call { callee := Callee.value (Operand.func 17), args := #[Operand.tmp 26, Operand.tmp 27], argTypes := #[24, 24] }, type := 4, pos := "law.go:40", after := #[{ on := 13, ground := Ground.data }, { on := 14, ground := Ground.data }, { on := 12, ground := Ground.chain }, { on := 12, ground := Ground.guard }], guard := some (12, false) }) rfl (fun K hK => ?_) AllReadyH.nil
      go_simp
      refine (K15 _).out.mono ?_
      rintro e w115 ⟨rfl, hb⟩
      replace hS : (fun W => Below (w0).heap.size (w0) W) w115 := below_then hS hb (Below.size hS)
      refine hK.out _ _ hS (fun _ => ?_)
      clear hK K hb
      try simp only [Act.put, List.setIfInBounds_toArray, List.set_cons_zero, List.set_cons_succ]
      refine wpAnyH_take (i := 16) (oi := { dst := some 29, op := Op.pick (Operand.tmp 25) (Operand.const (Value.bool true)) (Operand.tmp 28), type := 4, pos := "law.go:40", after := #[{ on := 12, ground := Ground.data }, { on := 15, ground := Ground.data }], guard := none }) (v := ?_) rfl (by kernel_rfl) (by kernel_rfl) (by kernel_rfl) (fun _ _ _ h => h) (Or.inl ⟨by rfl, ?_⟩) (by assumption) ?_
      rotate_left
      · (intro wS hS; go_simp <;> with_reducible rfl)
      try simp only [Act.put, List.setIfInBounds_toArray, List.set_cons_zero, List.set_cons_succ]
      refine wpAnyH_take (i := 17) (oi := { dst := some 30, op := Op.move (Operand.tmp 29), type := 4, pos := "law.go:40", after := #[{ on := 16, ground := Ground.data }, { on := 15, ground := Ground.chain }], guard := none }) (v := ?_) rfl (by kernel_rfl) (by kernel_rfl) (by kernel_rfl) (fun _ _ _ h => h) (Or.inl ⟨by rfl, ?_⟩) (by assumption) ?_
      rotate_left
      · (intro wS hS; go_simp <;> with_reducible rfl)
      try simp only [Act.put, List.setIfInBounds_toArray, List.set_cons_zero, List.set_cons_succ]
      refine wpAnyH_take (i := 18) (oi := { dst := some 31, op := Op.load 24 (Operand.tmp 7), type := 24, pos := "law.go:40", after := #[{ on := 17, ground := Ground.guard }], guard := some (17, false) }) (v := ?_) rfl (by kernel_rfl) (by kernel_rfl) (by kernel_rfl) (fun _ _ _ h => h) (Or.inl ⟨by rfl, ?_⟩) (by assumption) ?_
      rotate_left
      · (intro wS hS; have a0 := cell_below hS a0; have a1 := cell_below hS a1; have b0 := cell_below hS b0; have b1 := cell_below hS b1; have c0 := cell_below hS c0; have c1 := cell_below hS c1; have l0 := cell_below hS l0; have l1 := cell_below hS l1; go_simp <;> with_reducible rfl)
      try simp only [Act.put, List.setIfInBounds_toArray, List.set_cons_zero, List.set_cons_succ]
      refine wpAnyH_take (i := 19) (oi := { dst := some 32, op := Op.load 24 (Operand.tmp 5), type := 24, pos := "law.go:40", after := #[{ on := 17, ground := Ground.guard }], guard := some (17, false) }) (v := ?_) rfl (by kernel_rfl) (by kernel_rfl) (by kernel_rfl) (fun _ _ _ h => h) (Or.inl ⟨by rfl, ?_⟩) (by assumption) ?_
      rotate_left
      · (intro wS hS; have a0 := cell_below hS a0; have a1 := cell_below hS a1; have b0 := cell_below hS b0; have b1 := cell_below hS b1; have c0 := cell_below hS c0; have c1 := cell_below hS c1; have l0 := cell_below hS l0; have l1 := cell_below hS l1; go_simp <;> with_reducible rfl)
      try simp only [Act.put, List.setIfInBounds_toArray, List.set_cons_zero, List.set_cons_succ]
      refine wpAnyH_ready (rs := [20]) (by kernel_rfl) (by simp) ?_
      refine AllReadyH.cons (o := { dst := some 33, op := Op.call { callee := Callee.value (Operand.func 17), args := #[Operand.tmp 31, Operand.tmp 32], argTypes := #[24, 24] }, type := 4, pos := "law.go:40", after := #[{ on := 18, ground := Ground.data }, { on := 19, ground := Ground.data }, { on := 17, ground := Ground.chain }, { on := 17, ground := Ground.guard }], guard := some (17, false) }) rfl (fun K hK => ?_) AllReadyH.nil
      go_simp
      refine (K20 _).out.mono ?_
      rintro e w120 ⟨rfl, hb⟩
      replace hS : (fun W => Below (w0).heap.size (w0) W) w120 := below_then hS hb (Below.size hS)
      refine hK.out _ _ hS (fun _ => ?_)
      clear hK K hb
      try simp only [Act.put, List.setIfInBounds_toArray, List.set_cons_zero, List.set_cons_succ]
      refine wpAnyH_take (i := 21) (oi := { dst := some 34, op := Op.pick (Operand.tmp 30) (Operand.const (Value.bool true)) (Operand.tmp 33), type := 4, pos := "law.go:40", after := #[{ on := 17, ground := Ground.data }, { on := 20, ground := Ground.data }], guard := none }) (v := ?_) rfl (by kernel_rfl) (by kernel_rfl) (by kernel_rfl) (fun _ _ _ h => h) (Or.inl ⟨by rfl, ?_⟩) (by assumption) ?_
      rotate_left
      · (intro wS hS; go_simp <;> with_reducible rfl)
      try simp only [Act.put, List.setIfInBounds_toArray, List.set_cons_zero, List.set_cons_succ]
      refine wpAnyH_take (i := 22) (oi := { dst := some 35, op := Op.move (Operand.tmp 34), type := 4, pos := "law.go:40", after := #[{ on := 21, ground := Ground.data }, { on := 20, ground := Ground.chain }], guard := none }) (v := ?_) rfl (by kernel_rfl) (by kernel_rfl) (by kernel_rfl) (fun _ _ _ h => h) (Or.inl ⟨by rfl, ?_⟩) (by assumption) ?_
      rotate_left
      · (intro wS hS; go_simp <;> with_reducible rfl)
      try simp only [Act.put, List.setIfInBounds_toArray, List.set_cons_zero, List.set_cons_succ]
      refine wpAnyH_take (i := 23) (oi := { dst := some 36, op := Op.load 24 (Operand.tmp 7), type := 24, pos := "law.go:40", after := #[{ on := 22, ground := Ground.guard }], guard := some (22, false) }) (v := ?_) rfl (by kernel_rfl) (by kernel_rfl) (by kernel_rfl) (fun _ _ _ h => h) (Or.inl ⟨by rfl, ?_⟩) (by assumption) ?_
      rotate_left
      · (intro wS hS; have a0 := cell_below hS a0; have a1 := cell_below hS a1; have b0 := cell_below hS b0; have b1 := cell_below hS b1; have c0 := cell_below hS c0; have c1 := cell_below hS c1; have l0 := cell_below hS l0; have l1 := cell_below hS l1; go_simp <;> with_reducible rfl)
      try simp only [Act.put, List.setIfInBounds_toArray, List.set_cons_zero, List.set_cons_succ]
      refine wpAnyH_take (i := 24) (oi := { dst := some 37, op := Op.load 24 (Operand.tmp 3), type := 24, pos := "law.go:40", after := #[{ on := 22, ground := Ground.guard }], guard := some (22, false) }) (v := ?_) rfl (by kernel_rfl) (by kernel_rfl) (by kernel_rfl) (fun _ _ _ h => h) (Or.inl ⟨by rfl, ?_⟩) (by assumption) ?_
      rotate_left
      · (intro wS hS; have a0 := cell_below hS a0; have a1 := cell_below hS a1; have b0 := cell_below hS b0; have b1 := cell_below hS b1; have c0 := cell_below hS c0; have c1 := cell_below hS c1; have l0 := cell_below hS l0; have l1 := cell_below hS l1; go_simp <;> with_reducible rfl)
      try simp only [Act.put, List.setIfInBounds_toArray, List.set_cons_zero, List.set_cons_succ]
      refine wpAnyH_take (i := 25) (oi := { dst := some 38, op := Op.binOp BinOp.neq 24 (Operand.tmp 36) (Operand.tmp 37) 24, type := 4, pos := "law.go:40", after := #[{ on := 23, ground := Ground.data }, { on := 24, ground := Ground.data }, { on := 22, ground := Ground.guard }], guard := some (22, false) }) (v := ?_) rfl (by kernel_rfl) (by kernel_rfl) (by kernel_rfl) (fun _ _ _ h => h) (Or.inl ⟨by rfl, ?_⟩) (by assumption) ?_
      rotate_left
      · (intro wS hS; go_simp <;> with_reducible rfl)
      try simp only [Act.put, List.setIfInBounds_toArray, List.set_cons_zero, List.set_cons_succ]
      refine wpAnyH_take (i := 26) (oi := { dst := some 39, op := Op.move (Operand.tmp 38), type := 4, pos := "law.go:40", after := #[{ on := 25, ground := Ground.data }, { on := 22, ground := Ground.chain }, { on := 22, ground := Ground.guard }], guard := some (22, false) }) (v := ?_) rfl (by kernel_rfl) (by kernel_rfl) (by kernel_rfl) (fun _ _ _ h => h) (Or.inl ⟨by rfl, ?_⟩) (by assumption) ?_
      rotate_left
      · (intro wS hS; go_simp <;> with_reducible rfl)
      try simp only [Act.put, List.setIfInBounds_toArray, List.set_cons_zero, List.set_cons_succ]
      refine wpAnyH_take (i := 27) (oi := { dst := some 40, op := Op.load 24 (Operand.tmp 7), type := 24, pos := "law.go:40", after := #[{ on := 26, ground := Ground.guard }], guard := some (26, true) }) (v := undef) rfl (by kernel_rfl) (by kernel_rfl) (by kernel_rfl) (fun _ _ _ h => h) (Or.inr ⟨by rfl, rfl⟩) (by assumption) ?_
      try simp only [Act.put, List.setIfInBounds_toArray, List.set_cons_zero, List.set_cons_succ]
      refine wpAnyH_take (i := 28) (oi := { dst := some 41, op := Op.load 24 (Operand.tmp 4), type := 24, pos := "law.go:40", after := #[{ on := 26, ground := Ground.guard }], guard := some (26, true) }) (v := undef) rfl (by kernel_rfl) (by kernel_rfl) (by kernel_rfl) (fun _ _ _ h => h) (Or.inr ⟨by rfl, rfl⟩) (by assumption) ?_
      try simp only [Act.put, List.setIfInBounds_toArray, List.set_cons_zero, List.set_cons_succ]
      refine wpAnyH_take (i := 29) (oi := { dst := some 42, op := Op.binOp BinOp.neq 24 (Operand.tmp 40) (Operand.tmp 41) 24, type := 4, pos := "law.go:40", after := #[{ on := 27, ground := Ground.data }, { on := 28, ground := Ground.data }, { on := 26, ground := Ground.guard }], guard := some (26, true) }) (v := undef) rfl (by kernel_rfl) (by kernel_rfl) (by kernel_rfl) (fun _ _ _ h => h) (Or.inr ⟨by rfl, rfl⟩) (by assumption) ?_
      try simp only [Act.put, List.setIfInBounds_toArray, List.set_cons_zero, List.set_cons_succ]
      refine wpAnyH_take (i := 30) (oi := { dst := some 43, op := Op.pick (Operand.tmp 39) (Operand.tmp 42) (Operand.const (Value.bool false)), type := 4, pos := "law.go:40", after := #[{ on := 26, ground := Ground.data }, { on := 29, ground := Ground.data }, { on := 22, ground := Ground.guard }], guard := some (22, false) }) (v := ?_) rfl (by kernel_rfl) (by kernel_rfl) (by kernel_rfl) (fun _ _ _ h => h) (Or.inl ⟨by rfl, ?_⟩) (by assumption) ?_
      rotate_left
      · (intro wS hS; go_simp <;> with_reducible rfl)
      try simp only [Act.put, List.setIfInBounds_toArray, List.set_cons_zero, List.set_cons_succ]
      refine wpAnyH_take (i := 31) (oi := { dst := some 44, op := Op.move (Operand.tmp 43), type := 4, pos := "law.go:40", after := #[{ on := 30, ground := Ground.data }, { on := 26, ground := Ground.chain }, { on := 22, ground := Ground.guard }], guard := some (22, false) }) (v := ?_) rfl (by kernel_rfl) (by kernel_rfl) (by kernel_rfl) (fun _ _ _ h => h) (Or.inl ⟨by rfl, ?_⟩) (by assumption) ?_
      rotate_left
      · (intro wS hS; go_simp <;> with_reducible rfl)
      try simp only [Act.put, List.setIfInBounds_toArray, List.set_cons_zero, List.set_cons_succ]
      refine wpAnyH_take (i := 32) (oi := { dst := some 45, op := Op.load 24 (Operand.tmp 7), type := 24, pos := "law.go:40", after := #[{ on := 31, ground := Ground.guard }], guard := some (31, true) }) (v := undef) rfl (by kernel_rfl) (by kernel_rfl) (by kernel_rfl) (fun _ _ _ h => h) (Or.inr ⟨by rfl, rfl⟩) (by assumption) ?_
      try simp only [Act.put, List.setIfInBounds_toArray, List.set_cons_zero, List.set_cons_succ]
      refine wpAnyH_take (i := 33) (oi := { dst := some 46, op := Op.load 24 (Operand.tmp 5), type := 24, pos := "law.go:40", after := #[{ on := 31, ground := Ground.guard }], guard := some (31, true) }) (v := undef) rfl (by kernel_rfl) (by kernel_rfl) (by kernel_rfl) (fun _ _ _ h => h) (Or.inr ⟨by rfl, rfl⟩) (by assumption) ?_
      try simp only [Act.put, List.setIfInBounds_toArray, List.set_cons_zero, List.set_cons_succ]
      refine wpAnyH_take (i := 34) (oi := { dst := some 47, op := Op.binOp BinOp.neq 24 (Operand.tmp 45) (Operand.tmp 46) 24, type := 4, pos := "law.go:40", after := #[{ on := 32, ground := Ground.data }, { on := 33, ground := Ground.data }, { on := 31, ground := Ground.guard }], guard := some (31, true) }) (v := undef) rfl (by kernel_rfl) (by kernel_rfl) (by kernel_rfl) (fun _ _ _ h => h) (Or.inr ⟨by rfl, rfl⟩) (by assumption) ?_
      try simp only [Act.put, List.setIfInBounds_toArray, List.set_cons_zero, List.set_cons_succ]
      refine wpAnyH_take (i := 35) (oi := { dst := some 48, op := Op.pick (Operand.tmp 44) (Operand.tmp 47) (Operand.const (Value.bool false)), type := 4, pos := "law.go:40", after := #[{ on := 31, ground := Ground.data }, { on := 34, ground := Ground.data }, { on := 22, ground := Ground.guard }], guard := some (22, false) }) (v := ?_) rfl (by kernel_rfl) (by kernel_rfl) (by kernel_rfl) (fun _ _ _ h => h) (Or.inl ⟨by rfl, ?_⟩) (by assumption) ?_
      rotate_left
      · (intro wS hS; go_simp <;> with_reducible rfl)
      try simp only [Act.put, List.setIfInBounds_toArray, List.set_cons_zero, List.set_cons_succ]
      refine wpAnyH_take (i := 36) (oi := { dst := some 49, op := Op.pick (Operand.tmp 35) (Operand.const (Value.bool true)) (Operand.tmp 48), type := 4, pos := "law.go:40", after := #[{ on := 22, ground := Ground.data }, { on := 35, ground := Ground.data }], guard := none }) (v := ?_) rfl (by kernel_rfl) (by kernel_rfl) (by kernel_rfl) (fun _ _ _ h => h) (Or.inl ⟨by rfl, ?_⟩) (by assumption) ?_
      rotate_left
      · (intro wS hS; go_simp <;> with_reducible rfl)
      try simp only [Act.put, List.setIfInBounds_toArray, List.set_cons_zero, List.set_cons_succ]
      refine wpAnyH_done (by kernel_rfl) ?_ _
      go_wp2_with fail
      go_meet
      exact ⟨rfl, hS⟩
    · have hA : ¬ ((l1v : Int) = a1v) ∨ ((l1v : Int) = a1v ∧ ¬ ((l2v : Int) = a2v)) := by omega
      by_cases hb : l1v = b1v ∧ l2v = b2v
      · obtain ⟨rfl, rfl⟩ := hb
        clear hM ha
        rcases hA with hA | ⟨hA, hA2⟩
        · have hA' : ((l1v : Int) == a1v) = false := by simpa using hA
          refine wp_region_held (S := fun W => Below (w0).heap.size (w0) W) (by kernel_rfl) ?_
          change wpAnyH _ _ _ _ _ _ _ _ (w0).drew
          have hS : (fun W => Below (w0).heap.size (w0) W) (w0).drew := (Below.refl _ _).drew
          refine wpAnyH_take (i := 0) (oi := { dst := some 13, op := Op.load 24 (Operand.tmp 3), type := 24, pos := "law.go:40", after := #[], guard := none }) (v := ?_) rfl (by kernel_rfl) (by kernel_rfl) (by kernel_rfl) (fun _ _ _ h => h) (Or.inl ⟨by rfl, ?_⟩) (by assumption) ?_
          rotate_left
          · (intro wS hS; have a0 := cell_below hS a0; have a1 := cell_below hS a1; have b0 := cell_below hS b0; have b1 := cell_below hS b1; have c0 := cell_below hS c0; have c1 := cell_below hS c1; have l0 := cell_below hS l0; have l1 := cell_below hS l1; go_simp <;> with_reducible rfl)
          try simp only [Act.put, List.setIfInBounds_toArray, List.set_cons_zero, List.set_cons_succ]
          refine wpAnyH_take (i := 1) (oi := { dst := some 14, op := Op.load 24 (Operand.tmp 4), type := 24, pos := "law.go:40", after := #[], guard := none }) (v := ?_) rfl (by kernel_rfl) (by kernel_rfl) (by kernel_rfl) (fun _ _ _ h => h) (Or.inl ⟨by rfl, ?_⟩) (by assumption) ?_
          rotate_left
          · (intro wS hS; have a0 := cell_below hS a0; have a1 := cell_below hS a1; have b0 := cell_below hS b0; have b1 := cell_below hS b1; have c0 := cell_below hS c0; have c1 := cell_below hS c1; have l0 := cell_below hS l0; have l1 := cell_below hS l1; go_simp <;> with_reducible rfl)
          try simp only [Act.put, List.setIfInBounds_toArray, List.set_cons_zero, List.set_cons_succ]
          refine wpAnyH_take (i := 3) (oi := { dst := some 16, op := Op.load 24 (Operand.tmp 3), type := 24, pos := "law.go:40", after := #[], guard := none }) (v := ?_) rfl (by kernel_rfl) (by kernel_rfl) (by kernel_rfl) (fun _ _ _ h => h) (Or.inl ⟨by rfl, ?_⟩) (by assumption) ?_
          rotate_left
          · (intro wS hS; have a0 := cell_below hS a0; have a1 := cell_below hS a1; have b0 := cell_below hS b0; have b1 := cell_below hS b1; have c0 := cell_below hS c0; have c1 := cell_below hS c1; have l0 := cell_below hS l0; have l1 := cell_below hS l1; go_simp <;> with_reducible rfl)
          try simp only [Act.put, List.setIfInBounds_toArray, List.set_cons_zero, List.set_cons_succ]
          refine wpAnyH_take (i := 4) (oi := { dst := some 17, op := Op.load 24 (Operand.tmp 4), type := 24, pos := "law.go:40", after := #[], guard := none }) (v := ?_) rfl (by kernel_rfl) (by kernel_rfl) (by kernel_rfl) (fun _ _ _ h => h) (Or.inl ⟨by rfl, ?_⟩) (by assumption) ?_
          rotate_left
          · (intro wS hS; have a0 := cell_below hS a0; have a1 := cell_below hS a1; have b0 := cell_below hS b0; have b1 := cell_below hS b1; have c0 := cell_below hS c0; have c1 := cell_below hS c1; have l0 := cell_below hS l0; have l1 := cell_below hS l1; go_simp <;> with_reducible rfl)
          try simp only [Act.put, List.setIfInBounds_toArray, List.set_cons_zero, List.set_cons_succ]
          refine wpAnyH_ready (rs := [2]) (by kernel_rfl) (by simp) ?_
          refine AllReadyH.cons (o := { dst := some 15, op := Op.call { callee := Callee.value (Operand.func 16), args := #[Operand.tmp 13, Operand.tmp 14], argTypes := #[24, 24] }, type := 4, pos := "law.go:40", after := #[{ on := 0, ground := Ground.data }, { on := 1, ground := Ground.data }], guard := none }) rfl (fun K hK => ?_) AllReadyH.nil
          go_simp
          refine (KL _).out.mono ?_
          rintro e w102 ⟨rfl, hb⟩
          replace hS : (fun W => Below (w0).heap.size (w0) W) w102 := below_then hS hb (Below.size hS)
          refine hK.out _ _ hS (fun _ => ?_)
          clear hK K hb
          try simp only [Act.put, List.setIfInBounds_toArray, List.set_cons_zero, List.set_cons_succ]
          refine wpAnyH_ready (rs := [5]) (by kernel_rfl) (by simp) ?_
          refine AllReadyH.cons (o := { dst := some 18, op := Op.call { callee := Callee.value (Operand.func 17), args := #[Operand.tmp 16, Operand.tmp 17], argTypes := #[24, 24] }, type := 4, pos := "law.go:40", after := #[{ on := 3, ground := Ground.data }, { on := 4, ground := Ground.data }, { on := 2, ground := Ground.chain }], guard := none }) rfl (fun K hK => ?_) AllReadyH.nil
          go_simp
          refine (KR _).out.mono ?_
          rintro e w105 ⟨rfl, hb⟩
          replace hS : (fun W => Below (w0).heap.size (w0) W) w105 := below_then hS hb (Below.size hS)
          refine hK.out _ _ hS (fun _ => ?_)
          clear hK K hb
          try simp only [Act.put, List.setIfInBounds_toArray, List.set_cons_zero, List.set_cons_succ]
          refine wpAnyH_take (i := 6) (oi := { dst := some 19, op := Op.binOp BinOp.neq 4 (Operand.tmp 15) (Operand.tmp 18) 4, type := 4, pos := "law.go:40", after := #[{ on := 2, ground := Ground.data }, { on := 5, ground := Ground.data }], guard := none }) (v := ?_) rfl (by kernel_rfl) (by kernel_rfl) (by kernel_rfl) (fun _ _ _ h => h) (Or.inl ⟨by rfl, ?_⟩) (by assumption) ?_
          rotate_left
          · (intro wS hS; go_simp <;> with_reducible rfl)
          try simp only [Act.put, List.setIfInBounds_toArray, List.set_cons_zero, List.set_cons_succ]
          refine wpAnyH_take (i := 7) (oi := { dst := some 20, op := Op.move (Operand.tmp 19), type := 4, pos := "law.go:40", after := #[{ on := 6, ground := Ground.data }, { on := 5, ground := Ground.chain }], guard := none }) (v := ?_) rfl (by kernel_rfl) (by kernel_rfl) (by kernel_rfl) (fun _ _ _ h => h) (Or.inl ⟨by rfl, ?_⟩) (by assumption) ?_
          rotate_left
          · (intro wS hS; go_simp <;> with_reducible rfl)
          try simp only [Act.put, List.setIfInBounds_toArray, List.set_cons_zero, List.set_cons_succ]
          refine wpAnyH_take (i := 8) (oi := { dst := some 21, op := Op.load 24 (Operand.tmp 7), type := 24, pos := "law.go:40", after := #[{ on := 7, ground := Ground.guard }], guard := some (7, false) }) (v := ?_) rfl (by kernel_rfl) (by kernel_rfl) (by kernel_rfl) (fun _ _ _ h => h) (Or.inl ⟨by rfl, ?_⟩) (by assumption) ?_
          rotate_left
          · (intro wS hS; have a0 := cell_below hS a0; have a1 := cell_below hS a1; have b0 := cell_below hS b0; have b1 := cell_below hS b1; have c0 := cell_below hS c0; have c1 := cell_below hS c1; have l0 := cell_below hS l0; have l1 := cell_below hS l1; go_simp <;> with_reducible rfl)
          try simp only [Act.put, List.setIfInBounds_toArray, List.set_cons_zero, List.set_cons_succ]
          refine wpAnyH_take (i := 9) (oi := { dst := some 22, op := Op.load 24 (Operand.tmp 3), type := 24, pos := "law.go:40", after := #[{ on := 7, ground := Ground.guard }], guard := some (7, false) }) (v := ?_) rfl (by kernel_rfl) (by kernel_rfl) (by kernel_rfl) (fun _ _ _ h => h) (Or.inl ⟨by rfl, ?_⟩) (by assumption) ?_
          rotate_left
          · (intro wS hS; have a0 := cell_below hS a0; have a1 := cell_below hS a1; have b0 := cell_below hS b0; have b1 := cell_below hS b1; have c0 := cell_below hS c0; have c1 := cell_below hS c1; have l0 := cell_below hS l0; have l1 := cell_below hS l1; go_simp <;> with_reducible rfl)
          try simp only [Act.put, List.setIfInBounds_toArray, List.set_cons_zero, List.set_cons_succ]
          refine wpAnyH_ready (rs := [10]) (by kernel_rfl) (by simp) ?_
          refine AllReadyH.cons (o := { dst := some 23, op := Op.call { callee := Callee.value (Operand.func 17), args := #[Operand.tmp 21, Operand.tmp 22], argTypes := #[24, 24] }, type := 4, pos := "law.go:40", after := #[{ on := 8, ground := Ground.data }, { on := 9, ground := Ground.data }, { on := 7, ground := Ground.chain }, { on := 7, ground := Ground.guard }], guard := some (7, false) }) rfl (fun K hK => ?_) AllReadyH.nil
          go_simp
          refine (K10 _).out.mono ?_
          rintro e w110 ⟨rfl, hb⟩
          replace hS : (fun W => Below (w0).heap.size (w0) W) w110 := below_then hS hb (Below.size hS)
          refine hK.out _ _ hS (fun _ => ?_)
          clear hK K hb
          try simp only [Act.put, List.setIfInBounds_toArray, List.set_cons_zero, List.set_cons_succ]
          refine wpAnyH_take (i := 11) (oi := { dst := some 24, op := Op.pick (Operand.tmp 20) (Operand.const (Value.bool true)) (Operand.tmp 23), type := 4, pos := "law.go:40", after := #[{ on := 7, ground := Ground.data }, { on := 10, ground := Ground.data }], guard := none }) (v := ?_) rfl (by kernel_rfl) (by kernel_rfl) (by kernel_rfl) (fun _ _ _ h => h) (Or.inl ⟨by rfl, ?_⟩) (by assumption) ?_
          rotate_left
          · (intro wS hS; go_simp <;> with_reducible rfl)
          try simp only [Act.put, List.setIfInBounds_toArray, List.set_cons_zero, List.set_cons_succ]
          refine wpAnyH_take (i := 12) (oi := { dst := some 25, op := Op.move (Operand.tmp 24), type := 4, pos := "law.go:40", after := #[{ on := 11, ground := Ground.data }, { on := 10, ground := Ground.chain }], guard := none }) (v := ?_) rfl (by kernel_rfl) (by kernel_rfl) (by kernel_rfl) (fun _ _ _ h => h) (Or.inl ⟨by rfl, ?_⟩) (by assumption) ?_
          rotate_left
          · (intro wS hS; go_simp <;> with_reducible rfl)
          try simp only [Act.put, List.setIfInBounds_toArray, List.set_cons_zero, List.set_cons_succ]
          refine wpAnyH_take (i := 13) (oi := { dst := some 26, op := Op.load 24 (Operand.tmp 7), type := 24, pos := "law.go:40", after := #[{ on := 12, ground := Ground.guard }], guard := some (12, false) }) (v := ?_) rfl (by kernel_rfl) (by kernel_rfl) (by kernel_rfl) (fun _ _ _ h => h) (Or.inl ⟨by rfl, ?_⟩) (by assumption) ?_
          rotate_left
          · (intro wS hS; have a0 := cell_below hS a0; have a1 := cell_below hS a1; have b0 := cell_below hS b0; have b1 := cell_below hS b1; have c0 := cell_below hS c0; have c1 := cell_below hS c1; have l0 := cell_below hS l0; have l1 := cell_below hS l1; go_simp <;> with_reducible rfl)
          try simp only [Act.put, List.setIfInBounds_toArray, List.set_cons_zero, List.set_cons_succ]
          refine wpAnyH_take (i := 14) (oi := { dst := some 27, op := Op.load 24 (Operand.tmp 4), type := 24, pos := "law.go:40", after := #[{ on := 12, ground := Ground.guard }], guard := some (12, false) }) (v := ?_) rfl (by kernel_rfl) (by kernel_rfl) (by kernel_rfl) (fun _ _ _ h => h) (Or.inl ⟨by rfl, ?_⟩) (by assumption) ?_
          rotate_left
          · (intro wS hS; have a0 := cell_below hS a0; have a1 := cell_below hS a1; have b0 := cell_below hS b0; have b1 := cell_below hS b1; have c0 := cell_below hS c0; have c1 := cell_below hS c1; have l0 := cell_below hS l0; have l1 := cell_below hS l1; go_simp <;> with_reducible rfl)
          try simp only [Act.put, List.setIfInBounds_toArray, List.set_cons_zero, List.set_cons_succ]
          refine wpAnyH_ready (rs := [15]) (by kernel_rfl) (by simp) ?_
          refine AllReadyH.cons (o := { dst := some 28, op := Op.call { callee := Callee.value (Operand.func 17), args := #[Operand.tmp 26, Operand.tmp 27], argTypes := #[24, 24] }, type := 4, pos := "law.go:40", after := #[{ on := 13, ground := Ground.data }, { on := 14, ground := Ground.data }, { on := 12, ground := Ground.chain }, { on := 12, ground := Ground.guard }], guard := some (12, false) }) rfl (fun K hK => ?_) AllReadyH.nil
          go_simp
          refine (K15 _).out.mono ?_
          rintro e w115 ⟨rfl, hb⟩
          replace hS : (fun W => Below (w0).heap.size (w0) W) w115 := below_then hS hb (Below.size hS)
          refine hK.out _ _ hS (fun _ => ?_)
          clear hK K hb
          try simp only [Act.put, List.setIfInBounds_toArray, List.set_cons_zero, List.set_cons_succ]
          refine wpAnyH_take (i := 16) (oi := { dst := some 29, op := Op.pick (Operand.tmp 25) (Operand.const (Value.bool true)) (Operand.tmp 28), type := 4, pos := "law.go:40", after := #[{ on := 12, ground := Ground.data }, { on := 15, ground := Ground.data }], guard := none }) (v := ?_) rfl (by kernel_rfl) (by kernel_rfl) (by kernel_rfl) (fun _ _ _ h => h) (Or.inl ⟨by rfl, ?_⟩) (by assumption) ?_
          rotate_left
          · (intro wS hS; go_simp <;> with_reducible rfl)
          try simp only [Act.put, List.setIfInBounds_toArray, List.set_cons_zero, List.set_cons_succ]
          refine wpAnyH_take (i := 17) (oi := { dst := some 30, op := Op.move (Operand.tmp 29), type := 4, pos := "law.go:40", after := #[{ on := 16, ground := Ground.data }, { on := 15, ground := Ground.chain }], guard := none }) (v := ?_) rfl (by kernel_rfl) (by kernel_rfl) (by kernel_rfl) (fun _ _ _ h => h) (Or.inl ⟨by rfl, ?_⟩) (by assumption) ?_
          rotate_left
          · (intro wS hS; go_simp <;> with_reducible rfl)
          try simp only [Act.put, List.setIfInBounds_toArray, List.set_cons_zero, List.set_cons_succ]
          refine wpAnyH_take (i := 18) (oi := { dst := some 31, op := Op.load 24 (Operand.tmp 7), type := 24, pos := "law.go:40", after := #[{ on := 17, ground := Ground.guard }], guard := some (17, false) }) (v := ?_) rfl (by kernel_rfl) (by kernel_rfl) (by kernel_rfl) (fun _ _ _ h => h) (Or.inl ⟨by rfl, ?_⟩) (by assumption) ?_
          rotate_left
          · (intro wS hS; have a0 := cell_below hS a0; have a1 := cell_below hS a1; have b0 := cell_below hS b0; have b1 := cell_below hS b1; have c0 := cell_below hS c0; have c1 := cell_below hS c1; have l0 := cell_below hS l0; have l1 := cell_below hS l1; go_simp <;> with_reducible rfl)
          try simp only [Act.put, List.setIfInBounds_toArray, List.set_cons_zero, List.set_cons_succ]
          refine wpAnyH_take (i := 19) (oi := { dst := some 32, op := Op.load 24 (Operand.tmp 5), type := 24, pos := "law.go:40", after := #[{ on := 17, ground := Ground.guard }], guard := some (17, false) }) (v := ?_) rfl (by kernel_rfl) (by kernel_rfl) (by kernel_rfl) (fun _ _ _ h => h) (Or.inl ⟨by rfl, ?_⟩) (by assumption) ?_
          rotate_left
          · (intro wS hS; have a0 := cell_below hS a0; have a1 := cell_below hS a1; have b0 := cell_below hS b0; have b1 := cell_below hS b1; have c0 := cell_below hS c0; have c1 := cell_below hS c1; have l0 := cell_below hS l0; have l1 := cell_below hS l1; go_simp <;> with_reducible rfl)
          try simp only [Act.put, List.setIfInBounds_toArray, List.set_cons_zero, List.set_cons_succ]
          refine wpAnyH_ready (rs := [20]) (by kernel_rfl) (by simp) ?_
          refine AllReadyH.cons (o := { dst := some 33, op := Op.call { callee := Callee.value (Operand.func 17), args := #[Operand.tmp 31, Operand.tmp 32], argTypes := #[24, 24] }, type := 4, pos := "law.go:40", after := #[{ on := 18, ground := Ground.data }, { on := 19, ground := Ground.data }, { on := 17, ground := Ground.chain }, { on := 17, ground := Ground.guard }], guard := some (17, false) }) rfl (fun K hK => ?_) AllReadyH.nil
          go_simp
          refine (K20 _).out.mono ?_
          rintro e w120 ⟨rfl, hb⟩
          replace hS : (fun W => Below (w0).heap.size (w0) W) w120 := below_then hS hb (Below.size hS)
          refine hK.out _ _ hS (fun _ => ?_)
          clear hK K hb
          try simp only [Act.put, List.setIfInBounds_toArray, List.set_cons_zero, List.set_cons_succ]
          refine wpAnyH_take (i := 21) (oi := { dst := some 34, op := Op.pick (Operand.tmp 30) (Operand.const (Value.bool true)) (Operand.tmp 33), type := 4, pos := "law.go:40", after := #[{ on := 17, ground := Ground.data }, { on := 20, ground := Ground.data }], guard := none }) (v := ?_) rfl (by kernel_rfl) (by kernel_rfl) (by kernel_rfl) (fun _ _ _ h => h) (Or.inl ⟨by rfl, ?_⟩) (by assumption) ?_
          rotate_left
          · (intro wS hS; go_simp <;> with_reducible rfl)
          try simp only [Act.put, List.setIfInBounds_toArray, List.set_cons_zero, List.set_cons_succ]
          refine wpAnyH_take (i := 22) (oi := { dst := some 35, op := Op.move (Operand.tmp 34), type := 4, pos := "law.go:40", after := #[{ on := 21, ground := Ground.data }, { on := 20, ground := Ground.chain }], guard := none }) (v := ?_) rfl (by kernel_rfl) (by kernel_rfl) (by kernel_rfl) (fun _ _ _ h => h) (Or.inl ⟨by rfl, ?_⟩) (by assumption) ?_
          rotate_left
          · (intro wS hS; go_simp <;> with_reducible rfl)
          try simp only [Act.put, List.setIfInBounds_toArray, List.set_cons_zero, List.set_cons_succ]
          refine wpAnyH_take (i := 23) (oi := { dst := some 36, op := Op.load 24 (Operand.tmp 7), type := 24, pos := "law.go:40", after := #[{ on := 22, ground := Ground.guard }], guard := some (22, false) }) (v := ?_) rfl (by kernel_rfl) (by kernel_rfl) (by kernel_rfl) (fun _ _ _ h => h) (Or.inl ⟨by rfl, ?_⟩) (by assumption) ?_
          rotate_left
          · (intro wS hS; have a0 := cell_below hS a0; have a1 := cell_below hS a1; have b0 := cell_below hS b0; have b1 := cell_below hS b1; have c0 := cell_below hS c0; have c1 := cell_below hS c1; have l0 := cell_below hS l0; have l1 := cell_below hS l1; go_simp <;> with_reducible rfl)
          try simp only [Act.put, List.setIfInBounds_toArray, List.set_cons_zero, List.set_cons_succ]
          refine wpAnyH_take (i := 24) (oi := { dst := some 37, op := Op.load 24 (Operand.tmp 3), type := 24, pos := "law.go:40", after := #[{ on := 22, ground := Ground.guard }], guard := some (22, false) }) (v := ?_) rfl (by kernel_rfl) (by kernel_rfl) (by kernel_rfl) (fun _ _ _ h => h) (Or.inl ⟨by rfl, ?_⟩) (by assumption) ?_
          rotate_left
          · (intro wS hS; have a0 := cell_below hS a0; have a1 := cell_below hS a1; have b0 := cell_below hS b0; have b1 := cell_below hS b1; have c0 := cell_below hS c0; have c1 := cell_below hS c1; have l0 := cell_below hS l0; have l1 := cell_below hS l1; go_simp <;> with_reducible rfl)
          try simp only [Act.put, List.setIfInBounds_toArray, List.set_cons_zero, List.set_cons_succ]
          refine wpAnyH_take (i := 25) (oi := { dst := some 38, op := Op.binOp BinOp.neq 24 (Operand.tmp 36) (Operand.tmp 37) 24, type := 4, pos := "law.go:40", after := #[{ on := 23, ground := Ground.data }, { on := 24, ground := Ground.data }, { on := 22, ground := Ground.guard }], guard := some (22, false) }) (v := ?_) rfl (by kernel_rfl) (by kernel_rfl) (by kernel_rfl) (fun _ _ _ h => h) (Or.inl ⟨by rfl, ?_⟩) (by assumption) ?_
          rotate_left
          · (intro wS hS; go_simp <;> with_reducible rfl)
          try simp only [Act.put, List.setIfInBounds_toArray, List.set_cons_zero, List.set_cons_succ]
          refine wpAnyH_take (i := 26) (oi := { dst := some 39, op := Op.move (Operand.tmp 38), type := 4, pos := "law.go:40", after := #[{ on := 25, ground := Ground.data }, { on := 22, ground := Ground.chain }, { on := 22, ground := Ground.guard }], guard := some (22, false) }) (v := ?_) rfl (by kernel_rfl) (by kernel_rfl) (by kernel_rfl) (fun _ _ _ h => h) (Or.inl ⟨by rfl, ?_⟩) (by assumption) ?_
          rotate_left
          · (intro wS hS; go_simp <;> with_reducible rfl)
          try simp only [Act.put, List.setIfInBounds_toArray, List.set_cons_zero, List.set_cons_succ]
          refine wpAnyH_take (i := 27) (oi := { dst := some 40, op := Op.load 24 (Operand.tmp 7), type := 24, pos := "law.go:40", after := #[{ on := 26, ground := Ground.guard }], guard := some (26, true) }) (v := ?_) rfl (by kernel_rfl) (by kernel_rfl) (by kernel_rfl) (fun _ _ _ h => h) (Or.inl ⟨by rfl, ?_⟩) (by assumption) ?_
          rotate_left
          · (intro wS hS; have a0 := cell_below hS a0; have a1 := cell_below hS a1; have b0 := cell_below hS b0; have b1 := cell_below hS b1; have c0 := cell_below hS c0; have c1 := cell_below hS c1; have l0 := cell_below hS l0; have l1 := cell_below hS l1; go_simp <;> with_reducible rfl)
          try simp only [Act.put, List.setIfInBounds_toArray, List.set_cons_zero, List.set_cons_succ]
          refine wpAnyH_take (i := 28) (oi := { dst := some 41, op := Op.load 24 (Operand.tmp 4), type := 24, pos := "law.go:40", after := #[{ on := 26, ground := Ground.guard }], guard := some (26, true) }) (v := ?_) rfl (by kernel_rfl) (by kernel_rfl) (by kernel_rfl) (fun _ _ _ h => h) (Or.inl ⟨by rfl, ?_⟩) (by assumption) ?_
          rotate_left
          · (intro wS hS; have a0 := cell_below hS a0; have a1 := cell_below hS a1; have b0 := cell_below hS b0; have b1 := cell_below hS b1; have c0 := cell_below hS c0; have c1 := cell_below hS c1; have l0 := cell_below hS l0; have l1 := cell_below hS l1; go_simp <;> with_reducible rfl)
          try simp only [Act.put, List.setIfInBounds_toArray, List.set_cons_zero, List.set_cons_succ]
          refine wpAnyH_take (i := 29) (oi := { dst := some 42, op := Op.binOp BinOp.neq 24 (Operand.tmp 40) (Operand.tmp 41) 24, type := 4, pos := "law.go:40", after := #[{ on := 27, ground := Ground.data }, { on := 28, ground := Ground.data }, { on := 26, ground := Ground.guard }], guard := some (26, true) }) (v := ?_) rfl (by kernel_rfl) (by kernel_rfl) (by kernel_rfl) (fun _ _ _ h => h) (Or.inl ⟨by rfl, ?_⟩) (by assumption) ?_
          rotate_left
          · (intro wS hS; go_simp <;> with_reducible rfl)
          try simp only [Act.put, List.setIfInBounds_toArray, List.set_cons_zero, List.set_cons_succ]
          refine wpAnyH_take (i := 30) (oi := { dst := some 43, op := Op.pick (Operand.tmp 39) (Operand.tmp 42) (Operand.const (Value.bool false)), type := 4, pos := "law.go:40", after := #[{ on := 26, ground := Ground.data }, { on := 29, ground := Ground.data }, { on := 22, ground := Ground.guard }], guard := some (22, false) }) (v := ?_) rfl (by kernel_rfl) (by kernel_rfl) (by kernel_rfl) (fun _ _ _ h => h) (Or.inl ⟨by rfl, ?_⟩) (by assumption) ?_
          rotate_left
          · (intro wS hS; go_simp <;> with_reducible rfl)
          try simp only [Act.put, List.setIfInBounds_toArray, List.set_cons_zero, List.set_cons_succ]
          refine wpAnyH_take (i := 31) (oi := { dst := some 44, op := Op.move (Operand.tmp 43), type := 4, pos := "law.go:40", after := #[{ on := 30, ground := Ground.data }, { on := 26, ground := Ground.chain }, { on := 22, ground := Ground.guard }], guard := some (22, false) }) (v := ?_) rfl (by kernel_rfl) (by kernel_rfl) (by kernel_rfl) (fun _ _ _ h => h) (Or.inl ⟨by rfl, ?_⟩) (by assumption) ?_
          rotate_left
          · (intro wS hS; go_simp <;> with_reducible rfl)
          try simp only [Act.put, List.setIfInBounds_toArray, List.set_cons_zero, List.set_cons_succ]
          refine wpAnyH_take (i := 32) (oi := { dst := some 45, op := Op.load 24 (Operand.tmp 7), type := 24, pos := "law.go:40", after := #[{ on := 31, ground := Ground.guard }], guard := some (31, true) }) (v := undef) rfl (by kernel_rfl) (by kernel_rfl) (by kernel_rfl) (fun _ _ _ h => h) (Or.inr ⟨by rfl, rfl⟩) (by assumption) ?_
          try simp only [Act.put, List.setIfInBounds_toArray, List.set_cons_zero, List.set_cons_succ]
          refine wpAnyH_take (i := 33) (oi := { dst := some 46, op := Op.load 24 (Operand.tmp 5), type := 24, pos := "law.go:40", after := #[{ on := 31, ground := Ground.guard }], guard := some (31, true) }) (v := undef) rfl (by kernel_rfl) (by kernel_rfl) (by kernel_rfl) (fun _ _ _ h => h) (Or.inr ⟨by rfl, rfl⟩) (by assumption) ?_
          try simp only [Act.put, List.setIfInBounds_toArray, List.set_cons_zero, List.set_cons_succ]
          refine wpAnyH_take (i := 34) (oi := { dst := some 47, op := Op.binOp BinOp.neq 24 (Operand.tmp 45) (Operand.tmp 46) 24, type := 4, pos := "law.go:40", after := #[{ on := 32, ground := Ground.data }, { on := 33, ground := Ground.data }, { on := 31, ground := Ground.guard }], guard := some (31, true) }) (v := undef) rfl (by kernel_rfl) (by kernel_rfl) (by kernel_rfl) (fun _ _ _ h => h) (Or.inr ⟨by rfl, rfl⟩) (by assumption) ?_
          try simp only [Act.put, List.setIfInBounds_toArray, List.set_cons_zero, List.set_cons_succ]
          refine wpAnyH_take (i := 35) (oi := { dst := some 48, op := Op.pick (Operand.tmp 44) (Operand.tmp 47) (Operand.const (Value.bool false)), type := 4, pos := "law.go:40", after := #[{ on := 31, ground := Ground.data }, { on := 34, ground := Ground.data }, { on := 22, ground := Ground.guard }], guard := some (22, false) }) (v := ?_) rfl (by kernel_rfl) (by kernel_rfl) (by kernel_rfl) (fun _ _ _ h => h) (Or.inl ⟨by rfl, ?_⟩) (by assumption) ?_
          rotate_left
          · (intro wS hS; go_simp <;> with_reducible rfl)
          try simp only [Act.put, List.setIfInBounds_toArray, List.set_cons_zero, List.set_cons_succ]
          refine wpAnyH_take (i := 36) (oi := { dst := some 49, op := Op.pick (Operand.tmp 35) (Operand.const (Value.bool true)) (Operand.tmp 48), type := 4, pos := "law.go:40", after := #[{ on := 22, ground := Ground.data }, { on := 35, ground := Ground.data }], guard := none }) (v := ?_) rfl (by kernel_rfl) (by kernel_rfl) (by kernel_rfl) (fun _ _ _ h => h) (Or.inl ⟨by rfl, ?_⟩) (by assumption) ?_
          rotate_left
          · (intro wS hS; go_simp <;> with_reducible rfl)
          try simp only [Act.put, List.setIfInBounds_toArray, List.set_cons_zero, List.set_cons_succ]
          refine wpAnyH_done (by kernel_rfl) ?_ _
          go_wp2_with fail
          go_meet
          exact ⟨rfl, hS⟩
        · have hA' : ((l2v : Int) == a2v) = false := by simpa using hA2
          have eA : l1v = a1v := by omega
          clear hA
          subst eA
          refine wp_region_held (S := fun W => Below (w0).heap.size (w0) W) (by kernel_rfl) ?_
          change wpAnyH _ _ _ _ _ _ _ _ (w0).drew
          have hS : (fun W => Below (w0).heap.size (w0) W) (w0).drew := (Below.refl _ _).drew
          refine wpAnyH_take (i := 0) (oi := { dst := some 13, op := Op.load 24 (Operand.tmp 3), type := 24, pos := "law.go:40", after := #[], guard := none }) (v := ?_) rfl (by kernel_rfl) (by kernel_rfl) (by kernel_rfl) (fun _ _ _ h => h) (Or.inl ⟨by rfl, ?_⟩) (by assumption) ?_
          rotate_left
          · (intro wS hS; have a0 := cell_below hS a0; have a1 := cell_below hS a1; have b0 := cell_below hS b0; have b1 := cell_below hS b1; have c0 := cell_below hS c0; have c1 := cell_below hS c1; have l0 := cell_below hS l0; have l1 := cell_below hS l1; go_simp <;> with_reducible rfl)
          try simp only [Act.put, List.setIfInBounds_toArray, List.set_cons_zero, List.set_cons_succ]
          refine wpAnyH_take (i := 1) (oi := { dst := some 14, op := Op.load 24 (Operand.tmp 4), type := 24, pos := "law.go:40", after := #[], guard := none }) (v := ?_) rfl (by kernel_rfl) (by kernel_rfl) (by kernel_rfl) (fun _ _ _ h => h) (Or.inl ⟨by rfl, ?_⟩) (by assumption) ?_
          rotate_left
          · (intro wS hS; have a0 := cell_below hS a0; have a1 := cell_below hS a1; have b0 := cell_below hS b0; have b1 := cell_below hS b1; have c0 := cell_below hS c0; have c1 := cell_below hS c1; have l0 := cell_below hS l0; have l1 := cell_below hS l1; go_simp <;> with_reducible rfl)
          try simp only [Act.put, List.setIfInBounds_toArray, List.set_cons_zero, List.set_cons_succ]
          refine wpAnyH_take (i := 3) (oi := { dst := some 16, op := Op.load 24 (Operand.tmp 3), type := 24, pos := "law.go:40", after := #[], guard := none }) (v := ?_) rfl (by kernel_rfl) (by kernel_rfl) (by kernel_rfl) (fun _ _ _ h => h) (Or.inl ⟨by rfl, ?_⟩) (by assumption) ?_
          rotate_left
          · (intro wS hS; have a0 := cell_below hS a0; have a1 := cell_below hS a1; have b0 := cell_below hS b0; have b1 := cell_below hS b1; have c0 := cell_below hS c0; have c1 := cell_below hS c1; have l0 := cell_below hS l0; have l1 := cell_below hS l1; go_simp <;> with_reducible rfl)
          try simp only [Act.put, List.setIfInBounds_toArray, List.set_cons_zero, List.set_cons_succ]
          refine wpAnyH_take (i := 4) (oi := { dst := some 17, op := Op.load 24 (Operand.tmp 4), type := 24, pos := "law.go:40", after := #[], guard := none }) (v := ?_) rfl (by kernel_rfl) (by kernel_rfl) (by kernel_rfl) (fun _ _ _ h => h) (Or.inl ⟨by rfl, ?_⟩) (by assumption) ?_
          rotate_left
          · (intro wS hS; have a0 := cell_below hS a0; have a1 := cell_below hS a1; have b0 := cell_below hS b0; have b1 := cell_below hS b1; have c0 := cell_below hS c0; have c1 := cell_below hS c1; have l0 := cell_below hS l0; have l1 := cell_below hS l1; go_simp <;> with_reducible rfl)
          try simp only [Act.put, List.setIfInBounds_toArray, List.set_cons_zero, List.set_cons_succ]
          refine wpAnyH_ready (rs := [2]) (by kernel_rfl) (by simp) ?_
          refine AllReadyH.cons (o := { dst := some 15, op := Op.call { callee := Callee.value (Operand.func 16), args := #[Operand.tmp 13, Operand.tmp 14], argTypes := #[24, 24] }, type := 4, pos := "law.go:40", after := #[{ on := 0, ground := Ground.data }, { on := 1, ground := Ground.data }], guard := none }) rfl (fun K hK => ?_) AllReadyH.nil
          go_simp
          refine (KL _).out.mono ?_
          rintro e w102 ⟨rfl, hb⟩
          replace hS : (fun W => Below (w0).heap.size (w0) W) w102 := below_then hS hb (Below.size hS)
          refine hK.out _ _ hS (fun _ => ?_)
          clear hK K hb
          try simp only [Act.put, List.setIfInBounds_toArray, List.set_cons_zero, List.set_cons_succ]
          refine wpAnyH_ready (rs := [5]) (by kernel_rfl) (by simp) ?_
          refine AllReadyH.cons (o := { dst := some 18, op := Op.call { callee := Callee.value (Operand.func 17), args := #[Operand.tmp 16, Operand.tmp 17], argTypes := #[24, 24] }, type := 4, pos := "law.go:40", after := #[{ on := 3, ground := Ground.data }, { on := 4, ground := Ground.data }, { on := 2, ground := Ground.chain }], guard := none }) rfl (fun K hK => ?_) AllReadyH.nil
          go_simp
          refine (KR _).out.mono ?_
          rintro e w105 ⟨rfl, hb⟩
          replace hS : (fun W => Below (w0).heap.size (w0) W) w105 := below_then hS hb (Below.size hS)
          refine hK.out _ _ hS (fun _ => ?_)
          clear hK K hb
          try simp only [Act.put, List.setIfInBounds_toArray, List.set_cons_zero, List.set_cons_succ]
          refine wpAnyH_take (i := 6) (oi := { dst := some 19, op := Op.binOp BinOp.neq 4 (Operand.tmp 15) (Operand.tmp 18) 4, type := 4, pos := "law.go:40", after := #[{ on := 2, ground := Ground.data }, { on := 5, ground := Ground.data }], guard := none }) (v := ?_) rfl (by kernel_rfl) (by kernel_rfl) (by kernel_rfl) (fun _ _ _ h => h) (Or.inl ⟨by rfl, ?_⟩) (by assumption) ?_
          rotate_left
          · (intro wS hS; go_simp <;> with_reducible rfl)
          try simp only [Act.put, List.setIfInBounds_toArray, List.set_cons_zero, List.set_cons_succ]
          refine wpAnyH_take (i := 7) (oi := { dst := some 20, op := Op.move (Operand.tmp 19), type := 4, pos := "law.go:40", after := #[{ on := 6, ground := Ground.data }, { on := 5, ground := Ground.chain }], guard := none }) (v := ?_) rfl (by kernel_rfl) (by kernel_rfl) (by kernel_rfl) (fun _ _ _ h => h) (Or.inl ⟨by rfl, ?_⟩) (by assumption) ?_
          rotate_left
          · (intro wS hS; go_simp <;> with_reducible rfl)
          try simp only [Act.put, List.setIfInBounds_toArray, List.set_cons_zero, List.set_cons_succ]
          refine wpAnyH_take (i := 8) (oi := { dst := some 21, op := Op.load 24 (Operand.tmp 7), type := 24, pos := "law.go:40", after := #[{ on := 7, ground := Ground.guard }], guard := some (7, false) }) (v := ?_) rfl (by kernel_rfl) (by kernel_rfl) (by kernel_rfl) (fun _ _ _ h => h) (Or.inl ⟨by rfl, ?_⟩) (by assumption) ?_
          rotate_left
          · (intro wS hS; have a0 := cell_below hS a0; have a1 := cell_below hS a1; have b0 := cell_below hS b0; have b1 := cell_below hS b1; have c0 := cell_below hS c0; have c1 := cell_below hS c1; have l0 := cell_below hS l0; have l1 := cell_below hS l1; go_simp <;> with_reducible rfl)
          try simp only [Act.put, List.setIfInBounds_toArray, List.set_cons_zero, List.set_cons_succ]
          refine wpAnyH_take (i := 9) (oi := { dst := some 22, op := Op.load 24 (Operand.tmp 3), type := 24, pos := "law.go:40", after := #[{ on := 7, ground := Ground.guard }], guard := some (7, false) }) (v := ?_) rfl (by kernel_rfl) (by kernel_rfl) (by kernel_rfl) (fun _ _ _ h => h) (Or.inl ⟨by rfl, ?_⟩) (by assumption) ?_
          rotate_left
          · (intro wS hS; have a0 := cell_below hS a0; have a1 := cell_below hS a1; have b0 := cell_below hS b0; have b1 := cell_below hS b1; have c0 := cell_below hS c0; have c1 := cell_below hS c1; have l0 := cell_below hS l0; have l1 := cell_below hS l1; go_simp <;> with_reducible rfl)
          try simp only [Act.put, List.setIfInBounds_toArray, List.set_cons_zero, List.set_cons_succ]
          refine wpAnyH_ready (rs := [10]) (by kernel_rfl) (by simp) ?_
          refine AllReadyH.cons (o := { dst := some 23, op := Op.call { callee := Callee.value (Operand.func 17), args := #[Operand.tmp 21, Operand.tmp 22], argTypes := #[24, 24] }, type := 4, pos := "law.go:40", after := #[{ on := 8, ground := Ground.data }, { on := 9, ground := Ground.data }, { on := 7, ground := Ground.chain }, { on := 7, ground := Ground.guard }], guard := some (7, false) }) rfl (fun K hK => ?_) AllReadyH.nil
          go_simp
          refine (K10 _).out.mono ?_
          rintro e w110 ⟨rfl, hb⟩
          replace hS : (fun W => Below (w0).heap.size (w0) W) w110 := below_then hS hb (Below.size hS)
          refine hK.out _ _ hS (fun _ => ?_)
          clear hK K hb
          try simp only [Act.put, List.setIfInBounds_toArray, List.set_cons_zero, List.set_cons_succ]
          refine wpAnyH_take (i := 11) (oi := { dst := some 24, op := Op.pick (Operand.tmp 20) (Operand.const (Value.bool true)) (Operand.tmp 23), type := 4, pos := "law.go:40", after := #[{ on := 7, ground := Ground.data }, { on := 10, ground := Ground.data }], guard := none }) (v := ?_) rfl (by kernel_rfl) (by kernel_rfl) (by kernel_rfl) (fun _ _ _ h => h) (Or.inl ⟨by rfl, ?_⟩) (by assumption) ?_
          rotate_left
          · (intro wS hS; go_simp <;> with_reducible rfl)
          try simp only [Act.put, List.setIfInBounds_toArray, List.set_cons_zero, List.set_cons_succ]
          refine wpAnyH_take (i := 12) (oi := { dst := some 25, op := Op.move (Operand.tmp 24), type := 4, pos := "law.go:40", after := #[{ on := 11, ground := Ground.data }, { on := 10, ground := Ground.chain }], guard := none }) (v := ?_) rfl (by kernel_rfl) (by kernel_rfl) (by kernel_rfl) (fun _ _ _ h => h) (Or.inl ⟨by rfl, ?_⟩) (by assumption) ?_
          rotate_left
          · (intro wS hS; go_simp <;> with_reducible rfl)
          try simp only [Act.put, List.setIfInBounds_toArray, List.set_cons_zero, List.set_cons_succ]
          refine wpAnyH_take (i := 13) (oi := { dst := some 26, op := Op.load 24 (Operand.tmp 7), type := 24, pos := "law.go:40", after := #[{ on := 12, ground := Ground.guard }], guard := some (12, false) }) (v := ?_) rfl (by kernel_rfl) (by kernel_rfl) (by kernel_rfl) (fun _ _ _ h => h) (Or.inl ⟨by rfl, ?_⟩) (by assumption) ?_
          rotate_left
          · (intro wS hS; have a0 := cell_below hS a0; have a1 := cell_below hS a1; have b0 := cell_below hS b0; have b1 := cell_below hS b1; have c0 := cell_below hS c0; have c1 := cell_below hS c1; have l0 := cell_below hS l0; have l1 := cell_below hS l1; go_simp <;> with_reducible rfl)
          try simp only [Act.put, List.setIfInBounds_toArray, List.set_cons_zero, List.set_cons_succ]
          refine wpAnyH_take (i := 14) (oi := { dst := some 27, op := Op.load 24 (Operand.tmp 4), type := 24, pos := "law.go:40", after := #[{ on := 12, ground := Ground.guard }], guard := some (12, false) }) (v := ?_) rfl (by kernel_rfl) (by kernel_rfl) (by kernel_rfl) (fun _ _ _ h => h) (Or.inl ⟨by rfl, ?_⟩) (by assumption) ?_
          rotate_left
          · (intro wS hS; have a0 := cell_below hS a0; have a1 := cell_below hS a1; have b0 := cell_below hS b0; have b1 := cell_below hS b1; have c0 := cell_below hS c0; have c1 := cell_below hS c1; have l0 := cell_below hS l0; have l1 := cell_below hS l1; go_simp <;> with_reducible rfl)
          try simp only [Act.put, List.setIfInBounds_toArray, List.set_cons_zero, List.set_cons_succ]
          refine wpAnyH_ready (rs := [15]) (by kernel_rfl) (by simp) ?_
          refine AllReadyH.cons (o := { dst := some 28, op := Op.call { callee := Callee.value (Operand.func 17), args := #[Operand.tmp 26, Operand.tmp 27], argTypes := #[24, 24] }, type := 4, pos := "law.go:40", after := #[{ on := 13, ground := Ground.data }, { on := 14, ground := Ground.data }, { on := 12, ground := Ground.chain }, { on := 12, ground := Ground.guard }], guard := some (12, false) }) rfl (fun K hK => ?_) AllReadyH.nil
          go_simp
          refine (K15 _).out.mono ?_
          rintro e w115 ⟨rfl, hb⟩
          replace hS : (fun W => Below (w0).heap.size (w0) W) w115 := below_then hS hb (Below.size hS)
          refine hK.out _ _ hS (fun _ => ?_)
          clear hK K hb
          try simp only [Act.put, List.setIfInBounds_toArray, List.set_cons_zero, List.set_cons_succ]
          refine wpAnyH_take (i := 16) (oi := { dst := some 29, op := Op.pick (Operand.tmp 25) (Operand.const (Value.bool true)) (Operand.tmp 28), type := 4, pos := "law.go:40", after := #[{ on := 12, ground := Ground.data }, { on := 15, ground := Ground.data }], guard := none }) (v := ?_) rfl (by kernel_rfl) (by kernel_rfl) (by kernel_rfl) (fun _ _ _ h => h) (Or.inl ⟨by rfl, ?_⟩) (by assumption) ?_
          rotate_left
          · (intro wS hS; go_simp <;> with_reducible rfl)
          try simp only [Act.put, List.setIfInBounds_toArray, List.set_cons_zero, List.set_cons_succ]
          refine wpAnyH_take (i := 17) (oi := { dst := some 30, op := Op.move (Operand.tmp 29), type := 4, pos := "law.go:40", after := #[{ on := 16, ground := Ground.data }, { on := 15, ground := Ground.chain }], guard := none }) (v := ?_) rfl (by kernel_rfl) (by kernel_rfl) (by kernel_rfl) (fun _ _ _ h => h) (Or.inl ⟨by rfl, ?_⟩) (by assumption) ?_
          rotate_left
          · (intro wS hS; go_simp <;> with_reducible rfl)
          try simp only [Act.put, List.setIfInBounds_toArray, List.set_cons_zero, List.set_cons_succ]
          refine wpAnyH_take (i := 18) (oi := { dst := some 31, op := Op.load 24 (Operand.tmp 7), type := 24, pos := "law.go:40", after := #[{ on := 17, ground := Ground.guard }], guard := some (17, false) }) (v := ?_) rfl (by kernel_rfl) (by kernel_rfl) (by kernel_rfl) (fun _ _ _ h => h) (Or.inl ⟨by rfl, ?_⟩) (by assumption) ?_
          rotate_left
          · (intro wS hS; have a0 := cell_below hS a0; have a1 := cell_below hS a1; have b0 := cell_below hS b0; have b1 := cell_below hS b1; have c0 := cell_below hS c0; have c1 := cell_below hS c1; have l0 := cell_below hS l0; have l1 := cell_below hS l1; go_simp <;> with_reducible rfl)
          try simp only [Act.put, List.setIfInBounds_toArray, List.set_cons_zero, List.set_cons_succ]
          refine wpAnyH_take (i := 19) (oi := { dst := some 32, op := Op.load 24 (Operand.tmp 5), type := 24, pos := "law.go:40", after := #[{ on := 17, ground := Ground.guard }], guard := some (17, false) }) (v := ?_) rfl (by kernel_rfl) (by kernel_rfl) (by kernel_rfl) (fun _ _ _ h => h) (Or.inl ⟨by rfl, ?_⟩) (by assumption) ?_
          rotate_left
          · (intro wS hS; have a0 := cell_below hS a0; have a1 := cell_below hS a1; have b0 := cell_below hS b0; have b1 := cell_below hS b1; have c0 := cell_below hS c0; have c1 := cell_below hS c1; have l0 := cell_below hS l0; have l1 := cell_below hS l1; go_simp <;> with_reducible rfl)
          try simp only [Act.put, List.setIfInBounds_toArray, List.set_cons_zero, List.set_cons_succ]
          refine wpAnyH_ready (rs := [20]) (by kernel_rfl) (by simp) ?_
          refine AllReadyH.cons (o := { dst := some 33, op := Op.call { callee := Callee.value (Operand.func 17), args := #[Operand.tmp 31, Operand.tmp 32], argTypes := #[24, 24] }, type := 4, pos := "law.go:40", after := #[{ on := 18, ground := Ground.data }, { on := 19, ground := Ground.data }, { on := 17, ground := Ground.chain }, { on := 17, ground := Ground.guard }], guard := some (17, false) }) rfl (fun K hK => ?_) AllReadyH.nil
          go_simp
          refine (K20 _).out.mono ?_
          rintro e w120 ⟨rfl, hb⟩
          replace hS : (fun W => Below (w0).heap.size (w0) W) w120 := below_then hS hb (Below.size hS)
          refine hK.out _ _ hS (fun _ => ?_)
          clear hK K hb
          try simp only [Act.put, List.setIfInBounds_toArray, List.set_cons_zero, List.set_cons_succ]
          refine wpAnyH_take (i := 21) (oi := { dst := some 34, op := Op.pick (Operand.tmp 30) (Operand.const (Value.bool true)) (Operand.tmp 33), type := 4, pos := "law.go:40", after := #[{ on := 17, ground := Ground.data }, { on := 20, ground := Ground.data }], guard := none }) (v := ?_) rfl (by kernel_rfl) (by kernel_rfl) (by kernel_rfl) (fun _ _ _ h => h) (Or.inl ⟨by rfl, ?_⟩) (by assumption) ?_
          rotate_left
          · (intro wS hS; go_simp <;> with_reducible rfl)
          try simp only [Act.put, List.setIfInBounds_toArray, List.set_cons_zero, List.set_cons_succ]
          refine wpAnyH_take (i := 22) (oi := { dst := some 35, op := Op.move (Operand.tmp 34), type := 4, pos := "law.go:40", after := #[{ on := 21, ground := Ground.data }, { on := 20, ground := Ground.chain }], guard := none }) (v := ?_) rfl (by kernel_rfl) (by kernel_rfl) (by kernel_rfl) (fun _ _ _ h => h) (Or.inl ⟨by rfl, ?_⟩) (by assumption) ?_
          rotate_left
          · (intro wS hS; go_simp <;> with_reducible rfl)
          try simp only [Act.put, List.setIfInBounds_toArray, List.set_cons_zero, List.set_cons_succ]
          refine wpAnyH_take (i := 23) (oi := { dst := some 36, op := Op.load 24 (Operand.tmp 7), type := 24, pos := "law.go:40", after := #[{ on := 22, ground := Ground.guard }], guard := some (22, false) }) (v := ?_) rfl (by kernel_rfl) (by kernel_rfl) (by kernel_rfl) (fun _ _ _ h => h) (Or.inl ⟨by rfl, ?_⟩) (by assumption) ?_
          rotate_left
          · (intro wS hS; have a0 := cell_below hS a0; have a1 := cell_below hS a1; have b0 := cell_below hS b0; have b1 := cell_below hS b1; have c0 := cell_below hS c0; have c1 := cell_below hS c1; have l0 := cell_below hS l0; have l1 := cell_below hS l1; go_simp <;> with_reducible rfl)
          try simp only [Act.put, List.setIfInBounds_toArray, List.set_cons_zero, List.set_cons_succ]
          refine wpAnyH_take (i := 24) (oi := { dst := some 37, op := Op.load 24 (Operand.tmp 3), type := 24, pos := "law.go:40", after := #[{ on := 22, ground := Ground.guard }], guard := some (22, false) }) (v := ?_) rfl (by kernel_rfl) (by kernel_rfl) (by kernel_rfl) (fun _ _ _ h => h) (Or.inl ⟨by rfl, ?_⟩) (by assumption) ?_
          rotate_left
          · (intro wS hS; have a0 := cell_below hS a0; have a1 := cell_below hS a1; have b0 := cell_below hS b0; have b1 := cell_below hS b1; have c0 := cell_below hS c0; have c1 := cell_below hS c1; have l0 := cell_below hS l0; have l1 := cell_below hS l1; go_simp <;> with_reducible rfl)
          try simp only [Act.put, List.setIfInBounds_toArray, List.set_cons_zero, List.set_cons_succ]
          refine wpAnyH_take (i := 25) (oi := { dst := some 38, op := Op.binOp BinOp.neq 24 (Operand.tmp 36) (Operand.tmp 37) 24, type := 4, pos := "law.go:40", after := #[{ on := 23, ground := Ground.data }, { on := 24, ground := Ground.data }, { on := 22, ground := Ground.guard }], guard := some (22, false) }) (v := ?_) rfl (by kernel_rfl) (by kernel_rfl) (by kernel_rfl) (fun _ _ _ h => h) (Or.inl ⟨by rfl, ?_⟩) (by assumption) ?_
          rotate_left
          · (intro wS hS; go_simp <;> with_reducible rfl)
          try simp only [Act.put, List.setIfInBounds_toArray, List.set_cons_zero, List.set_cons_succ]
          refine wpAnyH_take (i := 26) (oi := { dst := some 39, op := Op.move (Operand.tmp 38), type := 4, pos := "law.go:40", after := #[{ on := 25, ground := Ground.data }, { on := 22, ground := Ground.chain }, { on := 22, ground := Ground.guard }], guard := some (22, false) }) (v := ?_) rfl (by kernel_rfl) (by kernel_rfl) (by kernel_rfl) (fun _ _ _ h => h) (Or.inl ⟨by rfl, ?_⟩) (by assumption) ?_
          rotate_left
          · (intro wS hS; go_simp <;> with_reducible rfl)
          try simp only [Act.put, List.setIfInBounds_toArray, List.set_cons_zero, List.set_cons_succ]
          refine wpAnyH_take (i := 27) (oi := { dst := some 40, op := Op.load 24 (Operand.tmp 7), type := 24, pos := "law.go:40", after := #[{ on := 26, ground := Ground.guard }], guard := some (26, true) }) (v := ?_) rfl (by kernel_rfl) (by kernel_rfl) (by kernel_rfl) (fun _ _ _ h => h) (Or.inl ⟨by rfl, ?_⟩) (by assumption) ?_
          rotate_left
          · (intro wS hS; have a0 := cell_below hS a0; have a1 := cell_below hS a1; have b0 := cell_below hS b0; have b1 := cell_below hS b1; have c0 := cell_below hS c0; have c1 := cell_below hS c1; have l0 := cell_below hS l0; have l1 := cell_below hS l1; go_simp <;> with_reducible rfl)
          try simp only [Act.put, List.setIfInBounds_toArray, List.set_cons_zero, List.set_cons_succ]
          refine wpAnyH_take (i := 28) (oi := { dst := some 41, op := Op.load 24 (Operand.tmp 4), type := 24, pos := "law.go:40", after := #[{ on := 26, ground := Ground.guard }], guard := some (26, true) }) (v := ?_) rfl (by kernel_rfl) (by kernel_rfl) (by kernel_rfl) (fun _ _ _ h => h) (Or.inl ⟨by rfl, ?_⟩) (by assumption) ?_
          rotate_left
          · (intro wS hS; have a0 := cell_below hS a0; have a1 := cell_below hS a1; have b0 := cell_below hS b0; have b1 := cell_below hS b1; have c0 := cell_below hS c0; have c1 := cell_below hS c1; have l0 := cell_below hS l0; have l1 := cell_below hS l1; go_simp <;> with_reducible rfl)
          try simp only [Act.put, List.setIfInBounds_toArray, List.set_cons_zero, List.set_cons_succ]
          refine wpAnyH_take (i := 29) (oi := { dst := some 42, op := Op.binOp BinOp.neq 24 (Operand.tmp 40) (Operand.tmp 41) 24, type := 4, pos := "law.go:40", after := #[{ on := 27, ground := Ground.data }, { on := 28, ground := Ground.data }, { on := 26, ground := Ground.guard }], guard := some (26, true) }) (v := ?_) rfl (by kernel_rfl) (by kernel_rfl) (by kernel_rfl) (fun _ _ _ h => h) (Or.inl ⟨by rfl, ?_⟩) (by assumption) ?_
          rotate_left
          · (intro wS hS; go_simp <;> with_reducible rfl)
          try simp only [Act.put, List.setIfInBounds_toArray, List.set_cons_zero, List.set_cons_succ]
          refine wpAnyH_take (i := 30) (oi := { dst := some 43, op := Op.pick (Operand.tmp 39) (Operand.tmp 42) (Operand.const (Value.bool false)), type := 4, pos := "law.go:40", after := #[{ on := 26, ground := Ground.data }, { on := 29, ground := Ground.data }, { on := 22, ground := Ground.guard }], guard := some (22, false) }) (v := ?_) rfl (by kernel_rfl) (by kernel_rfl) (by kernel_rfl) (fun _ _ _ h => h) (Or.inl ⟨by rfl, ?_⟩) (by assumption) ?_
          rotate_left
          · (intro wS hS; go_simp <;> with_reducible rfl)
          try simp only [Act.put, List.setIfInBounds_toArray, List.set_cons_zero, List.set_cons_succ]
          refine wpAnyH_take (i := 31) (oi := { dst := some 44, op := Op.move (Operand.tmp 43), type := 4, pos := "law.go:40", after := #[{ on := 30, ground := Ground.data }, { on := 26, ground := Ground.chain }, { on := 22, ground := Ground.guard }], guard := some (22, false) }) (v := ?_) rfl (by kernel_rfl) (by kernel_rfl) (by kernel_rfl) (fun _ _ _ h => h) (Or.inl ⟨by rfl, ?_⟩) (by assumption) ?_
          rotate_left
          · (intro wS hS; go_simp <;> with_reducible rfl)
          try simp only [Act.put, List.setIfInBounds_toArray, List.set_cons_zero, List.set_cons_succ]
          refine wpAnyH_take (i := 32) (oi := { dst := some 45, op := Op.load 24 (Operand.tmp 7), type := 24, pos := "law.go:40", after := #[{ on := 31, ground := Ground.guard }], guard := some (31, true) }) (v := undef) rfl (by kernel_rfl) (by kernel_rfl) (by kernel_rfl) (fun _ _ _ h => h) (Or.inr ⟨by rfl, rfl⟩) (by assumption) ?_
          try simp only [Act.put, List.setIfInBounds_toArray, List.set_cons_zero, List.set_cons_succ]
          refine wpAnyH_take (i := 33) (oi := { dst := some 46, op := Op.load 24 (Operand.tmp 5), type := 24, pos := "law.go:40", after := #[{ on := 31, ground := Ground.guard }], guard := some (31, true) }) (v := undef) rfl (by kernel_rfl) (by kernel_rfl) (by kernel_rfl) (fun _ _ _ h => h) (Or.inr ⟨by rfl, rfl⟩) (by assumption) ?_
          try simp only [Act.put, List.setIfInBounds_toArray, List.set_cons_zero, List.set_cons_succ]
          refine wpAnyH_take (i := 34) (oi := { dst := some 47, op := Op.binOp BinOp.neq 24 (Operand.tmp 45) (Operand.tmp 46) 24, type := 4, pos := "law.go:40", after := #[{ on := 32, ground := Ground.data }, { on := 33, ground := Ground.data }, { on := 31, ground := Ground.guard }], guard := some (31, true) }) (v := undef) rfl (by kernel_rfl) (by kernel_rfl) (by kernel_rfl) (fun _ _ _ h => h) (Or.inr ⟨by rfl, rfl⟩) (by assumption) ?_
          try simp only [Act.put, List.setIfInBounds_toArray, List.set_cons_zero, List.set_cons_succ]
          refine wpAnyH_take (i := 35) (oi := { dst := some 48, op := Op.pick (Operand.tmp 44) (Operand.tmp 47) (Operand.const (Value.bool false)), type := 4, pos := "law.go:40", after := #[{ on := 31, ground := Ground.data }, { on := 34, ground := Ground.data }, { on := 22, ground := Ground.guard }], guard := some (22, false) }) (v := ?_) rfl (by kernel_rfl) (by kernel_rfl) (by kernel_rfl) (fun _ _ _ h => h) (Or.inl ⟨by rfl, ?_⟩) (by assumption) ?_
          rotate_left
          · (intro wS hS; go_simp <;> with_reducible rfl)
          try simp only [Act.put, List.setIfInBounds_toArray, List.set_cons_zero, List.set_cons_succ]
          refine wpAnyH_take (i := 36) (oi := { dst := some 49, op := Op.pick (Operand.tmp 35) (Operand.const (Value.bool true)) (Operand.tmp 48), type := 4, pos := "law.go:40", after := #[{ on := 22, ground := Ground.data }, { on := 35, ground := Ground.data }], guard := none }) (v := ?_) rfl (by kernel_rfl) (by kernel_rfl) (by kernel_rfl) (fun _ _ _ h => h) (Or.inl ⟨by rfl, ?_⟩) (by assumption) ?_
          rotate_left
          · (intro wS hS; go_simp <;> with_reducible rfl)
          try simp only [Act.put, List.setIfInBounds_toArray, List.set_cons_zero, List.set_cons_succ]
          refine wpAnyH_done (by kernel_rfl) ?_ _
          go_wp2_with fail
          go_meet
          exact ⟨rfl, hS⟩
      · have hBn : ¬ ((l1v : Int) = b1v) ∨ ((l1v : Int) = b1v ∧ ¬ ((l2v : Int) = b2v)) := by omega
        have hc : l1v = c1v ∧ l2v = c2v := by omega
        obtain ⟨rfl, rfl⟩ := hc
        clear hM ha hb
        rcases hA with hA | ⟨hA, hA2⟩
        · have hA' : ((l1v : Int) == a1v) = false := by simpa using hA
          rcases hBn with hC | ⟨hC, hC2⟩
          · have hC' : ((l1v : Int) == b1v) = false := by simpa using hC
            refine wp_region_held (S := fun W => Below (w0).heap.size (w0) W) (by kernel_rfl) ?_
            change wpAnyH _ _ _ _ _ _ _ _ (w0).drew
            have hS : (fun W => Below (w0).heap.size (w0) W) (w0).drew := (Below.refl _ _).drew
            refine wpAnyH_take (i := 0) (oi := { dst := some 13, op := Op.load 24 (Operand.tmp 3), type := 24, pos := "law.go:40", after := #[], guard := none }) (v := ?_) rfl (by kernel_rfl) (by kernel_rfl) (by kernel_rfl) (fun _ _ _ h => h) (Or.inl ⟨by rfl, ?_⟩) (by assumption) ?_
            rotate_left
            · (intro wS hS; have a0 := cell_below hS a0; have a1 := cell_below hS a1; have b0 := cell_below hS b0; have b1 := cell_below hS b1; have c0 := cell_below hS c0; have c1 := cell_below hS c1; have l0 := cell_below hS l0; have l1 := cell_below hS l1; go_simp <;> with_reducible rfl)
            try simp only [Act.put, List.setIfInBounds_toArray, List.set_cons_zero, List.set_cons_succ]
            refine wpAnyH_take (i := 1) (oi := { dst := some 14, op := Op.load 24 (Operand.tmp 4), type := 24, pos := "law.go:40", after := #[], guard := none }) (v := ?_) rfl (by kernel_rfl) (by kernel_rfl) (by kernel_rfl) (fun _ _ _ h => h) (Or.inl ⟨by rfl, ?_⟩) (by assumption) ?_
            rotate_left
            · (intro wS hS; have a0 := cell_below hS a0; have a1 := cell_below hS a1; have b0 := cell_below hS b0; have b1 := cell_below hS b1; have c0 := cell_below hS c0; have c1 := cell_below hS c1; have l0 := cell_below hS l0; have l1 := cell_below hS l1; go_simp <;> with_reducible rfl)
            try simp only [Act.put, List.setIfInBounds_toArray, List.set_cons_zero, List.set_cons_succ]
            refine wpAnyH_take (i := 3) (oi := { dst := some 16, op := Op.load 24 (Operand.tmp 3), type := 24, pos := "law.go:40", after := #[], guard := none }) (v := ?_) rfl (by kernel_rfl) (by kernel_rfl) (by kernel_rfl) (fun _ _ _ h => h) (Or.inl ⟨by rfl, ?_⟩) (by assumption) ?_
            rotate_left
            · (intro wS hS; have a0 := cell_below hS a0; have a1 := cell_below hS a1; have b0 := cell_below hS b0; have b1 := cell_below hS b1; have c0 := cell_below hS c0; have c1 := cell_below hS c1; have l0 := cell_below hS l0; have l1 := cell_below hS l1; go_simp <;> with_reducible rfl)
            try simp only [Act.put, List.setIfInBounds_toArray, List.set_cons_zero, List.set_cons_succ]
            refine wpAnyH_take (i := 4) (oi := { dst := some 17, op := Op.load 24 (Operand.tmp 4), type := 24, pos := "law.go:40", after := #[], guard := none }) (v := ?_) rfl (by kernel_rfl) (by kernel_rfl) (by kernel_rfl) (fun _ _ _ h => h) (Or.inl ⟨by rfl, ?_⟩) (by assumption) ?_
            rotate_left
            · (intro wS hS; have a0 := cell_below hS a0; have a1 := cell_below hS a1; have b0 := cell_below hS b0; have b1 := cell_below hS b1; have c0 := cell_below hS c0; have c1 := cell_below hS c1; have l0 := cell_below hS l0; have l1 := cell_below hS l1; go_simp <;> with_reducible rfl)
            try simp only [Act.put, List.setIfInBounds_toArray, List.set_cons_zero, List.set_cons_succ]
            refine wpAnyH_ready (rs := [2]) (by kernel_rfl) (by simp) ?_
            refine AllReadyH.cons (o := { dst := some 15, op := Op.call { callee := Callee.value (Operand.func 16), args := #[Operand.tmp 13, Operand.tmp 14], argTypes := #[24, 24] }, type := 4, pos := "law.go:40", after := #[{ on := 0, ground := Ground.data }, { on := 1, ground := Ground.data }], guard := none }) rfl (fun K hK => ?_) AllReadyH.nil
            go_simp
            refine (KL _).out.mono ?_
            rintro e w102 ⟨rfl, hb⟩
            replace hS : (fun W => Below (w0).heap.size (w0) W) w102 := below_then hS hb (Below.size hS)
            refine hK.out _ _ hS (fun _ => ?_)
            clear hK K hb
            try simp only [Act.put, List.setIfInBounds_toArray, List.set_cons_zero, List.set_cons_succ]
            refine wpAnyH_ready (rs := [5]) (by kernel_rfl) (by simp) ?_
            refine AllReadyH.cons (o := { dst := some 18, op := Op.call { callee := Callee.value (Operand.func 17), args := #[Operand.tmp 16, Operand.tmp 17], argTypes := #[24, 24] }, type := 4, pos := "law.go:40", after := #[{ on := 3, ground := Ground.data }, { on := 4, ground := Ground.data }, { on := 2, ground := Ground.chain }], guard := none }) rfl (fun K hK => ?_) AllReadyH.nil
            go_simp
            refine (KR _).out.mono ?_
            rintro e w105 ⟨rfl, hb⟩
            replace hS : (fun W => Below (w0).heap.size (w0) W) w105 := below_then hS hb (Below.size hS)
            refine hK.out _ _ hS (fun _ => ?_)
            clear hK K hb
            try simp only [Act.put, List.setIfInBounds_toArray, List.set_cons_zero, List.set_cons_succ]
            refine wpAnyH_take (i := 6) (oi := { dst := some 19, op := Op.binOp BinOp.neq 4 (Operand.tmp 15) (Operand.tmp 18) 4, type := 4, pos := "law.go:40", after := #[{ on := 2, ground := Ground.data }, { on := 5, ground := Ground.data }], guard := none }) (v := ?_) rfl (by kernel_rfl) (by kernel_rfl) (by kernel_rfl) (fun _ _ _ h => h) (Or.inl ⟨by rfl, ?_⟩) (by assumption) ?_
            rotate_left
            · (intro wS hS; go_simp <;> with_reducible rfl)
            try simp only [Act.put, List.setIfInBounds_toArray, List.set_cons_zero, List.set_cons_succ]
            refine wpAnyH_take (i := 7) (oi := { dst := some 20, op := Op.move (Operand.tmp 19), type := 4, pos := "law.go:40", after := #[{ on := 6, ground := Ground.data }, { on := 5, ground := Ground.chain }], guard := none }) (v := ?_) rfl (by kernel_rfl) (by kernel_rfl) (by kernel_rfl) (fun _ _ _ h => h) (Or.inl ⟨by rfl, ?_⟩) (by assumption) ?_
            rotate_left
            · (intro wS hS; go_simp <;> with_reducible rfl)
            try simp only [Act.put, List.setIfInBounds_toArray, List.set_cons_zero, List.set_cons_succ]
            refine wpAnyH_take (i := 8) (oi := { dst := some 21, op := Op.load 24 (Operand.tmp 7), type := 24, pos := "law.go:40", after := #[{ on := 7, ground := Ground.guard }], guard := some (7, false) }) (v := ?_) rfl (by kernel_rfl) (by kernel_rfl) (by kernel_rfl) (fun _ _ _ h => h) (Or.inl ⟨by rfl, ?_⟩) (by assumption) ?_
            rotate_left
            · (intro wS hS; have a0 := cell_below hS a0; have a1 := cell_below hS a1; have b0 := cell_below hS b0; have b1 := cell_below hS b1; have c0 := cell_below hS c0; have c1 := cell_below hS c1; have l0 := cell_below hS l0; have l1 := cell_below hS l1; go_simp <;> with_reducible rfl)
            try simp only [Act.put, List.setIfInBounds_toArray, List.set_cons_zero, List.set_cons_succ]
            refine wpAnyH_take (i := 9) (oi := { dst := some 22, op := Op.load 24 (Operand.tmp 3), type := 24, pos := "law.go:40", after := #[{ on := 7, ground := Ground.guard }], guard := some (7, false) }) (v := ?_) rfl (by kernel_rfl) (by kernel_rfl) (by kernel_rfl) (fun _ _ _ h => h) (Or.inl ⟨by rfl, ?_⟩) (by assumption) ?_
            rotate_left
            · (intro wS hS; have a0 := cell_below hS a0; have a1 := cell_below hS a1; have b0 := cell_below hS b0; have b1 := cell_below hS b1; have c0 := cell_below hS c0; have c1 := cell_below hS c1; have l0 := cell_below hS l0; have l1 := cell_below hS l1; go_simp <;> with_reducible rfl)
            try simp only [Act.put, List.setIfInBounds_toArray, List.set_cons_zero, List.set_cons_succ]
            refine wpAnyH_ready (rs := [10]) (by kernel_rfl) (by simp) ?_
            refine AllReadyH.cons (o := { dst := some 23, op := Op.call { callee := Callee.value (Operand.func 17), args := #[Operand.tmp 21, Operand.tmp 22], argTypes := #[24, 24] }, type := 4, pos := "law.go:40", after := #[{ on := 8, ground := Ground.data }, { on := 9, ground := Ground.data }, { on := 7, ground := Ground.chain }, { on := 7, ground := Ground.guard }], guard := some (7, false) }) rfl (fun K hK => ?_) AllReadyH.nil
            go_simp
            refine (K10 _).out.mono ?_
            rintro e w110 ⟨rfl, hb⟩
            replace hS : (fun W => Below (w0).heap.size (w0) W) w110 := below_then hS hb (Below.size hS)
            refine hK.out _ _ hS (fun _ => ?_)
            clear hK K hb
            try simp only [Act.put, List.setIfInBounds_toArray, List.set_cons_zero, List.set_cons_succ]
            refine wpAnyH_take (i := 11) (oi := { dst := some 24, op := Op.pick (Operand.tmp 20) (Operand.const (Value.bool true)) (Operand.tmp 23), type := 4, pos := "law.go:40", after := #[{ on := 7, ground := Ground.data }, { on := 10, ground := Ground.data }], guard := none }) (v := ?_) rfl (by kernel_rfl) (by kernel_rfl) (by kernel_rfl) (fun _ _ _ h => h) (Or.inl ⟨by rfl, ?_⟩) (by assumption) ?_
            rotate_left
            · (intro wS hS; go_simp <;> with_reducible rfl)
            try simp only [Act.put, List.setIfInBounds_toArray, List.set_cons_zero, List.set_cons_succ]
            refine wpAnyH_take (i := 12) (oi := { dst := some 25, op := Op.move (Operand.tmp 24), type := 4, pos := "law.go:40", after := #[{ on := 11, ground := Ground.data }, { on := 10, ground := Ground.chain }], guard := none }) (v := ?_) rfl (by kernel_rfl) (by kernel_rfl) (by kernel_rfl) (fun _ _ _ h => h) (Or.inl ⟨by rfl, ?_⟩) (by assumption) ?_
            rotate_left
            · (intro wS hS; go_simp <;> with_reducible rfl)
            try simp only [Act.put, List.setIfInBounds_toArray, List.set_cons_zero, List.set_cons_succ]
            refine wpAnyH_take (i := 13) (oi := { dst := some 26, op := Op.load 24 (Operand.tmp 7), type := 24, pos := "law.go:40", after := #[{ on := 12, ground := Ground.guard }], guard := some (12, false) }) (v := ?_) rfl (by kernel_rfl) (by kernel_rfl) (by kernel_rfl) (fun _ _ _ h => h) (Or.inl ⟨by rfl, ?_⟩) (by assumption) ?_
            rotate_left
            · (intro wS hS; have a0 := cell_below hS a0; have a1 := cell_below hS a1; have b0 := cell_below hS b0; have b1 := cell_below hS b1; have c0 := cell_below hS c0; have c1 := cell_below hS c1; have l0 := cell_below hS l0; have l1 := cell_below hS l1; go_simp <;> with_reducible rfl)
            try simp only [Act.put, List.setIfInBounds_toArray, List.set_cons_zero, List.set_cons_succ]
            refine wpAnyH_take (i := 14) (oi := { dst := some 27, op := Op.load 24 (Operand.tmp 4), type := 24, pos := "law.go:40", after := #[{ on := 12, ground := Ground.guard }], guard := some (12, false) }) (v := ?_) rfl (by kernel_rfl) (by kernel_rfl) (by kernel_rfl) (fun _ _ _ h => h) (Or.inl ⟨by rfl, ?_⟩) (by assumption) ?_
            rotate_left
            · (intro wS hS; have a0 := cell_below hS a0; have a1 := cell_below hS a1; have b0 := cell_below hS b0; have b1 := cell_below hS b1; have c0 := cell_below hS c0; have c1 := cell_below hS c1; have l0 := cell_below hS l0; have l1 := cell_below hS l1; go_simp <;> with_reducible rfl)
            try simp only [Act.put, List.setIfInBounds_toArray, List.set_cons_zero, List.set_cons_succ]
            refine wpAnyH_ready (rs := [15]) (by kernel_rfl) (by simp) ?_
            refine AllReadyH.cons (o := { dst := some 28, op := Op.call { callee := Callee.value (Operand.func 17), args := #[Operand.tmp 26, Operand.tmp 27], argTypes := #[24, 24] }, type := 4, pos := "law.go:40", after := #[{ on := 13, ground := Ground.data }, { on := 14, ground := Ground.data }, { on := 12, ground := Ground.chain }, { on := 12, ground := Ground.guard }], guard := some (12, false) }) rfl (fun K hK => ?_) AllReadyH.nil
            go_simp
            refine (K15 _).out.mono ?_
            rintro e w115 ⟨rfl, hb⟩
            replace hS : (fun W => Below (w0).heap.size (w0) W) w115 := below_then hS hb (Below.size hS)
            refine hK.out _ _ hS (fun _ => ?_)
            clear hK K hb
            try simp only [Act.put, List.setIfInBounds_toArray, List.set_cons_zero, List.set_cons_succ]
            refine wpAnyH_take (i := 16) (oi := { dst := some 29, op := Op.pick (Operand.tmp 25) (Operand.const (Value.bool true)) (Operand.tmp 28), type := 4, pos := "law.go:40", after := #[{ on := 12, ground := Ground.data }, { on := 15, ground := Ground.data }], guard := none }) (v := ?_) rfl (by kernel_rfl) (by kernel_rfl) (by kernel_rfl) (fun _ _ _ h => h) (Or.inl ⟨by rfl, ?_⟩) (by assumption) ?_
            rotate_left
            · (intro wS hS; go_simp <;> with_reducible rfl)
            try simp only [Act.put, List.setIfInBounds_toArray, List.set_cons_zero, List.set_cons_succ]
            refine wpAnyH_take (i := 17) (oi := { dst := some 30, op := Op.move (Operand.tmp 29), type := 4, pos := "law.go:40", after := #[{ on := 16, ground := Ground.data }, { on := 15, ground := Ground.chain }], guard := none }) (v := ?_) rfl (by kernel_rfl) (by kernel_rfl) (by kernel_rfl) (fun _ _ _ h => h) (Or.inl ⟨by rfl, ?_⟩) (by assumption) ?_
            rotate_left
            · (intro wS hS; go_simp <;> with_reducible rfl)
            try simp only [Act.put, List.setIfInBounds_toArray, List.set_cons_zero, List.set_cons_succ]
            refine wpAnyH_take (i := 18) (oi := { dst := some 31, op := Op.load 24 (Operand.tmp 7), type := 24, pos := "law.go:40", after := #[{ on := 17, ground := Ground.guard }], guard := some (17, false) }) (v := ?_) rfl (by kernel_rfl) (by kernel_rfl) (by kernel_rfl) (fun _ _ _ h => h) (Or.inl ⟨by rfl, ?_⟩) (by assumption) ?_
            rotate_left
            · (intro wS hS; have a0 := cell_below hS a0; have a1 := cell_below hS a1; have b0 := cell_below hS b0; have b1 := cell_below hS b1; have c0 := cell_below hS c0; have c1 := cell_below hS c1; have l0 := cell_below hS l0; have l1 := cell_below hS l1; go_simp <;> with_reducible rfl)
            try simp only [Act.put, List.setIfInBounds_toArray, List.set_cons_zero, List.set_cons_succ]
            refine wpAnyH_take (i := 19) (oi := { dst := some 32, op := Op.load 24 (Operand.tmp 5), type := 24, pos := "law.go:40", after := #[{ on := 17, ground := Ground.guard }], guard := some (17, false) }) (v := ?_) rfl (by kernel_rfl) (by kernel_rfl) (by kernel_rfl) (fun _ _ _ h => h) (Or.inl ⟨by rfl, ?_⟩) (by assumption) ?_
            rotate_left
            · (intro wS hS; have a0 := cell_below hS a0; have a1 := cell_below hS a1; have b0 := cell_below hS b0; have b1 := cell_below hS b1; have c0 := cell_below hS c0; have c1 := cell_below hS c1; have l0 := cell_below hS l0; have l1 := cell_below hS l1; go_simp <;> with_reducible rfl)
            try simp only [Act.put, List.setIfInBounds_toArray, List.set_cons_zero, List.set_cons_succ]
            refine wpAnyH_ready (rs := [20]) (by kernel_rfl) (by simp) ?_
            refine AllReadyH.cons (o := { dst := some 33, op := Op.call { callee := Callee.value (Operand.func 17), args := #[Operand.tmp 31, Operand.tmp 32], argTypes := #[24, 24] }, type := 4, pos := "law.go:40", after := #[{ on := 18, ground := Ground.data }, { on := 19, ground := Ground.data }, { on := 17, ground := Ground.chain }, { on := 17, ground := Ground.guard }], guard := some (17, false) }) rfl (fun K hK => ?_) AllReadyH.nil
            go_simp
            refine (K20 _).out.mono ?_
            rintro e w120 ⟨rfl, hb⟩
            replace hS : (fun W => Below (w0).heap.size (w0) W) w120 := below_then hS hb (Below.size hS)
            refine hK.out _ _ hS (fun _ => ?_)
            clear hK K hb
            try simp only [Act.put, List.setIfInBounds_toArray, List.set_cons_zero, List.set_cons_succ]
            refine wpAnyH_take (i := 21) (oi := { dst := some 34, op := Op.pick (Operand.tmp 30) (Operand.const (Value.bool true)) (Operand.tmp 33), type := 4, pos := "law.go:40", after := #[{ on := 17, ground := Ground.data }, { on := 20, ground := Ground.data }], guard := none }) (v := ?_) rfl (by kernel_rfl) (by kernel_rfl) (by kernel_rfl) (fun _ _ _ h => h) (Or.inl ⟨by rfl, ?_⟩) (by assumption) ?_
            rotate_left
            · (intro wS hS; go_simp <;> with_reducible rfl)
            try simp only [Act.put, List.setIfInBounds_toArray, List.set_cons_zero, List.set_cons_succ]
            refine wpAnyH_take (i := 22) (oi := { dst := some 35, op := Op.move (Operand.tmp 34), type := 4, pos := "law.go:40", after := #[{ on := 21, ground := Ground.data }, { on := 20, ground := Ground.chain }], guard := none }) (v := ?_) rfl (by kernel_rfl) (by kernel_rfl) (by kernel_rfl) (fun _ _ _ h => h) (Or.inl ⟨by rfl, ?_⟩) (by assumption) ?_
            rotate_left
            · (intro wS hS; go_simp <;> with_reducible rfl)
            try simp only [Act.put, List.setIfInBounds_toArray, List.set_cons_zero, List.set_cons_succ]
            refine wpAnyH_take (i := 23) (oi := { dst := some 36, op := Op.load 24 (Operand.tmp 7), type := 24, pos := "law.go:40", after := #[{ on := 22, ground := Ground.guard }], guard := some (22, false) }) (v := ?_) rfl (by kernel_rfl) (by kernel_rfl) (by kernel_rfl) (fun _ _ _ h => h) (Or.inl ⟨by rfl, ?_⟩) (by assumption) ?_
            rotate_left
            · (intro wS hS; have a0 := cell_below hS a0; have a1 := cell_below hS a1; have b0 := cell_below hS b0; have b1 := cell_below hS b1; have c0 := cell_below hS c0; have c1 := cell_below hS c1; have l0 := cell_below hS l0; have l1 := cell_below hS l1; go_simp <;> with_reducible rfl)
            try simp only [Act.put, List.setIfInBounds_toArray, List.set_cons_zero, List.set_cons_succ]
            refine wpAnyH_take (i := 24) (oi := { dst := some 37, op := Op.load 24 (Operand.tmp 3), type := 24, pos := "law.go:40", after := #[{ on := 22, ground := Ground.guard }], guard := some (22, false) }) (v := ?_) rfl (by kernel_rfl) (by kernel_rfl) (by kernel_rfl) (fun _ _ _ h => h) (Or.inl ⟨by rfl, ?_⟩) (by assumption) ?_
            rotate_left
            · (intro wS hS; have a0 := cell_below hS a0; have a1 := cell_below hS a1; have b0 := cell_below hS b0; have b1 := cell_below hS b1; have c0 := cell_below hS c0; have c1 := cell_below hS c1; have l0 := cell_below hS l0; have l1 := cell_below hS l1; go_simp <;> with_reducible rfl)
            try simp only [Act.put, List.setIfInBounds_toArray, List.set_cons_zero, List.set_cons_succ]
            refine wpAnyH_take (i := 25) (oi := { dst := some 38, op := Op.binOp BinOp.neq 24 (Operand.tmp 36) (Operand.tmp 37) 24, type := 4, pos := "law.go:40", after := #[{ on := 23, ground := Ground.data }, { on := 24, ground := Ground.data }, { on := 22, ground := Ground.guard }], guard := some (22, false) }) (v := ?_) rfl (by kernel_rfl) (by kernel_rfl) (by kernel_rfl) (fun _ _ _ h => h) (Or.inl ⟨by rfl, ?_⟩) (by assumption) ?_
            rotate_left
            · (intro wS hS; go_simp <;> with_reducible rfl)
            try simp only [Act.put, List.setIfInBounds_toArray, List.set_cons_zero, List.set_cons_succ]
            refine wpAnyH_take (i := 26) (oi := { dst := some 39, op := Op.move (Operand.tmp 38), type := 4, pos := "law.go:40", after := #[{ on := 25, ground := Ground.data }, { on := 22, ground := Ground.chain }, { on := 22, ground := Ground.guard }], guard := some (22, false) }) (v := ?_) rfl (by kernel_rfl) (by kernel_rfl) (by kernel_rfl) (fun _ _ _ h => h) (Or.inl ⟨by rfl, ?_⟩) (by assumption) ?_
            rotate_left
            · (intro wS hS; go_simp <;> with_reducible rfl)
            try simp only [Act.put, List.setIfInBounds_toArray, List.set_cons_zero, List.set_cons_succ]
            refine wpAnyH_take (i := 27) (oi := { dst := some 40, op := Op.load 24 (Operand.tmp 7), type := 24, pos := "law.go:40", after := #[{ on := 26, ground := Ground.guard }], guard := some (26, true) }) (v := ?_) rfl (by kernel_rfl) (by kernel_rfl) (by kernel_rfl) (fun _ _ _ h => h) (Or.inl ⟨by rfl, ?_⟩) (by assumption) ?_
            rotate_left
            · (intro wS hS; have a0 := cell_below hS a0; have a1 := cell_below hS a1; have b0 := cell_below hS b0; have b1 := cell_below hS b1; have c0 := cell_below hS c0; have c1 := cell_below hS c1; have l0 := cell_below hS l0; have l1 := cell_below hS l1; go_simp <;> with_reducible rfl)
            try simp only [Act.put, List.setIfInBounds_toArray, List.set_cons_zero, List.set_cons_succ]
            refine wpAnyH_take (i := 28) (oi := { dst := some 41, op := Op.load 24 (Operand.tmp 4), type := 24, pos := "law.go:40", after := #[{ on := 26, ground := Ground.guard }], guard := some (26, true) }) (v := ?_) rfl (by kernel_rfl) (by kernel_rfl) (by kernel_rfl) (fun _ _ _ h => h) (Or.inl ⟨by rfl, ?_⟩) (by assumption) ?_
            rotate_left
            · (intro wS hS; have a0 := cell_below hS a0; have a1 := cell_below hS a1; have b0 := cell_below hS b0; have b1 := cell_below hS b1; have c0 := cell_below hS c0; have c1 := cell_below hS c1; have l0 := cell_below hS l0; have l1 := cell_below hS l1; go_simp <;> with_reducible rfl)
            try simp only [Act.put, List.setIfInBounds_toArray, List.set_cons_zero, List.set_cons_succ]
            refine wpAnyH_take (i := 29) (oi := { dst := some 42, op := Op.binOp BinOp.neq 24 (Operand.tmp 40) (Operand.tmp 41) 24, type := 4, pos := "law.go:40", after := #[{ on := 27, ground := Ground.data }, { on := 28, ground := Ground.data }, { on := 26, ground := Ground.guard }], guard := some (26, true) }) (v := ?_) rfl (by kernel_rfl) (by kernel_rfl) (by kernel_rfl) (fun _ _ _ h => h) (Or.inl ⟨by rfl, ?_⟩) (by assumption) ?_
            rotate_left
            · (intro wS hS; go_simp <;> with_reducible rfl)
            try simp only [Act.put, List.setIfInBounds_toArray, List.set_cons_zero, List.set_cons_succ]
            refine wpAnyH_take (i := 30) (oi := { dst := some 43, op := Op.pick (Operand.tmp 39) (Operand.tmp 42) (Operand.const (Value.bool false)), type := 4, pos := "law.go:40", after := #[{ on := 26, ground := Ground.data }, { on := 29, ground := Ground.data }, { on := 22, ground := Ground.guard }], guard := some (22, false) }) (v := ?_) rfl (by kernel_rfl) (by kernel_rfl) (by kernel_rfl) (fun _ _ _ h => h) (Or.inl ⟨by rfl, ?_⟩) (by assumption) ?_
            rotate_left
            · (intro wS hS; go_simp <;> with_reducible rfl)
            try simp only [Act.put, List.setIfInBounds_toArray, List.set_cons_zero, List.set_cons_succ]
            refine wpAnyH_take (i := 31) (oi := { dst := some 44, op := Op.move (Operand.tmp 43), type := 4, pos := "law.go:40", after := #[{ on := 30, ground := Ground.data }, { on := 26, ground := Ground.chain }, { on := 22, ground := Ground.guard }], guard := some (22, false) }) (v := ?_) rfl (by kernel_rfl) (by kernel_rfl) (by kernel_rfl) (fun _ _ _ h => h) (Or.inl ⟨by rfl, ?_⟩) (by assumption) ?_
            rotate_left
            · (intro wS hS; go_simp <;> with_reducible rfl)
            try simp only [Act.put, List.setIfInBounds_toArray, List.set_cons_zero, List.set_cons_succ]
            refine wpAnyH_take (i := 32) (oi := { dst := some 45, op := Op.load 24 (Operand.tmp 7), type := 24, pos := "law.go:40", after := #[{ on := 31, ground := Ground.guard }], guard := some (31, true) }) (v := ?_) rfl (by kernel_rfl) (by kernel_rfl) (by kernel_rfl) (fun _ _ _ h => h) (Or.inl ⟨by rfl, ?_⟩) (by assumption) ?_
            rotate_left
            · (intro wS hS; have a0 := cell_below hS a0; have a1 := cell_below hS a1; have b0 := cell_below hS b0; have b1 := cell_below hS b1; have c0 := cell_below hS c0; have c1 := cell_below hS c1; have l0 := cell_below hS l0; have l1 := cell_below hS l1; go_simp <;> with_reducible rfl)
            try simp only [Act.put, List.setIfInBounds_toArray, List.set_cons_zero, List.set_cons_succ]
            refine wpAnyH_take (i := 33) (oi := { dst := some 46, op := Op.load 24 (Operand.tmp 5), type := 24, pos := "law.go:40", after := #[{ on := 31, ground := Ground.guard }], guard := some (31, true) }) (v := ?_) rfl (by kernel_rfl) (by kernel_rfl) (by kernel_rfl) (fun _ _ _ h => h) (Or.inl ⟨by rfl, ?_⟩) (by assumption) ?_
            rotate_left
            · (intro wS hS; have a0 := cell_below hS a0; have a1 := cell_below hS a1; have b0 := cell_below hS b0; have b1 := cell_below hS b1; have c0 := cell_below hS c0; have c1 := cell_below hS c1; have l0 := cell_below hS l0; have l1 := cell_below hS l1; go_simp <;> with_reducible rfl)
            try simp only [Act.put, List.setIfInBounds_toArray, List.set_cons_zero, List.set_cons_succ]
            refine wpAnyH_take (i := 34) (oi := { dst := some 47, op := Op.binOp BinOp.neq 24 (Operand.tmp 45) (Operand.tmp 46) 24, type := 4, pos := "law.go:40", after := #[{ on := 32, ground := Ground.data }, { on := 33, ground := Ground.data }, { on := 31, ground := Ground.guard }], guard := some (31, true) }) (v := ?_) rfl (by kernel_rfl) (by kernel_rfl) (by kernel_rfl) (fun _ _ _ h => h) (Or.inl ⟨by rfl, ?_⟩) (by assumption) ?_
            rotate_left
            · (intro wS hS; go_simp <;> with_reducible rfl)
            try simp only [Act.put, List.setIfInBounds_toArray, List.set_cons_zero, List.set_cons_succ]
            refine wpAnyH_take (i := 35) (oi := { dst := some 48, op := Op.pick (Operand.tmp 44) (Operand.tmp 47) (Operand.const (Value.bool false)), type := 4, pos := "law.go:40", after := #[{ on := 31, ground := Ground.data }, { on := 34, ground := Ground.data }, { on := 22, ground := Ground.guard }], guard := some (22, false) }) (v := ?_) rfl (by kernel_rfl) (by kernel_rfl) (by kernel_rfl) (fun _ _ _ h => h) (Or.inl ⟨by rfl, ?_⟩) (by assumption) ?_
            rotate_left
            · (intro wS hS; go_simp <;> with_reducible rfl)
            try simp only [Act.put, List.setIfInBounds_toArray, List.set_cons_zero, List.set_cons_succ]
            refine wpAnyH_take (i := 36) (oi := { dst := some 49, op := Op.pick (Operand.tmp 35) (Operand.const (Value.bool true)) (Operand.tmp 48), type := 4, pos := "law.go:40", after := #[{ on := 22, ground := Ground.data }, { on := 35, ground := Ground.data }], guard := none }) (v := ?_) rfl (by kernel_rfl) (by kernel_rfl) (by kernel_rfl) (fun _ _ _ h => h) (Or.inl ⟨by rfl, ?_⟩) (by assumption) ?_
            rotate_left
            · (intro wS hS; go_simp <;> with_reducible rfl)
            try simp only [Act.put, List.setIfInBounds_toArray, List.set_cons_zero, List.set_cons_succ]
            refine wpAnyH_done (by kernel_rfl) ?_ _
            go_wp2_with fail
            go_meet
            exact ⟨rfl, hS⟩
          · have hC' : ((l2v : Int) == b2v) = false := by simpa using hC2
            have eC : l1v = b1v := by omega
            clear hC
            subst eC
            refine wp_region_held (S := fun W => Below (w0).heap.size (w0) W) (by kernel_rfl) ?_
            change wpAnyH _ _ _ _ _ _ _ _ (w0).drew
            have hS : (fun W => Below (w0).heap.size (w0) W) (w0).drew := (Below.refl _ _).drew
            refine wpAnyH_take (i := 0) (oi := { dst := some 13, op := Op.load 24 (Operand.tmp 3), type := 24, pos := "law.go:40", after := #[], guard := none }) (v := ?_) rfl (by kernel_rfl) (by kernel_rfl) (by kernel_rfl) (fun _ _ _ h => h) (Or.inl ⟨by rfl, ?_⟩) (by assumption) ?_
            rotate_left
            · (intro wS hS; have a0 := cell_below hS a0; have a1 := cell_below hS a1; have b0 := cell_below hS b0; have b1 := cell_below hS b1; have c0 := cell_below hS c0; have c1 := cell_below hS c1; have l0 := cell_below hS l0; have l1 := cell_below hS l1; go_simp <;> with_reducible rfl)
            try simp only [Act.put, List.setIfInBounds_toArray, List.set_cons_zero, List.set_cons_succ]
            refine wpAnyH_take (i := 1) (oi := { dst := some 14, op := Op.load 24 (Operand.tmp 4), type := 24, pos := "law.go:40", after := #[], guard := none }) (v := ?_) rfl (by kernel_rfl) (by kernel_rfl) (by kernel_rfl) (fun _ _ _ h => h) (Or.inl ⟨by rfl, ?_⟩) (by assumption) ?_
            rotate_left
            · (intro wS hS; have a0 := cell_below hS a0; have a1 := cell_below hS a1; have b0 := cell_below hS b0; have b1 := cell_below hS b1; have c0 := cell_below hS c0; have c1 := cell_below hS c1; have l0 := cell_below hS l0; have l1 := cell_below hS l1; go_simp <;> with_reducible rfl)
            try simp only [Act.put, List.setIfInBounds_toArray, List.set_cons_zero, List.set_cons_succ]
            refine wpAnyH_take (i := 3) (oi := { dst := some 16, op := Op.load 24 (Operand.tmp 3), type := 24, pos := "law.go:40", after := #[], guard := none }) (v := ?_) rfl (by kernel_rfl) (by kernel_rfl) (by kernel_rfl) (fun _ _ _ h => h) (Or.inl ⟨by rfl, ?_⟩) (by assumption) ?_
            rotate_left
            · (intro wS hS; have a0 := cell_below hS a0; have a1 := cell_below hS a1; have b0 := cell_below hS b0; have b1 := cell_below hS b1; have c0 := cell_below hS c0; have c1 := cell_below hS c1; have l0 := cell_below hS l0; have l1 := cell_below hS l1; go_simp <;> with_reducible rfl)
            try simp only [Act.put, List.setIfInBounds_toArray, List.set_cons_zero, List.set_cons_succ]
            refine wpAnyH_take (i := 4) (oi := { dst := some 17, op := Op.load 24 (Operand.tmp 4), type := 24, pos := "law.go:40", after := #[], guard := none }) (v := ?_) rfl (by kernel_rfl) (by kernel_rfl) (by kernel_rfl) (fun _ _ _ h => h) (Or.inl ⟨by rfl, ?_⟩) (by assumption) ?_
            rotate_left
            · (intro wS hS; have a0 := cell_below hS a0; have a1 := cell_below hS a1; have b0 := cell_below hS b0; have b1 := cell_below hS b1; have c0 := cell_below hS c0; have c1 := cell_below hS c1; have l0 := cell_below hS l0; have l1 := cell_below hS l1; go_simp <;> with_reducible rfl)
            try simp only [Act.put, List.setIfInBounds_toArray, List.set_cons_zero, List.set_cons_succ]
            refine wpAnyH_ready (rs := [2]) (by kernel_rfl) (by simp) ?_
            refine AllReadyH.cons (o := { dst := some 15, op := Op.call { callee := Callee.value (Operand.func 16), args := #[Operand.tmp 13, Operand.tmp 14], argTypes := #[24, 24] }, type := 4, pos := "law.go:40", after := #[{ on := 0, ground := Ground.data }, { on := 1, ground := Ground.data }], guard := none }) rfl (fun K hK => ?_) AllReadyH.nil
            go_simp
            refine (KL _).out.mono ?_
            rintro e w102 ⟨rfl, hb⟩
            replace hS : (fun W => Below (w0).heap.size (w0) W) w102 := below_then hS hb (Below.size hS)
            refine hK.out _ _ hS (fun _ => ?_)
            clear hK K hb
            try simp only [Act.put, List.setIfInBounds_toArray, List.set_cons_zero, List.set_cons_succ]
            refine wpAnyH_ready (rs := [5]) (by kernel_rfl) (by simp) ?_
            refine AllReadyH.cons (o := { dst := some 18, op := Op.call { callee := Callee.value (Operand.func 17), args := #[Operand.tmp 16, Operand.tmp 17], argTypes := #[24, 24] }, type := 4, pos := "law.go:40", after := #[{ on := 3, ground := Ground.data }, { on := 4, ground := Ground.data }, { on := 2, ground := Ground.chain }], guard := none }) rfl (fun K hK => ?_) AllReadyH.nil
            go_simp
            refine (KR _).out.mono ?_
            rintro e w105 ⟨rfl, hb⟩
            replace hS : (fun W => Below (w0).heap.size (w0) W) w105 := below_then hS hb (Below.size hS)
            refine hK.out _ _ hS (fun _ => ?_)
            clear hK K hb
            try simp only [Act.put, List.setIfInBounds_toArray, List.set_cons_zero, List.set_cons_succ]
            refine wpAnyH_take (i := 6) (oi := { dst := some 19, op := Op.binOp BinOp.neq 4 (Operand.tmp 15) (Operand.tmp 18) 4, type := 4, pos := "law.go:40", after := #[{ on := 2, ground := Ground.data }, { on := 5, ground := Ground.data }], guard := none }) (v := ?_) rfl (by kernel_rfl) (by kernel_rfl) (by kernel_rfl) (fun _ _ _ h => h) (Or.inl ⟨by rfl, ?_⟩) (by assumption) ?_
            rotate_left
            · (intro wS hS; go_simp <;> with_reducible rfl)
            try simp only [Act.put, List.setIfInBounds_toArray, List.set_cons_zero, List.set_cons_succ]
            refine wpAnyH_take (i := 7) (oi := { dst := some 20, op := Op.move (Operand.tmp 19), type := 4, pos := "law.go:40", after := #[{ on := 6, ground := Ground.data }, { on := 5, ground := Ground.chain }], guard := none }) (v := ?_) rfl (by kernel_rfl) (by kernel_rfl) (by kernel_rfl) (fun _ _ _ h => h) (Or.inl ⟨by rfl, ?_⟩) (by assumption) ?_
            rotate_left
            · (intro wS hS; go_simp <;> with_reducible rfl)
            try simp only [Act.put, List.setIfInBounds_toArray, List.set_cons_zero, List.set_cons_succ]
            refine wpAnyH_take (i := 8) (oi := { dst := some 21, op := Op.load 24 (Operand.tmp 7), type := 24, pos := "law.go:40", after := #[{ on := 7, ground := Ground.guard }], guard := some (7, false) }) (v := ?_) rfl (by kernel_rfl) (by kernel_rfl) (by kernel_rfl) (fun _ _ _ h => h) (Or.inl ⟨by rfl, ?_⟩) (by assumption) ?_
            rotate_left
            · (intro wS hS; have a0 := cell_below hS a0; have a1 := cell_below hS a1; have b0 := cell_below hS b0; have b1 := cell_below hS b1; have c0 := cell_below hS c0; have c1 := cell_below hS c1; have l0 := cell_below hS l0; have l1 := cell_below hS l1; go_simp <;> with_reducible rfl)
            try simp only [Act.put, List.setIfInBounds_toArray, List.set_cons_zero, List.set_cons_succ]
            refine wpAnyH_take (i := 9) (oi := { dst := some 22, op := Op.load 24 (Operand.tmp 3), type := 24, pos := "law.go:40", after := #[{ on := 7, ground := Ground.guard }], guard := some (7, false) }) (v := ?_) rfl (by kernel_rfl) (by kernel_rfl) (by kernel_rfl) (fun _ _ _ h => h) (Or.inl ⟨by rfl, ?_⟩) (by assumption) ?_
            rotate_left
            · (intro wS hS; have a0 := cell_below hS a0; have a1 := cell_below hS a1; have b0 := cell_below hS b0; have b1 := cell_below hS b1; have c0 := cell_below hS c0; have c1 := cell_below hS c1; have l0 := cell_below hS l0; have l1 := cell_below hS l1; go_simp <;> with_reducible rfl)
            try simp only [Act.put, List.setIfInBounds_toArray, List.set_cons_zero, List.set_cons_succ]
            refine wpAnyH_ready (rs := [10]) (by kernel_rfl) (by simp) ?_
            refine AllReadyH.cons (o := { dst := some 23, op := Op.call { callee := Callee.value (Operand.func 17), args := #[Operand.tmp 21, Operand.tmp 22], argTypes := #[24, 24] }, type := 4, pos := "law.go:40", after := #[{ on := 8, ground := Ground.data }, { on := 9, ground := Ground.data }, { on := 7, ground := Ground.chain }, { on := 7, ground := Ground.guard }], guard := some (7, false) }) rfl (fun K hK => ?_) AllReadyH.nil
            go_simp
            refine (K10 _).out.mono ?_
            rintro e w110 ⟨rfl, hb⟩
            replace hS : (fun W => Below (w0).heap.size (w0) W) w110 := below_then hS hb (Below.size hS)
            refine hK.out _ _ hS (fun _ => ?_)
            clear hK K hb
            try simp only [Act.put, List.setIfInBounds_toArray, List.set_cons_zero, List.set_cons_succ]
            refine wpAnyH_take (i := 11) (oi := { dst := some 24, op := Op.pick (Operand.tmp 20) (Operand.const (Value.bool true)) (Operand.tmp 23), type := 4, pos := "law.go:40", after := #[{ on := 7, ground := Ground.data }, { on := 10, ground := Ground.data }], guard := none }) (v := ?_) rfl (by kernel_rfl) (by kernel_rfl) (by kernel_rfl) (fun _ _ _ h => h) (Or.inl ⟨by rfl, ?_⟩) (by assumption) ?_
            rotate_left
            · (intro wS hS; go_simp <;> with_reducible rfl)
            try simp only [Act.put, List.setIfInBounds_toArray, List.set_cons_zero, List.set_cons_succ]
            refine wpAnyH_take (i := 12) (oi := { dst := some 25, op := Op.move (Operand.tmp 24), type := 4, pos := "law.go:40", after := #[{ on := 11, ground := Ground.data }, { on := 10, ground := Ground.chain }], guard := none }) (v := ?_) rfl (by kernel_rfl) (by kernel_rfl) (by kernel_rfl) (fun _ _ _ h => h) (Or.inl ⟨by rfl, ?_⟩) (by assumption) ?_
            rotate_left
            · (intro wS hS; go_simp <;> with_reducible rfl)
            try simp only [Act.put, List.setIfInBounds_toArray, List.set_cons_zero, List.set_cons_succ]
            refine wpAnyH_take (i := 13) (oi := { dst := some 26, op := Op.load 24 (Operand.tmp 7), type := 24, pos := "law.go:40", after := #[{ on := 12, ground := Ground.guard }], guard := some (12, false) }) (v := ?_) rfl (by kernel_rfl) (by kernel_rfl) (by kernel_rfl) (fun _ _ _ h => h) (Or.inl ⟨by rfl, ?_⟩) (by assumption) ?_
            rotate_left
            · (intro wS hS; have a0 := cell_below hS a0; have a1 := cell_below hS a1; have b0 := cell_below hS b0; have b1 := cell_below hS b1; have c0 := cell_below hS c0; have c1 := cell_below hS c1; have l0 := cell_below hS l0; have l1 := cell_below hS l1; go_simp <;> with_reducible rfl)
            try simp only [Act.put, List.setIfInBounds_toArray, List.set_cons_zero, List.set_cons_succ]
            refine wpAnyH_take (i := 14) (oi := { dst := some 27, op := Op.load 24 (Operand.tmp 4), type := 24, pos := "law.go:40", after := #[{ on := 12, ground := Ground.guard }], guard := some (12, false) }) (v := ?_) rfl (by kernel_rfl) (by kernel_rfl) (by kernel_rfl) (fun _ _ _ h => h) (Or.inl ⟨by rfl, ?_⟩) (by assumption) ?_
            rotate_left
            · (intro wS hS; have a0 := cell_below hS a0; have a1 := cell_below hS a1; have b0 := cell_below hS b0; have b1 := cell_below hS b1; have c0 := cell_below hS c0; have c1 := cell_below hS c1; have l0 := cell_below hS l0; have l1 := cell_below hS l1; go_simp <;> with_reducible rfl)
            try simp only [Act.put, List.setIfInBounds_toArray, List.set_cons_zero, List.set_cons_succ]
            refine wpAnyH_ready (rs := [15]) (by kernel_rfl) (by simp) ?_
            refine AllReadyH.cons (o := { dst := some 28, op := Op.call { callee := Callee.value (Operand.func 17), args := #[Operand.tmp 26, Operand.tmp 27], argTypes := #[24, 24] }, type := 4, pos := "law.go:40", after := #[{ on := 13, ground := Ground.data }, { on := 14, ground := Ground.data }, { on := 12, ground := Ground.chain }, { on := 12, ground := Ground.guard }], guard := some (12, false) }) rfl (fun K hK => ?_) AllReadyH.nil
            go_simp
            refine (K15 _).out.mono ?_
            rintro e w115 ⟨rfl, hb⟩
            replace hS : (fun W => Below (w0).heap.size (w0) W) w115 := below_then hS hb (Below.size hS)
            refine hK.out _ _ hS (fun _ => ?_)
            clear hK K hb
            try simp only [Act.put, List.setIfInBounds_toArray, List.set_cons_zero, List.set_cons_succ]
            refine wpAnyH_take (i := 16) (oi := { dst := some 29, op := Op.pick (Operand.tmp 25) (Operand.const (Value.bool true)) (Operand.tmp 28), type := 4, pos := "law.go:40", after := #[{ on := 12, ground := Ground.data }, { on := 15, ground := Ground.data }], guard := none }) (v := ?_) rfl (by kernel_rfl) (by kernel_rfl) (by kernel_rfl) (fun _ _ _ h => h) (Or.inl ⟨by rfl, ?_⟩) (by assumption) ?_
            rotate_left
            · (intro wS hS; go_simp <;> with_reducible rfl)
            try simp only [Act.put, List.setIfInBounds_toArray, List.set_cons_zero, List.set_cons_succ]
            refine wpAnyH_take (i := 17) (oi := { dst := some 30, op := Op.move (Operand.tmp 29), type := 4, pos := "law.go:40", after := #[{ on := 16, ground := Ground.data }, { on := 15, ground := Ground.chain }], guard := none }) (v := ?_) rfl (by kernel_rfl) (by kernel_rfl) (by kernel_rfl) (fun _ _ _ h => h) (Or.inl ⟨by rfl, ?_⟩) (by assumption) ?_
            rotate_left
            · (intro wS hS; go_simp <;> with_reducible rfl)
            try simp only [Act.put, List.setIfInBounds_toArray, List.set_cons_zero, List.set_cons_succ]
            refine wpAnyH_take (i := 18) (oi := { dst := some 31, op := Op.load 24 (Operand.tmp 7), type := 24, pos := "law.go:40", after := #[{ on := 17, ground := Ground.guard }], guard := some (17, false) }) (v := ?_) rfl (by kernel_rfl) (by kernel_rfl) (by kernel_rfl) (fun _ _ _ h => h) (Or.inl ⟨by rfl, ?_⟩) (by assumption) ?_
            rotate_left
            · (intro wS hS; have a0 := cell_below hS a0; have a1 := cell_below hS a1; have b0 := cell_below hS b0; have b1 := cell_below hS b1; have c0 := cell_below hS c0; have c1 := cell_below hS c1; have l0 := cell_below hS l0; have l1 := cell_below hS l1; go_simp <;> with_reducible rfl)
            try simp only [Act.put, List.setIfInBounds_toArray, List.set_cons_zero, List.set_cons_succ]
            refine wpAnyH_take (i := 19) (oi := { dst := some 32, op := Op.load 24 (Operand.tmp 5), type := 24, pos := "law.go:40", after := #[{ on := 17, ground := Ground.guard }], guard := some (17, false) }) (v := ?_) rfl (by kernel_rfl) (by kernel_rfl) (by kernel_rfl) (fun _ _ _ h => h) (Or.inl ⟨by rfl, ?_⟩) (by assumption) ?_
            rotate_left
            · (intro wS hS; have a0 := cell_below hS a0; have a1 := cell_below hS a1; have b0 := cell_below hS b0; have b1 := cell_below hS b1; have c0 := cell_below hS c0; have c1 := cell_below hS c1; have l0 := cell_below hS l0; have l1 := cell_below hS l1; go_simp <;> with_reducible rfl)
            try simp only [Act.put, List.setIfInBounds_toArray, List.set_cons_zero, List.set_cons_succ]
            refine wpAnyH_ready (rs := [20]) (by kernel_rfl) (by simp) ?_
            refine AllReadyH.cons (o := { dst := some 33, op := Op.call { callee := Callee.value (Operand.func 17), args := #[Operand.tmp 31, Operand.tmp 32], argTypes := #[24, 24] }, type := 4, pos := "law.go:40", after := #[{ on := 18, ground := Ground.data }, { on := 19, ground := Ground.data }, { on := 17, ground := Ground.chain }, { on := 17, ground := Ground.guard }], guard := some (17, false) }) rfl (fun K hK => ?_) AllReadyH.nil
            go_simp
            refine (K20 _).out.mono ?_
            rintro e w120 ⟨rfl, hb⟩
            replace hS : (fun W => Below (w0).heap.size (w0) W) w120 := below_then hS hb (Below.size hS)
            refine hK.out _ _ hS (fun _ => ?_)
            clear hK K hb
            try simp only [Act.put, List.setIfInBounds_toArray, List.set_cons_zero, List.set_cons_succ]
            refine wpAnyH_take (i := 21) (oi := { dst := some 34, op := Op.pick (Operand.tmp 30) (Operand.const (Value.bool true)) (Operand.tmp 33), type := 4, pos := "law.go:40", after := #[{ on := 17, ground := Ground.data }, { on := 20, ground := Ground.data }], guard := none }) (v := ?_) rfl (by kernel_rfl) (by kernel_rfl) (by kernel_rfl) (fun _ _ _ h => h) (Or.inl ⟨by rfl, ?_⟩) (by assumption) ?_
            rotate_left
            · (intro wS hS; go_simp <;> with_reducible rfl)
            try simp only [Act.put, List.setIfInBounds_toArray, List.set_cons_zero, List.set_cons_succ]
            refine wpAnyH_take (i := 22) (oi := { dst := some 35, op := Op.move (Operand.tmp 34), type := 4, pos := "law.go:40", after := #[{ on := 21, ground := Ground.data }, { on := 20, ground := Ground.chain }], guard := none }) (v := ?_) rfl (by kernel_rfl) (by kernel_rfl) (by kernel_rfl) (fun _ _ _ h => h) (Or.inl ⟨by rfl, ?_⟩) (by assumption) ?_
            rotate_left
            · (intro wS hS; go_simp <;> with_reducible rfl)
            try simp only [Act.put, List.setIfInBounds_toArray, List.set_cons_zero, List.set_cons_succ]
            refine wpAnyH_take (i := 23) (oi := { dst := some 36, op := Op.load 24 (Operand.tmp 7), type := 24, pos := "law.go:40", after := #[{ on := 22, ground := Ground.guard }], guard := some (22, false) }) (v := ?_) rfl (by kernel_rfl) (by kernel_rfl) (by kernel_rfl) (fun _ _ _ h => h) (Or.inl ⟨by rfl, ?_⟩) (by assumption) ?_
            rotate_left
            · (intro wS hS; have a0 := cell_below hS a0; have a1 := cell_below hS a1; have b0 := cell_below hS b0; have b1 := cell_below hS b1; have c0 := cell_below hS c0; have c1 := cell_below hS c1; have l0 := cell_below hS l0; have l1 := cell_below hS l1; go_simp <;> with_reducible rfl)
            try simp only [Act.put, List.setIfInBounds_toArray, List.set_cons_zero, List.set_cons_succ]
            refine wpAnyH_take (i := 24) (oi := { dst := some 37, op := Op.load 24 (Operand.tmp 3), type := 24, pos := "law.go:40", after := #[{ on := 22, ground := Ground.guard }], guard := some (22, false) }) (v := ?_) rfl (by kernel_rfl) (by kernel_rfl) (by kernel_rfl) (fun _ _ _ h => h) (Or.inl ⟨by rfl, ?_⟩) (by assumption) ?_
            rotate_left
            · (intro wS hS; have a0 := cell_below hS a0; have a1 := cell_below hS a1; have b0 := cell_below hS b0; have b1 := cell_below hS b1; have c0 := cell_below hS c0; have c1 := cell_below hS c1; have l0 := cell_below hS l0; have l1 := cell_below hS l1; go_simp <;> with_reducible rfl)
            try simp only [Act.put, List.setIfInBounds_toArray, List.set_cons_zero, List.set_cons_succ]
            refine wpAnyH_take (i := 25) (oi := { dst := some 38, op := Op.binOp BinOp.neq 24 (Operand.tmp 36) (Operand.tmp 37) 24, type := 4, pos := "law.go:40", after := #[{ on := 23, ground := Ground.data }, { on := 24, ground := Ground.data }, { on := 22, ground := Ground.guard }], guard := some (22, false) }) (v := ?_) rfl (by kernel_rfl) (by kernel_rfl) (by kernel_rfl) (fun _ _ _ h => h) (Or.inl ⟨by rfl, ?_⟩) (by assumption) ?_
            rotate_left
            · (intro wS hS; go_simp <;> with_reducible rfl)
            try simp only [Act.put, List.setIfInBounds_toArray, List.set_cons_zero, List.set_cons_succ]
            refine wpAnyH_take (i := 26) (oi := { dst := some 39, op := Op.move (Operand.tmp 38), type := 4, pos := "law.go:40", after := #[{ on := 25, ground := Ground.data }, { on := 22, ground := Ground.chain }, { on := 22, ground := Ground.guard }], guard := some (22, false) }) (v := ?_) rfl (by kernel_rfl) (by kernel_rfl) (by kernel_rfl) (fun _ _ _ h => h) (Or.inl ⟨by rfl, ?_⟩) (by assumption) ?_
            rotate_left
            · (intro wS hS; go_simp <;> with_reducible rfl)
            try simp only [Act.put, List.setIfInBounds_toArray, List.set_cons_zero, List.set_cons_succ]
            refine wpAnyH_take (i := 27) (oi := { dst := some 40, op := Op.load 24 (Operand.tmp 7), type := 24, pos := "law.go:40", after := #[{ on := 26, ground := Ground.guard }], guard := some (26, true) }) (v := ?_) rfl (by kernel_rfl) (by kernel_rfl) (by kernel_rfl) (fun _ _ _ h => h) (Or.inl ⟨by rfl, ?_⟩) (by assumption) ?_
            rotate_left
            · (intro wS hS; have a0 := cell_below hS a0; have a1 := cell_below hS a1; have b0 := cell_below hS b0; have b1 := cell_below hS b1; have c0 := cell_below hS c0; have c1 := cell_below hS c1; have l0 := cell_below hS l0; have l1 := cell_below hS l1; go_simp <;> with_reducible rfl)
            try simp only [Act.put, List.setIfInBounds_toArray, List.set_cons_zero, List.set_cons_succ]
            refine wpAnyH_take (i := 28) (oi := { dst := some 41, op := Op.load 24 (Operand.tmp 4), type := 24, pos := "law.go:40", after := #[{ on := 26, ground := Ground.guard }], guard := some (26, true) }) (v := ?_) rfl (by kernel_rfl) (by kernel_rfl) (by kernel_rfl) (fun _ _ _ h => h) (Or.inl ⟨by rfl, ?_⟩) (by assumption) ?_
            rotate_left
            · (intro wS hS; have a0 := cell_below hS a0; have a1 := cell_below hS a1; have b0 := cell_below hS b0; have b1 := cell_below hS b1; have c0 := cell_below hS c0; have c1 := cell_below hS c1; have l0 := cell_below hS l0; have l1 := cell_below hS l1; go_simp <;> with_reducible rfl)
            try simp only [Act.put, List.setIfInBounds_toArray, List.set_cons_zero, List.set_cons_succ]
            refine wpAnyH_take (i := 29) (oi := { dst := some 42, op := Op.binOp BinOp.neq 24 (Operand.tmp 40) (Operand.tmp 41) 24, type := 4, pos := "law.go:40", after := #[{ on := 27, ground := Ground.data }, { on := 28, ground := Ground.data }, { on := 26, ground := Ground.guard }], guard := some (26, true) }) (v := ?_) rfl (by kernel_rfl) (by kernel_rfl) (by kernel_rfl) (fun _ _ _ h => h) (Or.inl ⟨by rfl, ?_⟩) (by assumption) ?_
            rotate_left
            · (intro wS hS; go_simp <;> with_reducible rfl)
            try simp only [Act.put, List.setIfInBounds_toArray, List.set_cons_zero, List.set_cons_succ]
            refine wpAnyH_take (i := 30) (oi := { dst := some 43, op := Op.pick (Operand.tmp 39) (Operand.tmp 42) (Operand.const (Value.bool false)), type := 4, pos := "law.go:40", after := #[{ on := 26, ground := Ground.data }, { on := 29, ground := Ground.data }, { on := 22, ground := Ground.guard }], guard := some (22, false) }) (v := ?_) rfl (by kernel_rfl) (by kernel_rfl) (by kernel_rfl) (fun _ _ _ h => h) (Or.inl ⟨by rfl, ?_⟩) (by assumption) ?_
            rotate_left
            · (intro wS hS; go_simp <;> with_reducible rfl)
            try simp only [Act.put, List.setIfInBounds_toArray, List.set_cons_zero, List.set_cons_succ]
            refine wpAnyH_take (i := 31) (oi := { dst := some 44, op := Op.move (Operand.tmp 43), type := 4, pos := "law.go:40", after := #[{ on := 30, ground := Ground.data }, { on := 26, ground := Ground.chain }, { on := 22, ground := Ground.guard }], guard := some (22, false) }) (v := ?_) rfl (by kernel_rfl) (by kernel_rfl) (by kernel_rfl) (fun _ _ _ h => h) (Or.inl ⟨by rfl, ?_⟩) (by assumption) ?_
            rotate_left
            · (intro wS hS; go_simp <;> with_reducible rfl)
            try simp only [Act.put, List.setIfInBounds_toArray, List.set_cons_zero, List.set_cons_succ]
            refine wpAnyH_take (i := 32) (oi := { dst := some 45, op := Op.load 24 (Operand.tmp 7), type := 24, pos := "law.go:40", after := #[{ on := 31, ground := Ground.guard }], guard := some (31, true) }) (v := ?_) rfl (by kernel_rfl) (by kernel_rfl) (by kernel_rfl) (fun _ _ _ h => h) (Or.inl ⟨by rfl, ?_⟩) (by assumption) ?_
            rotate_left
            · (intro wS hS; have a0 := cell_below hS a0; have a1 := cell_below hS a1; have b0 := cell_below hS b0; have b1 := cell_below hS b1; have c0 := cell_below hS c0; have c1 := cell_below hS c1; have l0 := cell_below hS l0; have l1 := cell_below hS l1; go_simp <;> with_reducible rfl)
            try simp only [Act.put, List.setIfInBounds_toArray, List.set_cons_zero, List.set_cons_succ]
            refine wpAnyH_take (i := 33) (oi := { dst := some 46, op := Op.load 24 (Operand.tmp 5), type := 24, pos := "law.go:40", after := #[{ on := 31, ground := Ground.guard }], guard := some (31, true) }) (v := ?_) rfl (by kernel_rfl) (by kernel_rfl) (by kernel_rfl) (fun _ _ _ h => h) (Or.inl ⟨by rfl, ?_⟩) (by assumption) ?_
            rotate_left
            · (intro wS hS; have a0 := cell_below hS a0; have a1 := cell_below hS a1; have b0 := cell_below hS b0; have b1 := cell_below hS b1; have c0 := cell_below hS c0; have c1 := cell_below hS c1; have l0 := cell_below hS l0; have l1 := cell_below hS l1; go_simp <;> with_reducible rfl)
            try simp only [Act.put, List.setIfInBounds_toArray, List.set_cons_zero, List.set_cons_succ]
            refine wpAnyH_take (i := 34) (oi := { dst := some 47, op := Op.binOp BinOp.neq 24 (Operand.tmp 45) (Operand.tmp 46) 24, type := 4, pos := "law.go:40", after := #[{ on := 32, ground := Ground.data }, { on := 33, ground := Ground.data }, { on := 31, ground := Ground.guard }], guard := some (31, true) }) (v := ?_) rfl (by kernel_rfl) (by kernel_rfl) (by kernel_rfl) (fun _ _ _ h => h) (Or.inl ⟨by rfl, ?_⟩) (by assumption) ?_
            rotate_left
            · (intro wS hS; go_simp <;> with_reducible rfl)
            try simp only [Act.put, List.setIfInBounds_toArray, List.set_cons_zero, List.set_cons_succ]
            refine wpAnyH_take (i := 35) (oi := { dst := some 48, op := Op.pick (Operand.tmp 44) (Operand.tmp 47) (Operand.const (Value.bool false)), type := 4, pos := "law.go:40", after := #[{ on := 31, ground := Ground.data }, { on := 34, ground := Ground.data }, { on := 22, ground := Ground.guard }], guard := some (22, false) }) (v := ?_) rfl (by kernel_rfl) (by kernel_rfl) (by kernel_rfl) (fun _ _ _ h => h) (Or.inl ⟨by rfl, ?_⟩) (by assumption) ?_
            rotate_left
            · (intro wS hS; go_simp <;> with_reducible rfl)
            try simp only [Act.put, List.setIfInBounds_toArray, List.set_cons_zero, List.set_cons_succ]
            refine wpAnyH_take (i := 36) (oi := { dst := some 49, op := Op.pick (Operand.tmp 35) (Operand.const (Value.bool true)) (Operand.tmp 48), type := 4, pos := "law.go:40", after := #[{ on := 22, ground := Ground.data }, { on := 35, ground := Ground.data }], guard := none }) (v := ?_) rfl (by kernel_rfl) (by kernel_rfl) (by kernel_rfl) (fun _ _ _ h => h) (Or.inl ⟨by rfl, ?_⟩) (by assumption) ?_
            rotate_left
            · (intro wS hS; go_simp <;> with_reducible rfl)
            try simp only [Act.put, List.setIfInBounds_toArray, List.set_cons_zero, List.set_cons_succ]
            refine wpAnyH_done (by kernel_rfl) ?_ _
            go_wp2_with fail
            go_meet
            exact ⟨rfl, hS⟩
        · have hA' : ((l2v : Int) == a2v) = false := by simpa using hA2
          have eA : l1v = a1v := by omega
          clear hA
          rcases hBn with hC | ⟨hC, hC2⟩
          · have hC' : ((l1v : Int) == b1v) = false := by simpa using hC
            subst eA
            refine wp_region_held (S := fun W => Below (w0).heap.size (w0) W) (by kernel_rfl) ?_
            change wpAnyH _ _ _ _ _ _ _ _ (w0).drew
            have hS : (fun W => Below (w0).heap.size (w0) W) (w0).drew := (Below.refl _ _).drew
            refine wpAnyH_take (i := 0) (oi := { dst := some 13, op := Op.load 24 (Operand.tmp 3), type := 24, pos := "law.go:40", after := #[], guard := none }) (v := ?_) rfl (by kernel_rfl) (by kernel_rfl) (by kernel_rfl) (fun _ _ _ h => h) (Or.inl ⟨by rfl, ?_⟩) (by assumption) ?_
            rotate_left
            · (intro wS hS; have a0 := cell_below hS a0; have a1 := cell_below hS a1; have b0 := cell_below hS b0; have b1 := cell_below hS b1; have c0 := cell_below hS c0; have c1 := cell_below hS c1; have l0 := cell_below hS l0; have l1 := cell_below hS l1; go_simp <;> with_reducible rfl)
            try simp only [Act.put, List.setIfInBounds_toArray, List.set_cons_zero, List.set_cons_succ]
            refine wpAnyH_take (i := 1) (oi := { dst := some 14, op := Op.load 24 (Operand.tmp 4), type := 24, pos := "law.go:40", after := #[], guard := none }) (v := ?_) rfl (by kernel_rfl) (by kernel_rfl) (by kernel_rfl) (fun _ _ _ h => h) (Or.inl ⟨by rfl, ?_⟩) (by assumption) ?_
            rotate_left
            · (intro wS hS; have a0 := cell_below hS a0; have a1 := cell_below hS a1; have b0 := cell_below hS b0; have b1 := cell_below hS b1; have c0 := cell_below hS c0; have c1 := cell_below hS c1; have l0 := cell_below hS l0; have l1 := cell_below hS l1; go_simp <;> with_reducible rfl)
            try simp only [Act.put, List.setIfInBounds_toArray, List.set_cons_zero, List.set_cons_succ]
            refine wpAnyH_take (i := 3) (oi := { dst := some 16, op := Op.load 24 (Operand.tmp 3), type := 24, pos := "law.go:40", after := #[], guard := none }) (v := ?_) rfl (by kernel_rfl) (by kernel_rfl) (by kernel_rfl) (fun _ _ _ h => h) (Or.inl ⟨by rfl, ?_⟩) (by assumption) ?_
            rotate_left
            · (intro wS hS; have a0 := cell_below hS a0; have a1 := cell_below hS a1; have b0 := cell_below hS b0; have b1 := cell_below hS b1; have c0 := cell_below hS c0; have c1 := cell_below hS c1; have l0 := cell_below hS l0; have l1 := cell_below hS l1; go_simp <;> with_reducible rfl)
            try simp only [Act.put, List.setIfInBounds_toArray, List.set_cons_zero, List.set_cons_succ]
            refine wpAnyH_take (i := 4) (oi := { dst := some 17, op := Op.load 24 (Operand.tmp 4), type := 24, pos := "law.go:40", after := #[], guard := none }) (v := ?_) rfl (by kernel_rfl) (by kernel_rfl) (by kernel_rfl) (fun _ _ _ h => h) (Or.inl ⟨by rfl, ?_⟩) (by assumption) ?_
            rotate_left
            · (intro wS hS; have a0 := cell_below hS a0; have a1 := cell_below hS a1; have b0 := cell_below hS b0; have b1 := cell_below hS b1; have c0 := cell_below hS c0; have c1 := cell_below hS c1; have l0 := cell_below hS l0; have l1 := cell_below hS l1; go_simp <;> with_reducible rfl)
            try simp only [Act.put, List.setIfInBounds_toArray, List.set_cons_zero, List.set_cons_succ]
            refine wpAnyH_ready (rs := [2]) (by kernel_rfl) (by simp) ?_
            refine AllReadyH.cons (o := { dst := some 15, op := Op.call { callee := Callee.value (Operand.func 16), args := #[Operand.tmp 13, Operand.tmp 14], argTypes := #[24, 24] }, type := 4, pos := "law.go:40", after := #[{ on := 0, ground := Ground.data }, { on := 1, ground := Ground.data }], guard := none }) rfl (fun K hK => ?_) AllReadyH.nil
            go_simp
            refine (KL _).out.mono ?_
            rintro e w102 ⟨rfl, hb⟩
            replace hS : (fun W => Below (w0).heap.size (w0) W) w102 := below_then hS hb (Below.size hS)
            refine hK.out _ _ hS (fun _ => ?_)
            clear hK K hb
            try simp only [Act.put, List.setIfInBounds_toArray, List.set_cons_zero, List.set_cons_succ]
            refine wpAnyH_ready (rs := [5]) (by kernel_rfl) (by simp) ?_
            refine AllReadyH.cons (o := { dst := some 18, op := Op.call { callee := Callee.value (Operand.func 17), args := #[Operand.tmp 16, Operand.tmp 17], argTypes := #[24, 24] }, type := 4, pos := "law.go:40", after := #[{ on := 3, ground := Ground.data }, { on := 4, ground := Ground.data }, { on := 2, ground := Ground.chain }], guard := none }) rfl (fun K hK => ?_) AllReadyH.nil
            go_simp
            refine (KR _).out.mono ?_
            rintro e w105 ⟨rfl, hb⟩
            replace hS : (fun W => Below (w0).heap.size (w0) W) w105 := below_then hS hb (Below.size hS)
            refine hK.out _ _ hS (fun _ => ?_)
            clear hK K hb
            try simp only [Act.put, List.setIfInBounds_toArray, List.set_cons_zero, List.set_cons_succ]
            refine wpAnyH_take (i := 6) (oi := { dst := some 19, op := Op.binOp BinOp.neq 4 (Operand.tmp 15) (Operand.tmp 18) 4, type := 4, pos := "law.go:40", after := #[{ on := 2, ground := Ground.data }, { on := 5, ground := Ground.data }], guard := none }) (v := ?_) rfl (by kernel_rfl) (by kernel_rfl) (by kernel_rfl) (fun _ _ _ h => h) (Or.inl ⟨by rfl, ?_⟩) (by assumption) ?_
            rotate_left
            · (intro wS hS; go_simp <;> with_reducible rfl)
            try simp only [Act.put, List.setIfInBounds_toArray, List.set_cons_zero, List.set_cons_succ]
            refine wpAnyH_take (i := 7) (oi := { dst := some 20, op := Op.move (Operand.tmp 19), type := 4, pos := "law.go:40", after := #[{ on := 6, ground := Ground.data }, { on := 5, ground := Ground.chain }], guard := none }) (v := ?_) rfl (by kernel_rfl) (by kernel_rfl) (by kernel_rfl) (fun _ _ _ h => h) (Or.inl ⟨by rfl, ?_⟩) (by assumption) ?_
            rotate_left
            · (intro wS hS; go_simp <;> with_reducible rfl)
            try simp only [Act.put, List.setIfInBounds_toArray, List.set_cons_zero, List.set_cons_succ]
            refine wpAnyH_take (i := 8) (oi := { dst := some 21, op := Op.load 24 (Operand.tmp 7), type := 24, pos := "law.go:40", after := #[{ on := 7, ground := Ground.guard }], guard := some (7, false) }) (v := ?_) rfl (by kernel_rfl) (by kernel_rfl) (by kernel_rfl) (fun _ _ _ h => h) (Or.inl ⟨by rfl, ?_⟩) (by assumption) ?_
            rotate_left
            · (intro wS hS; have a0 := cell_below hS a0; have a1 := cell_below hS a1; have b0 := cell_below hS b0; have b1 := cell_below hS b1; have c0 := cell_below hS c0; have c1 := cell_below hS c1; have l0 := cell_below hS l0; have l1 := cell_below hS l1; go_simp <;> with_reducible rfl)
            try simp only [Act.put, List.setIfInBounds_toArray, List.set_cons_zero, List.set_cons_succ]
            refine wpAnyH_take (i := 9) (oi := { dst := some 22, op := Op.load 24 (Operand.tmp 3), type := 24, pos := "law.go:40", after := #[{ on := 7, ground := Ground.guard }], guard := some (7, false) }) (v := ?_) rfl (by kernel_rfl) (by kernel_rfl) (by kernel_rfl) (fun _ _ _ h => h) (Or.inl ⟨by rfl, ?_⟩) (by assumption) ?_
            rotate_left
            · (intro wS hS; have a0 := cell_below hS a0; have a1 := cell_below hS a1; have b0 := cell_below hS b0; have b1 := cell_below hS b1; have c0 := cell_below hS c0; have c1 := cell_below hS c1; have l0 := cell_below hS l0; have l1 := cell_below hS l1; go_simp <;> with_reducible rfl)
            try simp only [Act.put, List.setIfInBounds_toArray, List.set_cons_zero, List.set_cons_succ]
            refine wpAnyH_ready (rs := [10]) (by kernel_rfl) (by simp) ?_
            refine AllReadyH.cons (o := { dst := some 23, op := Op.call { callee := Callee.value (Operand.func 17), args := #[Operand.tmp 21, Operand.tmp 22], argTypes := #[24, 24] }, type := 4, pos := "law.go:40", after := #[{ on := 8, ground := Ground.data }, { on := 9, ground := Ground.data }, { on := 7, ground := Ground.chain }, { on := 7, ground := Ground.guard }], guard := some (7, false) }) rfl (fun K hK => ?_) AllReadyH.nil
            go_simp
            refine (K10 _).out.mono ?_
            rintro e w110 ⟨rfl, hb⟩
            replace hS : (fun W => Below (w0).heap.size (w0) W) w110 := below_then hS hb (Below.size hS)
            refine hK.out _ _ hS (fun _ => ?_)
            clear hK K hb
            try simp only [Act.put, List.setIfInBounds_toArray, List.set_cons_zero, List.set_cons_succ]
            refine wpAnyH_take (i := 11) (oi := { dst := some 24, op := Op.pick (Operand.tmp 20) (Operand.const (Value.bool true)) (Operand.tmp 23), type := 4, pos := "law.go:40", after := #[{ on := 7, ground := Ground.data }, { on := 10, ground := Ground.data }], guard := none }) (v := ?_) rfl (by kernel_rfl) (by kernel_rfl) (by kernel_rfl) (fun _ _ _ h => h) (Or.inl ⟨by rfl, ?_⟩) (by assumption) ?_
            rotate_left
            · (intro wS hS; go_simp <;> with_reducible rfl)
            try simp only [Act.put, List.setIfInBounds_toArray, List.set_cons_zero, List.set_cons_succ]
            refine wpAnyH_take (i := 12) (oi := { dst := some 25, op := Op.move (Operand.tmp 24), type := 4, pos := "law.go:40", after := #[{ on := 11, ground := Ground.data }, { on := 10, ground := Ground.chain }], guard := none }) (v := ?_) rfl (by kernel_rfl) (by kernel_rfl) (by kernel_rfl) (fun _ _ _ h => h) (Or.inl ⟨by rfl, ?_⟩) (by assumption) ?_
            rotate_left
            · (intro wS hS; go_simp <;> with_reducible rfl)
            try simp only [Act.put, List.setIfInBounds_toArray, List.set_cons_zero, List.set_cons_succ]
            refine wpAnyH_take (i := 13) (oi := { dst := some 26, op := Op.load 24 (Operand.tmp 7), type := 24, pos := "law.go:40", after := #[{ on := 12, ground := Ground.guard }], guard := some (12, false) }) (v := ?_) rfl (by kernel_rfl) (by kernel_rfl) (by kernel_rfl) (fun _ _ _ h => h) (Or.inl ⟨by rfl, ?_⟩) (by assumption) ?_
            rotate_left
            · (intro wS hS; have a0 := cell_below hS a0; have a1 := cell_below hS a1; have b0 := cell_below hS b0; have b1 := cell_below hS b1; have c0 := cell_below hS c0; have c1 := cell_below hS c1; have l0 := cell_below hS l0; have l1 := cell_below hS l1; go_simp <;> with_reducible rfl)
            try simp only [Act.put, List.setIfInBounds_toArray, List.set_cons_zero, List.set_cons_succ]
            refine wpAnyH_take (i := 14) (oi := { dst := some 27, op := Op.load 24 (Operand.tmp 4), type := 24, pos := "law.go:40", after := #[{ on := 12, ground := Ground.guard }], guard := some (12, false) }) (v := ?_) rfl (by kernel_rfl) (by kernel_rfl) (by kernel_rfl) (fun _ _ _ h => h) (Or.inl ⟨by rfl, ?_⟩) (by assumption) ?_
            rotate_left
            · (intro wS hS; have a0 := cell_below hS a0; have a1 := cell_below hS a1; have b0 := cell_below hS b0; have b1 := cell_below hS b1; have c0 := cell_below hS c0; have c1 := cell_below hS c1; have l0 := cell_below hS l0; have l1 := cell_below hS l1; go_simp <;> with_reducible rfl)
            try simp only [Act.put, List.setIfInBounds_toArray, List.set_cons_zero, List.set_cons_succ]
            refine wpAnyH_ready (rs := [15]) (by kernel_rfl) (by simp) ?_
            refine AllReadyH.cons (o := { dst := some 28, op := Op.call { callee := Callee.value (Operand.func 17), args := #[Operand.tmp 26, Operand.tmp 27], argTypes := #[24, 24] }, type := 4, pos := "law.go:40", after := #[{ on := 13, ground := Ground.data }, { on := 14, ground := Ground.data }, { on := 12, ground := Ground.chain }, { on := 12, ground := Ground.guard }], guard := some (12, false) }) rfl (fun K hK => ?_) AllReadyH.nil
            go_simp
            refine (K15 _).out.mono ?_
            rintro e w115 ⟨rfl, hb⟩
            replace hS : (fun W => Below (w0).heap.size (w0) W) w115 := below_then hS hb (Below.size hS)
            refine hK.out _ _ hS (fun _ => ?_)
            clear hK K hb
            try simp only [Act.put, List.setIfInBounds_toArray, List.set_cons_zero, List.set_cons_succ]
            refine wpAnyH_take (i := 16) (oi := { dst := some 29, op := Op.pick (Operand.tmp 25) (Operand.const (Value.bool true)) (Operand.tmp 28), type := 4, pos := "law.go:40", after := #[{ on := 12, ground := Ground.data }, { on := 15, ground := Ground.data }], guard := none }) (v := ?_) rfl (by kernel_rfl) (by kernel_rfl) (by kernel_rfl) (fun _ _ _ h => h) (Or.inl ⟨by rfl, ?_⟩) (by assumption) ?_
            rotate_left
            · (intro wS hS; go_simp <;> with_reducible rfl)
            try simp only [Act.put, List.setIfInBounds_toArray, List.set_cons_zero, List.set_cons_succ]
            refine wpAnyH_take (i := 17) (oi := { dst := some 30, op := Op.move (Operand.tmp 29), type := 4, pos := "law.go:40", after := #[{ on := 16, ground := Ground.data }, { on := 15, ground := Ground.chain }], guard := none }) (v := ?_) rfl (by kernel_rfl) (by kernel_rfl) (by kernel_rfl) (fun _ _ _ h => h) (Or.inl ⟨by rfl, ?_⟩) (by assumption) ?_
            rotate_left
            · (intro wS hS; go_simp <;> with_reducible rfl)
            try simp only [Act.put, List.setIfInBounds_toArray, List.set_cons_zero, List.set_cons_succ]
            refine wpAnyH_take (i := 18) (oi := { dst := some 31, op := Op.load 24 (Operand.tmp 7), type := 24, pos := "law.go:40", after := #[{ on := 17, ground := Ground.guard }], guard := some (17, false) }) (v := ?_) rfl (by kernel_rfl) (by kernel_rfl) (by kernel_rfl) (fun _ _ _ h => h) (Or.inl ⟨by rfl, ?_⟩) (by assumption) ?_
            rotate_left
            · (intro wS hS; have a0 := cell_below hS a0; have a1 := cell_below hS a1; have b0 := cell_below hS b0; have b1 := cell_below hS b1; have c0 := cell_below hS c0; have c1 := cell_below hS c1; have l0 := cell_below hS l0; have l1 := cell_below hS l1; go_simp <;> with_reducible rfl)
            try simp only [Act.put, List.setIfInBounds_toArray, List.set_cons_zero, List.set_cons_succ]
            refine wpAnyH_take (i := 19) (oi := { dst := some 32, op := Op.load 24 (Operand.tmp 5), type := 24, pos := "law.go:40", after := #[{ on := 17, ground := Ground.guard }], guard := some (17, false) }) (v := ?_) rfl (by kernel_rfl) (by kernel_rfl) (by kernel_rfl) (fun _ _ _ h => h) (Or.inl ⟨by rfl, ?_⟩) (by assumption) ?_
            rotate_left
            · (intro wS hS; have a0 := cell_below hS a0; have a1 := cell_below hS a1; have b0 := cell_below hS b0; have b1 := cell_below hS b1; have c0 := cell_below hS c0; have c1 := cell_below hS c1; have l0 := cell_below hS l0; have l1 := cell_below hS l1; go_simp <;> with_reducible rfl)
            try simp only [Act.put, List.setIfInBounds_toArray, List.set_cons_zero, List.set_cons_succ]
            refine wpAnyH_ready (rs := [20]) (by kernel_rfl) (by simp) ?_
            refine AllReadyH.cons (o := { dst := some 33, op := Op.call { callee := Callee.value (Operand.func 17), args := #[Operand.tmp 31, Operand.tmp 32], argTypes := #[24, 24] }, type := 4, pos := "law.go:40", after := #[{ on := 18, ground := Ground.data }, { on := 19, ground := Ground.data }, { on := 17, ground := Ground.chain }, { on := 17, ground := Ground.guard }], guard := some (17, false) }) rfl (fun K hK => ?_) AllReadyH.nil
            go_simp
            refine (K20 _).out.mono ?_
            rintro e w120 ⟨rfl, hb⟩
            replace hS : (fun W => Below (w0).heap.size (w0) W) w120 := below_then hS hb (Below.size hS)
            refine hK.out _ _ hS (fun _ => ?_)
            clear hK K hb
            try simp only [Act.put, List.setIfInBounds_toArray, List.set_cons_zero, List.set_cons_succ]
            refine wpAnyH_take (i := 21) (oi := { dst := some 34, op := Op.pick (Operand.tmp 30) (Operand.const (Value.bool true)) (Operand.tmp 33), type := 4, pos := "law.go:40", after := #[{ on := 17, ground := Ground.data }, { on := 20, ground := Ground.data }], guard := none }) (v := ?_) rfl (by kernel_rfl) (by kernel_rfl) (by kernel_rfl) (fun _ _ _ h => h) (Or.inl ⟨by rfl, ?_⟩) (by assumption) ?_
            rotate_left
            · (intro wS hS; go_simp <;> with_reducible rfl)
            try simp only [Act.put, List.setIfInBounds_toArray, List.set_cons_zero, List.set_cons_succ]
            refine wpAnyH_take (i := 22) (oi := { dst := some 35, op := Op.move (Operand.tmp 34), type := 4, pos := "law.go:40", after := #[{ on := 21, ground := Ground.data }, { on := 20, ground := Ground.chain }], guard := none }) (v := ?_) rfl (by kernel_rfl) (by kernel_rfl) (by kernel_rfl) (fun _ _ _ h => h) (Or.inl ⟨by rfl, ?_⟩) (by assumption) ?_
            rotate_left
            · (intro wS hS; go_simp <;> with_reducible rfl)
            try simp only [Act.put, List.setIfInBounds_toArray, List.set_cons_zero, List.set_cons_succ]
            refine wpAnyH_take (i := 23) (oi := { dst := some 36, op := Op.load 24 (Operand.tmp 7), type := 24, pos := "law.go:40", after := #[{ on := 22, ground := Ground.guard }], guard := some (22, false) }) (v := ?_) rfl (by kernel_rfl) (by kernel_rfl) (by kernel_rfl) (fun _ _ _ h => h) (Or.inl ⟨by rfl, ?_⟩) (by assumption) ?_
            rotate_left
            · (intro wS hS; have a0 := cell_below hS a0; have a1 := cell_below hS a1; have b0 := cell_below hS b0; have b1 := cell_below hS b1; have c0 := cell_below hS c0; have c1 := cell_below hS c1; have l0 := cell_below hS l0; have l1 := cell_below hS l1; go_simp <;> with_reducible rfl)
            try simp only [Act.put, List.setIfInBounds_toArray, List.set_cons_zero, List.set_cons_succ]
            refine wpAnyH_take (i := 24) (oi := { dst := some 37, op := Op.load 24 (Operand.tmp 3), type := 24, pos := "law.go:40", after := #[{ on := 22, ground := Ground.guard }], guard := some (22, false) }) (v := ?_) rfl (by kernel_rfl) (by kernel_rfl) (by kernel_rfl) (fun _ _ _ h => h) (Or.inl ⟨by rfl, ?_⟩) (by assumption) ?_
            rotate_left
            · (intro wS hS; have a0 := cell_below hS a0; have a1 := cell_below hS a1; have b0 := cell_below hS b0; have b1 := cell_below hS b1; have c0 := cell_below hS c0; have c1 := cell_below hS c1; have l0 := cell_below hS l0; have l1 := cell_below hS l1; go_simp <;> with_reducible rfl)
            try simp only [Act.put, List.setIfInBounds_toArray, List.set_cons_zero, List.set_cons_succ]
            refine wpAnyH_take (i := 25) (oi := { dst := some 38, op := Op.binOp BinOp.neq 24 (Operand.tmp 36) (Operand.tmp 37) 24, type := 4, pos := "law.go:40", after := #[{ on := 23, ground := Ground.data }, { on := 24, ground := Ground.data }, { on := 22, ground := Ground.guard }], guard := some (22, false) }) (v := ?_) rfl (by kernel_rfl) (by kernel_rfl) (by kernel_rfl) (fun _ _ _ h => h) (Or.inl ⟨by rfl, ?_⟩) (by assumption) ?_
            rotate_left
            · (intro wS hS; go_simp <;> with_reducible rfl)
            try simp only [Act.put, List.setIfInBounds_toArray, List.set_cons_zero, List.set_cons_succ]
            refine wpAnyH_take (i := 26) (oi := { dst := some 39, op := Op.move (Operand.tmp 38), type := 4, pos := "law.go:40", after := #[{ on := 25, ground := Ground.data }, { on := 22, ground := Ground.chain }, { on := 22, ground := Ground.guard }], guard := some (22, false) }) (v := ?_) rfl (by kernel_rfl) (by kernel_rfl) (by kernel_rfl) (fun _ _ _ h => h) (Or.inl ⟨by rfl, ?_⟩) (by assumption) ?_
            rotate_left
            · (intro wS hS; go_simp <;> with_reducible rfl)
            try simp only [Act.put, List.setIfInBounds_toArray, List.set_cons_zero, List.set_cons_succ]
            refine wpAnyH_take (i := 27) (oi := { dst := some 40, op := Op.load 24 (Operand.tmp 7), type := 24, pos := "law.go:40", after := #[{ on := 26, ground := Ground.guard }], guard := some (26, true) }) (v := ?_) rfl (by kernel_rfl) (by kernel_rfl) (by kernel_rfl) (fun _ _ _ h => h) (Or.inl ⟨by rfl, ?_⟩) (by assumption) ?_
            rotate_left
            · (intro wS hS; have a0 := cell_below hS a0; have a1 := cell_below hS a1; have b0 := cell_below hS b0; have b1 := cell_below hS b1; have c0 := cell_below hS c0; have c1 := cell_below hS c1; have l0 := cell_below hS l0; have l1 := cell_below hS l1; go_simp <;> with_reducible rfl)
            try simp only [Act.put, List.setIfInBounds_toArray, List.set_cons_zero, List.set_cons_succ]
            refine wpAnyH_take (i := 28) (oi := { dst := some 41, op := Op.load 24 (Operand.tmp 4), type := 24, pos := "law.go:40", after := #[{ on := 26, ground := Ground.guard }], guard := some (26, true) }) (v := ?_) rfl (by kernel_rfl) (by kernel_rfl) (by kernel_rfl) (fun _ _ _ h => h) (Or.inl ⟨by rfl, ?_⟩) (by assumption) ?_
            rotate_left
            · (intro wS hS; have a0 := cell_below hS a0; have a1 := cell_below hS a1; have b0 := cell_below hS b0; have b1 := cell_below hS b1; have c0 := cell_below hS c0; have c1 := cell_below hS c1; have l0 := cell_below hS l0; have l1 := cell_below hS l1; go_simp <;> with_reducible rfl)
            try simp only [Act.put, List.setIfInBounds_toArray, List.set_cons_zero, List.set_cons_succ]
            refine wpAnyH_take (i := 29) (oi := { dst := some 42, op := Op.binOp BinOp.neq 24 (Operand.tmp 40) (Operand.tmp 41) 24, type := 4, pos := "law.go:40", after := #[{ on := 27, ground := Ground.data }, { on := 28, ground := Ground.data }, { on := 26, ground := Ground.guard }], guard := some (26, true) }) (v := ?_) rfl (by kernel_rfl) (by kernel_rfl) (by kernel_rfl) (fun _ _ _ h => h) (Or.inl ⟨by rfl, ?_⟩) (by assumption) ?_
            rotate_left
            · (intro wS hS; go_simp <;> with_reducible rfl)
            try simp only [Act.put, List.setIfInBounds_toArray, List.set_cons_zero, List.set_cons_succ]
            refine wpAnyH_take (i := 30) (oi := { dst := some 43, op := Op.pick (Operand.tmp 39) (Operand.tmp 42) (Operand.const (Value.bool false)), type := 4, pos := "law.go:40", after := #[{ on := 26, ground := Ground.data }, { on := 29, ground := Ground.data }, { on := 22, ground := Ground.guard }], guard := some (22, false) }) (v := ?_) rfl (by kernel_rfl) (by kernel_rfl) (by kernel_rfl) (fun _ _ _ h => h) (Or.inl ⟨by rfl, ?_⟩) (by assumption) ?_
            rotate_left
            · (intro wS hS; go_simp <;> with_reducible rfl)
            try simp only [Act.put, List.setIfInBounds_toArray, List.set_cons_zero, List.set_cons_succ]
            refine wpAnyH_take (i := 31) (oi := { dst := some 44, op := Op.move (Operand.tmp 43), type := 4, pos := "law.go:40", after := #[{ on := 30, ground := Ground.data }, { on := 26, ground := Ground.chain }, { on := 22, ground := Ground.guard }], guard := some (22, false) }) (v := ?_) rfl (by kernel_rfl) (by kernel_rfl) (by kernel_rfl) (fun _ _ _ h => h) (Or.inl ⟨by rfl, ?_⟩) (by assumption) ?_
            rotate_left
            · (intro wS hS; go_simp <;> with_reducible rfl)
            try simp only [Act.put, List.setIfInBounds_toArray, List.set_cons_zero, List.set_cons_succ]
            refine wpAnyH_take (i := 32) (oi := { dst := some 45, op := Op.load 24 (Operand.tmp 7), type := 24, pos := "law.go:40", after := #[{ on := 31, ground := Ground.guard }], guard := some (31, true) }) (v := ?_) rfl (by kernel_rfl) (by kernel_rfl) (by kernel_rfl) (fun _ _ _ h => h) (Or.inl ⟨by rfl, ?_⟩) (by assumption) ?_
            rotate_left
            · (intro wS hS; have a0 := cell_below hS a0; have a1 := cell_below hS a1; have b0 := cell_below hS b0; have b1 := cell_below hS b1; have c0 := cell_below hS c0; have c1 := cell_below hS c1; have l0 := cell_below hS l0; have l1 := cell_below hS l1; go_simp <;> with_reducible rfl)
            try simp only [Act.put, List.setIfInBounds_toArray, List.set_cons_zero, List.set_cons_succ]
            refine wpAnyH_take (i := 33) (oi := { dst := some 46, op := Op.load 24 (Operand.tmp 5), type := 24, pos := "law.go:40", after := #[{ on := 31, ground := Ground.guard }], guard := some (31, true) }) (v := ?_) rfl (by kernel_rfl) (by kernel_rfl) (by kernel_rfl) (fun _ _ _ h => h) (Or.inl ⟨by rfl, ?_⟩) (by assumption) ?_
            rotate_left
            · (intro wS hS; have a0 := cell_below hS a0; have a1 := cell_below hS a1; have b0 := cell_below hS b0; have b1 := cell_below hS b1; have c0 := cell_below hS c0; have c1 := cell_below hS c1; have l0 := cell_below hS l0; have l1 := cell_below hS l1; go_simp <;> with_reducible rfl)
            try simp only [Act.put, List.setIfInBounds_toArray, List.set_cons_zero, List.set_cons_succ]
            refine wpAnyH_take (i := 34) (oi := { dst := some 47, op := Op.binOp BinOp.neq 24 (Operand.tmp 45) (Operand.tmp 46) 24, type := 4, pos := "law.go:40", after := #[{ on := 32, ground := Ground.data }, { on := 33, ground := Ground.data }, { on := 31, ground := Ground.guard }], guard := some (31, true) }) (v := ?_) rfl (by kernel_rfl) (by kernel_rfl) (by kernel_rfl) (fun _ _ _ h => h) (Or.inl ⟨by rfl, ?_⟩) (by assumption) ?_
            rotate_left
            · (intro wS hS; go_simp <;> with_reducible rfl)
            try simp only [Act.put, List.setIfInBounds_toArray, List.set_cons_zero, List.set_cons_succ]
            refine wpAnyH_take (i := 35) (oi := { dst := some 48, op := Op.pick (Operand.tmp 44) (Operand.tmp 47) (Operand.const (Value.bool false)), type := 4, pos := "law.go:40", after := #[{ on := 31, ground := Ground.data }, { on := 34, ground := Ground.data }, { on := 22, ground := Ground.guard }], guard := some (22, false) }) (v := ?_) rfl (by kernel_rfl) (by kernel_rfl) (by kernel_rfl) (fun _ _ _ h => h) (Or.inl ⟨by rfl, ?_⟩) (by assumption) ?_
            rotate_left
            · (intro wS hS; go_simp <;> with_reducible rfl)
            try simp only [Act.put, List.setIfInBounds_toArray, List.set_cons_zero, List.set_cons_succ]
            refine wpAnyH_take (i := 36) (oi := { dst := some 49, op := Op.pick (Operand.tmp 35) (Operand.const (Value.bool true)) (Operand.tmp 48), type := 4, pos := "law.go:40", after := #[{ on := 22, ground := Ground.data }, { on := 35, ground := Ground.data }], guard := none }) (v := ?_) rfl (by kernel_rfl) (by kernel_rfl) (by kernel_rfl) (fun _ _ _ h => h) (Or.inl ⟨by rfl, ?_⟩) (by assumption) ?_
            rotate_left
            · (intro wS hS; go_simp <;> with_reducible rfl)
            try simp only [Act.put, List.setIfInBounds_toArray, List.set_cons_zero, List.set_cons_succ]
            refine wpAnyH_done (by kernel_rfl) ?_ _
            go_wp2_with fail
            go_meet
            exact ⟨rfl, hS⟩
          · have hC' : ((l2v : Int) == b2v) = false := by simpa using hC2
            have eC : l1v = b1v := by omega
            clear hC
            subst eA
            subst eC
            refine wp_region_held (S := fun W => Below (w0).heap.size (w0) W) (by kernel_rfl) ?_
            change wpAnyH _ _ _ _ _ _ _ _ (w0).drew
            have hS : (fun W => Below (w0).heap.size (w0) W) (w0).drew := (Below.refl _ _).drew
            refine wpAnyH_take (i := 0) (oi := { dst := some 13, op := Op.load 24 (Operand.tmp 3), type := 24, pos := "law.go:40", after := #[], guard := none }) (v := ?_) rfl (by kernel_rfl) (by kernel_rfl) (by kernel_rfl) (fun _ _ _ h => h) (Or.inl ⟨by rfl, ?_⟩) (by assumption) ?_
            rotate_left
            · (intro wS hS; have a0 := cell_below hS a0; have a1 := cell_below hS a1; have b0 := cell_below hS b0; have b1 := cell_below hS b1; have c0 := cell_below hS c0; have c1 := cell_below hS c1; have l0 := cell_below hS l0; have l1 := cell_below hS l1; go_simp <;> with_reducible rfl)
            try simp only [Act.put, List.setIfInBounds_toArray, List.set_cons_zero, List.set_cons_succ]
            refine wpAnyH_take (i := 1) (oi := { dst := some 14, op := Op.load 24 (Operand.tmp 4), type := 24, pos := "law.go:40", after := #[], guard := none }) (v := ?_) rfl (by kernel_rfl) (by kernel_rfl) (by kernel_rfl) (fun _ _ _ h => h) (Or.inl ⟨by rfl, ?_⟩) (by assumption) ?_
            rotate_left
            · (intro wS hS; have a0 := cell_below hS a0; have a1 := cell_below hS a1; have b0 := cell_below hS b0; have b1 := cell_below hS b1; have c0 := cell_below hS c0; have c1 := cell_below hS c1; have l0 := cell_below hS l0; have l1 := cell_below hS l1; go_simp <;> with_reducible rfl)
            try simp only [Act.put, List.setIfInBounds_toArray, List.set_cons_zero, List.set_cons_succ]
            refine wpAnyH_take (i := 3) (oi := { dst := some 16, op := Op.load 24 (Operand.tmp 3), type := 24, pos := "law.go:40", after := #[], guard := none }) (v := ?_) rfl (by kernel_rfl) (by kernel_rfl) (by kernel_rfl) (fun _ _ _ h => h) (Or.inl ⟨by rfl, ?_⟩) (by assumption) ?_
            rotate_left
            · (intro wS hS; have a0 := cell_below hS a0; have a1 := cell_below hS a1; have b0 := cell_below hS b0; have b1 := cell_below hS b1; have c0 := cell_below hS c0; have c1 := cell_below hS c1; have l0 := cell_below hS l0; have l1 := cell_below hS l1; go_simp <;> with_reducible rfl)
            try simp only [Act.put, List.setIfInBounds_toArray, List.set_cons_zero, List.set_cons_succ]
            refine wpAnyH_take (i := 4) (oi := { dst := some 17, op := Op.load 24 (Operand.tmp 4), type := 24, pos := "law.go:40", after := #[], guard := none }) (v := ?_) rfl (by kernel_rfl) (by kernel_rfl) (by kernel_rfl) (fun _ _ _ h => h) (Or.inl ⟨by rfl, ?_⟩) (by assumption) ?_
            rotate_left
            · (intro wS hS; have a0 := cell_below hS a0; have a1 := cell_below hS a1; have b0 := cell_below hS b0; have b1 := cell_below hS b1; have c0 := cell_below hS c0; have c1 := cell_below hS c1; have l0 := cell_below hS l0; have l1 := cell_below hS l1; go_simp <;> with_reducible rfl)
            try simp only [Act.put, List.setIfInBounds_toArray, List.set_cons_zero, List.set_cons_succ]
            refine wpAnyH_ready (rs := [2]) (by kernel_rfl) (by simp) ?_
            refine AllReadyH.cons (o := { dst := some 15, op := Op.call { callee := Callee.value (Operand.func 16), args := #[Operand.tmp 13, Operand.tmp 14], argTypes := #[24, 24] }, type := 4, pos := "law.go:40", after := #[{ on := 0, ground := Ground.data }, { on := 1, ground := Ground.data }], guard := none }) rfl (fun K hK => ?_) AllReadyH.nil
            go_simp
            refine (KL _).out.mono ?_
            rintro e w102 ⟨rfl, hb⟩
            replace hS : (fun W => Below (w0).heap.size (w0) W) w102 := below_then hS hb (Below.size hS)
            refine hK.out _ _ hS (fun _ => ?_)
            clear hK K hb
            try simp only [Act.put, List.setIfInBounds_toArray, List.set_cons_zero, List.set_cons_succ]
            refine wpAnyH_ready (rs := [5]) (by kernel_rfl) (by simp) ?_
            refine AllReadyH.cons (o := { dst := some 18, op := Op.call { callee := Callee.value (Operand.func 17), args := #[Operand.tmp 16, Operand.tmp 17], argTypes := #[24, 24] }, type := 4, pos := "law.go:40", after := #[{ on := 3, ground := Ground.data }, { on := 4, ground := Ground.data }, { on := 2, ground := Ground.chain }], guard := none }) rfl (fun K hK => ?_) AllReadyH.nil
            go_simp
            refine (KR _).out.mono ?_
            rintro e w105 ⟨rfl, hb⟩
            replace hS : (fun W => Below (w0).heap.size (w0) W) w105 := below_then hS hb (Below.size hS)
            refine hK.out _ _ hS (fun _ => ?_)
            clear hK K hb
            try simp only [Act.put, List.setIfInBounds_toArray, List.set_cons_zero, List.set_cons_succ]
            refine wpAnyH_take (i := 6) (oi := { dst := some 19, op := Op.binOp BinOp.neq 4 (Operand.tmp 15) (Operand.tmp 18) 4, type := 4, pos := "law.go:40", after := #[{ on := 2, ground := Ground.data }, { on := 5, ground := Ground.data }], guard := none }) (v := ?_) rfl (by kernel_rfl) (by kernel_rfl) (by kernel_rfl) (fun _ _ _ h => h) (Or.inl ⟨by rfl, ?_⟩) (by assumption) ?_
            rotate_left
            · (intro wS hS; go_simp <;> with_reducible rfl)
            try simp only [Act.put, List.setIfInBounds_toArray, List.set_cons_zero, List.set_cons_succ]
            refine wpAnyH_take (i := 7) (oi := { dst := some 20, op := Op.move (Operand.tmp 19), type := 4, pos := "law.go:40", after := #[{ on := 6, ground := Ground.data }, { on := 5, ground := Ground.chain }], guard := none }) (v := ?_) rfl (by kernel_rfl) (by kernel_rfl) (by kernel_rfl) (fun _ _ _ h => h) (Or.inl ⟨by rfl, ?_⟩) (by assumption) ?_
            rotate_left
            · (intro wS hS; go_simp <;> with_reducible rfl)
            try simp only [Act.put, List.setIfInBounds_toArray, List.set_cons_zero, List.set_cons_succ]
            refine wpAnyH_take (i := 8) (oi := { dst := some 21, op := Op.load 24 (Operand.tmp 7), type := 24, pos := "law.go:40", after := #[{ on := 7, ground := Ground.guard }], guard := some (7, false) }) (v := ?_) rfl (by kernel_rfl) (by kernel_rfl) (by kernel_rfl) (fun _ _ _ h => h) (Or.inl ⟨by rfl, ?_⟩) (by assumption) ?_
            rotate_left
            · (intro wS hS; have a0 := cell_below hS a0; have a1 := cell_below hS a1; have b0 := cell_below hS b0; have b1 := cell_below hS b1; have c0 := cell_below hS c0; have c1 := cell_below hS c1; have l0 := cell_below hS l0; have l1 := cell_below hS l1; go_simp <;> with_reducible rfl)
            try simp only [Act.put, List.setIfInBounds_toArray, List.set_cons_zero, List.set_cons_succ]
            refine wpAnyH_take (i := 9) (oi := { dst := some 22, op := Op.load 24 (Operand.tmp 3), type := 24, pos := "law.go:40", after := #[{ on := 7, ground := Ground.guard }], guard := some (7, false) }) (v := ?_) rfl (by kernel_rfl) (by kernel_rfl) (by kernel_rfl) (fun _ _ _ h => h) (Or.inl ⟨by rfl, ?_⟩) (by assumption) ?_
            rotate_left
            · (intro wS hS; have a0 := cell_below hS a0; have a1 := cell_below hS a1; have b0 := cell_below hS b0; have b1 := cell_below hS b1; have c0 := cell_below hS c0; have c1 := cell_below hS c1; have l0 := cell_below hS l0; have l1 := cell_below hS l1; go_simp <;> with_reducible rfl)
            try simp only [Act.put, List.setIfInBounds_toArray, List.set_cons_zero, List.set_cons_succ]
            refine wpAnyH_ready (rs := [10]) (by kernel_rfl) (by simp) ?_
            refine AllReadyH.cons (o := { dst := some 23, op := Op.call { callee := Callee.value (Operand.func 17), args := #[Operand.tmp 21, Operand.tmp 22], argTypes := #[24, 24] }, type := 4, pos := "law.go:40", after := #[{ on := 8, ground := Ground.data }, { on := 9, ground := Ground.data }, { on := 7, ground := Ground.chain }, { on := 7, ground := Ground.guard }], guard := some (7, false) }) rfl (fun K hK => ?_) AllReadyH.nil
            go_simp
            refine (K10 _).out.mono ?_
            rintro e w110 ⟨rfl, hb⟩
            replace hS : (fun W => Below (w0).heap.size (w0) W) w110 := below_then hS hb (Below.size hS)
            refine hK.out _ _ hS (fun _ => ?_)
            clear hK K hb
            try simp only [Act.put, List.setIfInBounds_toArray, List.set_cons_zero, List.set_cons_succ]
            refine wpAnyH_take (i := 11) (oi := { dst := some 24, op := Op.pick (Operand.tmp 20) (Operand.const (Value.bool true)) (Operand.tmp 23), type := 4, pos := "law.go:40", after := #[{ on := 7, ground := Ground.data }, { on := 10, ground := Ground.data }], guard := none }) (v := ?_) rfl (by kernel_rfl) (by kernel_rfl) (by kernel_rfl) (fun _ _ _ h => h) (Or.inl ⟨by rfl, ?_⟩) (by assumption) ?_
            rotate_left
            · (intro wS hS; go_simp <;> with_reducible rfl)
            try simp only [Act.put, List.setIfInBounds_toArray, List.set_cons_zero, List.set_cons_succ]
            refine wpAnyH_take (i := 12) (oi := { dst := some 25, op := Op.move (Operand.tmp 24), type := 4, pos := "law.go:40", after := #[{ on := 11, ground := Ground.data }, { on := 10, ground := Ground.chain }], guard := none }) (v := ?_) rfl (by kernel_rfl) (by kernel_rfl) (by kernel_rfl) (fun _ _ _ h => h) (Or.inl ⟨by rfl, ?_⟩) (by assumption) ?_
            rotate_left
            · (intro wS hS; go_simp <;> with_reducible rfl)
            try simp only [Act.put, List.setIfInBounds_toArray, List.set_cons_zero, List.set_cons_succ]
            refine wpAnyH_take (i := 13) (oi := { dst := some 26, op := Op.load 24 (Operand.tmp 7), type := 24, pos := "law.go:40", after := #[{ on := 12, ground := Ground.guard }], guard := some (12, false) }) (v := ?_) rfl (by kernel_rfl) (by kernel_rfl) (by kernel_rfl) (fun _ _ _ h => h) (Or.inl ⟨by rfl, ?_⟩) (by assumption) ?_
            rotate_left
            · (intro wS hS; have a0 := cell_below hS a0; have a1 := cell_below hS a1; have b0 := cell_below hS b0; have b1 := cell_below hS b1; have c0 := cell_below hS c0; have c1 := cell_below hS c1; have l0 := cell_below hS l0; have l1 := cell_below hS l1; go_simp <;> with_reducible rfl)
            try simp only [Act.put, List.setIfInBounds_toArray, List.set_cons_zero, List.set_cons_succ]
            refine wpAnyH_take (i := 14) (oi := { dst := some 27, op := Op.load 24 (Operand.tmp 4), type := 24, pos := "law.go:40", after := #[{ on := 12, ground := Ground.guard }], guard := some (12, false) }) (v := ?_) rfl (by kernel_rfl) (by kernel_rfl) (by kernel_rfl) (fun _ _ _ h => h) (Or.inl ⟨by rfl, ?_⟩) (by assumption) ?_
            rotate_left
            · (intro wS hS; have a0 := cell_below hS a0; have a1 := cell_below hS a1; have b0 := cell_below hS b0; have b1 := cell_below hS b1; have c0 := cell_below hS c0; have c1 := cell_below hS c1; have l0 := cell_below hS l0; have l1 := cell_below hS l1; go_simp <;> with_reducible rfl)
            try simp only [Act.put, List.setIfInBounds_toArray, List.set_cons_zero, List.set_cons_succ]
            refine wpAnyH_ready (rs := [15]) (by kernel_rfl) (by simp) ?_
            refine AllReadyH.cons (o := { dst := some 28, op := Op.call { callee := Callee.value (Operand.func 17), args := #[Operand.tmp 26, Operand.tmp 27], argTypes := #[24, 24] }, type := 4, pos := "law.go:40", after := #[{ on := 13, ground := Ground.data }, { on := 14, ground := Ground.data }, { on := 12, ground := Ground.chain }, { on := 12, ground := Ground.guard }], guard := some (12, false) }) rfl (fun K hK => ?_) AllReadyH.nil
            go_simp
            refine (K15 _).out.mono ?_
            rintro e w115 ⟨rfl, hb⟩
            replace hS : (fun W => Below (w0).heap.size (w0) W) w115 := below_then hS hb (Below.size hS)
            refine hK.out _ _ hS (fun _ => ?_)
            clear hK K hb
            try simp only [Act.put, List.setIfInBounds_toArray, List.set_cons_zero, List.set_cons_succ]
            refine wpAnyH_take (i := 16) (oi := { dst := some 29, op := Op.pick (Operand.tmp 25) (Operand.const (Value.bool true)) (Operand.tmp 28), type := 4, pos := "law.go:40", after := #[{ on := 12, ground := Ground.data }, { on := 15, ground := Ground.data }], guard := none }) (v := ?_) rfl (by kernel_rfl) (by kernel_rfl) (by kernel_rfl) (fun _ _ _ h => h) (Or.inl ⟨by rfl, ?_⟩) (by assumption) ?_
            rotate_left
            · (intro wS hS; go_simp <;> with_reducible rfl)
            try simp only [Act.put, List.setIfInBounds_toArray, List.set_cons_zero, List.set_cons_succ]
            refine wpAnyH_take (i := 17) (oi := { dst := some 30, op := Op.move (Operand.tmp 29), type := 4, pos := "law.go:40", after := #[{ on := 16, ground := Ground.data }, { on := 15, ground := Ground.chain }], guard := none }) (v := ?_) rfl (by kernel_rfl) (by kernel_rfl) (by kernel_rfl) (fun _ _ _ h => h) (Or.inl ⟨by rfl, ?_⟩) (by assumption) ?_
            rotate_left
            · (intro wS hS; go_simp <;> with_reducible rfl)
            try simp only [Act.put, List.setIfInBounds_toArray, List.set_cons_zero, List.set_cons_succ]
            refine wpAnyH_take (i := 18) (oi := { dst := some 31, op := Op.load 24 (Operand.tmp 7), type := 24, pos := "law.go:40", after := #[{ on := 17, ground := Ground.guard }], guard := some (17, false) }) (v := ?_) rfl (by kernel_rfl) (by kernel_rfl) (by kernel_rfl) (fun _ _ _ h => h) (Or.inl ⟨by rfl, ?_⟩) (by assumption) ?_
            rotate_left
            · (intro wS hS; have a0 := cell_below hS a0; have a1 := cell_below hS a1; have b0 := cell_below hS b0; have b1 := cell_below hS b1; have c0 := cell_below hS c0; have c1 := cell_below hS c1; have l0 := cell_below hS l0; have l1 := cell_below hS l1; go_simp <;> with_reducible rfl)
            try simp only [Act.put, List.setIfInBounds_toArray, List.set_cons_zero, List.set_cons_succ]
            refine wpAnyH_take (i := 19) (oi := { dst := some 32, op := Op.load 24 (Operand.tmp 5), type := 24, pos := "law.go:40", after := #[{ on := 17, ground := Ground.guard }], guard := some (17, false) }) (v := ?_) rfl (by kernel_rfl) (by kernel_rfl) (by kernel_rfl) (fun _ _ _ h => h) (Or.inl ⟨by rfl, ?_⟩) (by assumption) ?_
            rotate_left
            · (intro wS hS; have a0 := cell_below hS a0; have a1 := cell_below hS a1; have b0 := cell_below hS b0; have b1 := cell_below hS b1; have c0 := cell_below hS c0; have c1 := cell_below hS c1; have l0 := cell_below hS l0; have l1 := cell_below hS l1; go_simp <;> with_reducible rfl)
            try simp only [Act.put, List.setIfInBounds_toArray, List.set_cons_zero, List.set_cons_succ]
            refine wpAnyH_ready (rs := [20]) (by kernel_rfl) (by simp) ?_
            refine AllReadyH.cons (o := { dst := some 33, op := Op.call { callee := Callee.value (Operand.func 17), args := #[Operand.tmp 31, Operand.tmp 32], argTypes := #[24, 24] }, type := 4, pos := "law.go:40", after := #[{ on := 18, ground := Ground.data }, { on := 19, ground := Ground.data }, { on := 17, ground := Ground.chain }, { on := 17, ground := Ground.guard }], guard := some (17, false) }) rfl (fun K hK => ?_) AllReadyH.nil
            go_simp
            refine (K20 _).out.mono ?_
            rintro e w120 ⟨rfl, hb⟩
            replace hS : (fun W => Below (w0).heap.size (w0) W) w120 := below_then hS hb (Below.size hS)
            refine hK.out _ _ hS (fun _ => ?_)
            clear hK K hb
            try simp only [Act.put, List.setIfInBounds_toArray, List.set_cons_zero, List.set_cons_succ]
            refine wpAnyH_take (i := 21) (oi := { dst := some 34, op := Op.pick (Operand.tmp 30) (Operand.const (Value.bool true)) (Operand.tmp 33), type := 4, pos := "law.go:40", after := #[{ on := 17, ground := Ground.data }, { on := 20, ground := Ground.data }], guard := none }) (v := ?_) rfl (by kernel_rfl) (by kernel_rfl) (by kernel_rfl) (fun _ _ _ h => h) (Or.inl ⟨by rfl, ?_⟩) (by assumption) ?_
            rotate_left
            · (intro wS hS; go_simp <;> with_reducible rfl)
            try simp only [Act.put, List.setIfInBounds_toArray, List.set_cons_zero, List.set_cons_succ]
            refine wpAnyH_take (i := 22) (oi := { dst := some 35, op := Op.move (Operand.tmp 34), type := 4, pos := "law.go:40", after := #[{ on := 21, ground := Ground.data }, { on := 20, ground := Ground.chain }], guard := none }) (v := ?_) rfl (by kernel_rfl) (by kernel_rfl) (by kernel_rfl) (fun _ _ _ h => h) (Or.inl ⟨by rfl, ?_⟩) (by assumption) ?_
            rotate_left
            · (intro wS hS; go_simp <;> with_reducible rfl)
            try simp only [Act.put, List.setIfInBounds_toArray, List.set_cons_zero, List.set_cons_succ]
            refine wpAnyH_take (i := 23) (oi := { dst := some 36, op := Op.load 24 (Operand.tmp 7), type := 24, pos := "law.go:40", after := #[{ on := 22, ground := Ground.guard }], guard := some (22, false) }) (v := ?_) rfl (by kernel_rfl) (by kernel_rfl) (by kernel_rfl) (fun _ _ _ h => h) (Or.inl ⟨by rfl, ?_⟩) (by assumption) ?_
            rotate_left
            · (intro wS hS; have a0 := cell_below hS a0; have a1 := cell_below hS a1; have b0 := cell_below hS b0; have b1 := cell_below hS b1; have c0 := cell_below hS c0; have c1 := cell_below hS c1; have l0 := cell_below hS l0; have l1 := cell_below hS l1; go_simp <;> with_reducible rfl)
            try simp only [Act.put, List.setIfInBounds_toArray, List.set_cons_zero, List.set_cons_succ]
            refine wpAnyH_take (i := 24) (oi := { dst := some 37, op := Op.load 24 (Operand.tmp 3), type := 24, pos := "law.go:40", after := #[{ on := 22, ground := Ground.guard }], guard := some (22, false) }) (v := ?_) rfl (by kernel_rfl) (by kernel_rfl) (by kernel_rfl) (fun _ _ _ h => h) (Or.inl ⟨by rfl, ?_⟩) (by assumption) ?_
            rotate_left
            · (intro wS hS; have a0 := cell_below hS a0; have a1 := cell_below hS a1; have b0 := cell_below hS b0; have b1 := cell_below hS b1; have c0 := cell_below hS c0; have c1 := cell_below hS c1; have l0 := cell_below hS l0; have l1 := cell_below hS l1; go_simp <;> with_reducible rfl)
            try simp only [Act.put, List.setIfInBounds_toArray, List.set_cons_zero, List.set_cons_succ]
            refine wpAnyH_take (i := 25) (oi := { dst := some 38, op := Op.binOp BinOp.neq 24 (Operand.tmp 36) (Operand.tmp 37) 24, type := 4, pos := "law.go:40", after := #[{ on := 23, ground := Ground.data }, { on := 24, ground := Ground.data }, { on := 22, ground := Ground.guard }], guard := some (22, false) }) (v := ?_) rfl (by kernel_rfl) (by kernel_rfl) (by kernel_rfl) (fun _ _ _ h => h) (Or.inl ⟨by rfl, ?_⟩) (by assumption) ?_
            rotate_left
            · (intro wS hS; go_simp <;> with_reducible rfl)
            try simp only [Act.put, List.setIfInBounds_toArray, List.set_cons_zero, List.set_cons_succ]
            refine wpAnyH_take (i := 26) (oi := { dst := some 39, op := Op.move (Operand.tmp 38), type := 4, pos := "law.go:40", after := #[{ on := 25, ground := Ground.data }, { on := 22, ground := Ground.chain }, { on := 22, ground := Ground.guard }], guard := some (22, false) }) (v := ?_) rfl (by kernel_rfl) (by kernel_rfl) (by kernel_rfl) (fun _ _ _ h => h) (Or.inl ⟨by rfl, ?_⟩) (by assumption) ?_
            rotate_left
            · (intro wS hS; go_simp <;> with_reducible rfl)
            try simp only [Act.put, List.setIfInBounds_toArray, List.set_cons_zero, List.set_cons_succ]
            refine wpAnyH_take (i := 27) (oi := { dst := some 40, op := Op.load 24 (Operand.tmp 7), type := 24, pos := "law.go:40", after := #[{ on := 26, ground := Ground.guard }], guard := some (26, true) }) (v := ?_) rfl (by kernel_rfl) (by kernel_rfl) (by kernel_rfl) (fun _ _ _ h => h) (Or.inl ⟨by rfl, ?_⟩) (by assumption) ?_
            rotate_left
            · (intro wS hS; have a0 := cell_below hS a0; have a1 := cell_below hS a1; have b0 := cell_below hS b0; have b1 := cell_below hS b1; have c0 := cell_below hS c0; have c1 := cell_below hS c1; have l0 := cell_below hS l0; have l1 := cell_below hS l1; go_simp <;> with_reducible rfl)
            try simp only [Act.put, List.setIfInBounds_toArray, List.set_cons_zero, List.set_cons_succ]
            refine wpAnyH_take (i := 28) (oi := { dst := some 41, op := Op.load 24 (Operand.tmp 4), type := 24, pos := "law.go:40", after := #[{ on := 26, ground := Ground.guard }], guard := some (26, true) }) (v := ?_) rfl (by kernel_rfl) (by kernel_rfl) (by kernel_rfl) (fun _ _ _ h => h) (Or.inl ⟨by rfl, ?_⟩) (by assumption) ?_
            rotate_left
            · (intro wS hS; have a0 := cell_below hS a0; have a1 := cell_below hS a1; have b0 := cell_below hS b0; have b1 := cell_below hS b1; have c0 := cell_below hS c0; have c1 := cell_below hS c1; have l0 := cell_below hS l0; have l1 := cell_below hS l1; go_simp <;> with_reducible rfl)
            try simp only [Act.put, List.setIfInBounds_toArray, List.set_cons_zero, List.set_cons_succ]
            refine wpAnyH_take (i := 29) (oi := { dst := some 42, op := Op.binOp BinOp.neq 24 (Operand.tmp 40) (Operand.tmp 41) 24, type := 4, pos := "law.go:40", after := #[{ on := 27, ground := Ground.data }, { on := 28, ground := Ground.data }, { on := 26, ground := Ground.guard }], guard := some (26, true) }) (v := ?_) rfl (by kernel_rfl) (by kernel_rfl) (by kernel_rfl) (fun _ _ _ h => h) (Or.inl ⟨by rfl, ?_⟩) (by assumption) ?_
            rotate_left
            · (intro wS hS; go_simp <;> with_reducible rfl)
            try simp only [Act.put, List.setIfInBounds_toArray, List.set_cons_zero, List.set_cons_succ]
            refine wpAnyH_take (i := 30) (oi := { dst := some 43, op := Op.pick (Operand.tmp 39) (Operand.tmp 42) (Operand.const (Value.bool false)), type := 4, pos := "law.go:40", after := #[{ on := 26, ground := Ground.data }, { on := 29, ground := Ground.data }, { on := 22, ground := Ground.guard }], guard := some (22, false) }) (v := ?_) rfl (by kernel_rfl) (by kernel_rfl) (by kernel_rfl) (fun _ _ _ h => h) (Or.inl ⟨by rfl, ?_⟩) (by assumption) ?_
            rotate_left
            · (intro wS hS; go_simp <;> with_reducible rfl)
            try simp only [Act.put, List.setIfInBounds_toArray, List.set_cons_zero, List.set_cons_succ]
            refine wpAnyH_take (i := 31) (oi := { dst := some 44, op := Op.move (Operand.tmp 43), type := 4, pos := "law.go:40", after := #[{ on := 30, ground := Ground.data }, { on := 26, ground := Ground.chain }, { on := 22, ground := Ground.guard }], guard := some (22, false) }) (v := ?_) rfl (by kernel_rfl) (by kernel_rfl) (by kernel_rfl) (fun _ _ _ h => h) (Or.inl ⟨by rfl, ?_⟩) (by assumption) ?_
            rotate_left
            · (intro wS hS; go_simp <;> with_reducible rfl)
            try simp only [Act.put, List.setIfInBounds_toArray, List.set_cons_zero, List.set_cons_succ]
            refine wpAnyH_take (i := 32) (oi := { dst := some 45, op := Op.load 24 (Operand.tmp 7), type := 24, pos := "law.go:40", after := #[{ on := 31, ground := Ground.guard }], guard := some (31, true) }) (v := ?_) rfl (by kernel_rfl) (by kernel_rfl) (by kernel_rfl) (fun _ _ _ h => h) (Or.inl ⟨by rfl, ?_⟩) (by assumption) ?_
            rotate_left
            · (intro wS hS; have a0 := cell_below hS a0; have a1 := cell_below hS a1; have b0 := cell_below hS b0; have b1 := cell_below hS b1; have c0 := cell_below hS c0; have c1 := cell_below hS c1; have l0 := cell_below hS l0; have l1 := cell_below hS l1; go_simp <;> with_reducible rfl)
            try simp only [Act.put, List.setIfInBounds_toArray, List.set_cons_zero, List.set_cons_succ]
            refine wpAnyH_take (i := 33) (oi := { dst := some 46, op := Op.load 24 (Operand.tmp 5), type := 24, pos := "law.go:40", after := #[{ on := 31, ground := Ground.guard }], guard := some (31, true) }) (v := ?_) rfl (by kernel_rfl) (by kernel_rfl) (by kernel_rfl) (fun _ _ _ h => h) (Or.inl ⟨by rfl, ?_⟩) (by assumption) ?_
            rotate_left
            · (intro wS hS; have a0 := cell_below hS a0; have a1 := cell_below hS a1; have b0 := cell_below hS b0; have b1 := cell_below hS b1; have c0 := cell_below hS c0; have c1 := cell_below hS c1; have l0 := cell_below hS l0; have l1 := cell_below hS l1; go_simp <;> with_reducible rfl)
            try simp only [Act.put, List.setIfInBounds_toArray, List.set_cons_zero, List.set_cons_succ]
            refine wpAnyH_take (i := 34) (oi := { dst := some 47, op := Op.binOp BinOp.neq 24 (Operand.tmp 45) (Operand.tmp 46) 24, type := 4, pos := "law.go:40", after := #[{ on := 32, ground := Ground.data }, { on := 33, ground := Ground.data }, { on := 31, ground := Ground.guard }], guard := some (31, true) }) (v := ?_) rfl (by kernel_rfl) (by kernel_rfl) (by kernel_rfl) (fun _ _ _ h => h) (Or.inl ⟨by rfl, ?_⟩) (by assumption) ?_
            rotate_left
            · (intro wS hS; go_simp <;> with_reducible rfl)
            try simp only [Act.put, List.setIfInBounds_toArray, List.set_cons_zero, List.set_cons_succ]
            refine wpAnyH_take (i := 35) (oi := { dst := some 48, op := Op.pick (Operand.tmp 44) (Operand.tmp 47) (Operand.const (Value.bool false)), type := 4, pos := "law.go:40", after := #[{ on := 31, ground := Ground.data }, { on := 34, ground := Ground.data }, { on := 22, ground := Ground.guard }], guard := some (22, false) }) (v := ?_) rfl (by kernel_rfl) (by kernel_rfl) (by kernel_rfl) (fun _ _ _ h => h) (Or.inl ⟨by rfl, ?_⟩) (by assumption) ?_
            rotate_left
            · (intro wS hS; go_simp <;> with_reducible rfl)
            try simp only [Act.put, List.setIfInBounds_toArray, List.set_cons_zero, List.set_cons_succ]
            refine wpAnyH_take (i := 36) (oi := { dst := some 49, op := Op.pick (Operand.tmp 35) (Operand.const (Value.bool true)) (Operand.tmp 48), type := 4, pos := "law.go:40", after := #[{ on := 22, ground := Ground.data }, { on := 35, ground := Ground.data }], guard := none }) (v := ?_) rfl (by kernel_rfl) (by kernel_rfl) (by kernel_rfl) (fun _ _ _ h => h) (Or.inl ⟨by rfl, ?_⟩) (by assumption) ?_
            rotate_left
            · (intro wS hS; go_simp <;> with_reducible rfl)
            try simp only [Act.put, List.setIfInBounds_toArray, List.set_cons_zero, List.set_cons_succ]
            refine wpAnyH_done (by kernel_rfl) ?_ _
            go_wp2_with fail
            go_meet
            exact ⟨rfl, hS⟩
  case rest =>
    obtain ⟨rfl, hS0⟩ := hcut
    replace a0 := cell_below hS0 a0
    replace a1 := cell_below hS0 a1
    replace b0 := cell_below hS0 b0
    replace b1 := cell_below hS0 b1
    replace hB := below_trans hB hS0
    have KN := fun W => Lib.hid (latest_any [] none 0 0 W (Rd.empty _ _) (by omega))
    have KB := fun (W : World) => Lib.hid (latest_any [(b1v, b2v)] (some ⟨W.heap.size, 0, none⟩) 1 1 (W.alloc (.cells #[.int .u64 (b1v : Int), .int .u64 (b2v : Int)] 24)) (cells_rd2 rfl (show 1 ≤ maxLen by decide)) (by omega))
    have KM := fun W => Lib.hid (sless_any b1v b2v a1v a2v W)
    simp only [show latN [] 0 = (0, 0) from rfl, show latN [(b1v, b2v)] 1 = (b1v, b2v) from rfl] at KN KB
    clear hS0 c0 c1 l0 l1 KR K10 K15 K20 hM
    go_wp2_with fail
    by_cases hab : a1v = b1v ∧ a2v = b2v
    · obtain ⟨rfl, rfl⟩ : b1v = a1v ∧ b2v = a2v := ⟨hab.1.symm, hab.2.symm⟩
      rw [show lessB b1v b2v b1v b2v = false by simp [lessB]] at KL KM
      refine wp_region_held (S := fun W => Below (wc).heap.size (wc) W) (by kernel_rfl) ?_
      change wpAnyH _ _ _ _ _ _ _ _ (wc).drew
      have hS : (fun W => Below (wc).heap.size (wc) W) (wc).drew := (Below.refl _ _).drew
      refine wpAnyH_ready (rs := [0]) (by kernel_rfl) (by simp) ?_
      refine AllReadyH.cons (o := { dst := some 50, op := Op.call { callee := Callee.value (Operand.func 9), args := #[], argTypes := #[] }, type := 4, pos := "law.go:43", after := #[], guard := none }) rfl (fun K hK => ?_) AllReadyH.nil
      go_simp
      refine (awake08_any _).mono ?_
      rintro e w100 ⟨rfl, hb⟩
      replace hS : (fun W => Below (wc).heap.size (wc) W) w100 := below_then hS hb (Below.size hS)
      refine hK.out _ _ hS (fun _ => ?_)
      clear hK K hb
      try simp only [Act.put, List.setIfInBounds_toArray, List.set_cons_zero, List.set_cons_succ]
      refine wpAnyH_take (i := 1) (oi := { dst := some 51, op := Op.move (Operand.tmp 50), type := 4, pos := "law.go:43", after := #[{ on := 0, ground := Ground.data }, { on := 0, ground := Ground.chain }], guard := none }) (v := ?_) rfl (by kernel_rfl) (by kernel_rfl) (by kernel_rfl) (fun _ _ _ h => h) (Or.inl ⟨by rfl, ?_⟩) (by assumption) ?_
      rotate_left
      · (intro wS hS; go_simp <;> with_reducible rfl)
      try simp only [Act.put, List.setIfInBounds_toArray, List.set_cons_zero, List.set_cons_succ]
      refine wpAnyH_take (i := 3) (oi := { dst := some 53, op := Op.build 24 #[], type := 24, pos := "law.go:43", after := #[{ on := 1, ground := Ground.guard }], guard := some (1, true) }) (v := ?_) rfl (by kernel_rfl) (by kernel_rfl) (by kernel_rfl) (fun _ _ _ h => h) (Or.inl ⟨by rfl, ?_⟩) (by assumption) ?_
      rotate_left
      · (intro wS hS; go_simp <;> with_reducible rfl)
      try simp only [Act.put, List.setIfInBounds_toArray, List.set_cons_zero, List.set_cons_succ]
      refine wpAnyH_ready (rs := [2]) (by kernel_rfl) (by simp) ?_
      refine AllReadyH.cons (o := { dst := some 52, op := Op.call { callee := Callee.value (Operand.func 15), args := #[Operand.const (Value.slice none 0 0)], argTypes := #[57] }, type := 24, pos := "law.go:43", after := #[{ on := 1, ground := Ground.chain }, { on := 1, ground := Ground.guard }], guard := some (1, true) }) rfl (fun K hK => ?_) AllReadyH.nil
      go_simp
      refine (KN _).out.mono ?_
      rintro e w102 ⟨rfl, hb⟩
      replace hS : (fun W => Below (wc).heap.size (wc) W) w102 := below_then hS hb (Below.size hS)
      refine hK.out _ _ hS (fun _ => ?_)
      clear hK K hb
      try simp only [Act.put, List.setIfInBounds_toArray, List.set_cons_zero, List.set_cons_succ]
      refine wpAnyH_take (i := 4) (oi := { dst := some 54, op := Op.binOp BinOp.eql 24 (Operand.tmp 52) (Operand.tmp 53) 24, type := 4, pos := "law.go:43", after := #[{ on := 2, ground := Ground.data }, { on := 3, ground := Ground.data }, { on := 1, ground := Ground.guard }], guard := some (1, true) }) (v := ?_) rfl (by kernel_rfl) (by kernel_rfl) (by kernel_rfl) (fun _ _ _ h => h) (Or.inl ⟨by rfl, ?_⟩) (by assumption) ?_
      rotate_left
      · (intro wS hS; go_simp <;> with_reducible rfl)
      try simp only [Act.put, List.setIfInBounds_toArray, List.set_cons_zero, List.set_cons_succ]
      refine wpAnyH_take (i := 5) (oi := { dst := some 55, op := Op.pick (Operand.tmp 51) (Operand.tmp 54) (Operand.const (Value.bool false)), type := 4, pos := "law.go:43", after := #[{ on := 1, ground := Ground.data }, { on := 4, ground := Ground.data }], guard := none }) (v := ?_) rfl (by kernel_rfl) (by kernel_rfl) (by kernel_rfl) (fun _ _ _ h => h) (Or.inl ⟨by rfl, ?_⟩) (by assumption) ?_
      rotate_left
      · (intro wS hS; go_simp <;> with_reducible rfl)
      try simp only [Act.put, List.setIfInBounds_toArray, List.set_cons_zero, List.set_cons_succ]
      refine wpAnyH_take (i := 6) (oi := { dst := some 56, op := Op.move (Operand.tmp 55), type := 4, pos := "law.go:43", after := #[{ on := 5, ground := Ground.data }, { on := 2, ground := Ground.chain }], guard := none }) (v := ?_) rfl (by kernel_rfl) (by kernel_rfl) (by kernel_rfl) (fun _ _ _ h => h) (Or.inl ⟨by rfl, ?_⟩) (by assumption) ?_
      rotate_left
      · (intro wS hS; go_simp <;> with_reducible rfl)
      try simp only [Act.put, List.setIfInBounds_toArray, List.set_cons_zero, List.set_cons_succ]
      refine wpAnyH_take (i := 7) (oi := { dst := some 57, op := Op.load 24 (Operand.tmp 4), type := 24, pos := "law.go:43", after := #[{ on := 6, ground := Ground.guard }], guard := some (6, true) }) (v := ?_) rfl (by kernel_rfl) (by kernel_rfl) (by kernel_rfl) (fun _ _ _ h => h) (Or.inl ⟨by rfl, ?_⟩) (by assumption) ?_
      rotate_left
      · (intro wS hS; have a0 := cell_below hS a0; have a1 := cell_below hS a1; have b0 := cell_below hS b0; have b1 := cell_below hS b1; go_simp <;> with_reducible rfl)
      try simp only [Act.put, List.setIfInBounds_toArray, List.set_cons_zero, List.set_cons_succ]
      refine wpAnyH_take (i := 10) (oi := { dst := some 60, op := Op.load 24 (Operand.tmp 4), type := 24, pos := "law.go:43", after := #[{ on := 6, ground := Ground.guard }], guard := some (6, true) }) (v := ?_) rfl (by kernel_rfl) (by kernel_rfl) (by kernel_rfl) (fun _ _ _ h => h) (Or.inl ⟨by rfl, ?_⟩) (by assumption) ?_
      rotate_left
      · (intro wS hS; have a0 := cell_below hS a0; have a1 := cell_below hS a1; have b0 := cell_below hS b0; have b1 := cell_below hS b1; go_simp <;> with_reducible rfl)
      try simp only [Act.put, List.setIfInBounds_toArray, List.set_cons_zero, List.set_cons_succ]
      refine wpAnyH_ready (rs := [8]) (by kernel_rfl) (by simp) ?_
      refine AllReadyH.cons (o := { dst := some 58, op := Op.buildSlice 57 1 #[(0, Operand.tmp 57)], type := 57, pos := "law.go:43", after := #[{ on := 7, ground := Ground.data }, { on := 6, ground := Ground.guard }], guard := some (6, true) }) rfl (fun K hK => ?_) AllReadyH.nil
      go_simp
      refine (fun (h : (fun W => Below (wc).heap.size (wc) W) _) => hK.out _ _ h (fun _ => ?_)) (Below.alloc hS (Below.size hS) _)
      replace hS := h
      clear h
      clear hK K
      try simp only [Act.put, List.setIfInBounds_toArray, List.set_cons_zero, List.set_cons_succ]
      refine wpAnyH_ready (rs := [9]) (by kernel_rfl) (by simp) ?_
      refine AllReadyH.cons (o := { dst := some 59, op := Op.call { callee := Callee.value (Operand.func 15), args := #[Operand.tmp 58], argTypes := #[57] }, type := 24, pos := "law.go:43", after := #[{ on := 8, ground := Ground.data }, { on := 6, ground := Ground.chain }, { on := 6, ground := Ground.guard }], guard := some (6, true) }) rfl (fun K hK => ?_) AllReadyH.nil
      go_simp
      refine (KB _).out.mono ?_
      rintro e w109 ⟨rfl, hb⟩
      replace hS : (fun W => Below (wc).heap.size (wc) W) w109 := below_then hS hb (Below.size hS)
      refine hK.out _ _ hS (fun _ => ?_)
      clear hK K hb
      try simp only [Act.put, List.setIfInBounds_toArray, List.set_cons_zero, List.set_cons_succ]
      refine wpAnyH_take (i := 11) (oi := { dst := some 61, op := Op.binOp BinOp.eql 24 (Operand.tmp 59) (Operand.tmp 60) 24, type := 4, pos := "law.go:43", after := #[{ on := 9, ground := Ground.data }, { on := 10, ground := Ground.data }, { on := 6, ground := Ground.guard }], guard := some (6, true) }) (v := ?_) rfl (by kernel_rfl) (by kernel_rfl) (by kernel_rfl) (fun _ _ _ h => h) (Or.inl ⟨by rfl, ?_⟩) (by assumption) ?_
      rotate_left
      · (intro wS hS; go_simp <;> with_reducible rfl)
      try simp only [Act.put, List.setIfInBounds_toArray, List.set_cons_zero, List.set_cons_succ]
      refine wpAnyH_take (i := 12) (oi := { dst := some 62, op := Op.pick (Operand.tmp 56) (Operand.tmp 61) (Operand.const (Value.bool false)), type := 4, pos := "law.go:43", after := #[{ on := 6, ground := Ground.data }, { on := 11, ground := Ground.data }], guard := none }) (v := ?_) rfl (by kernel_rfl) (by kernel_rfl) (by kernel_rfl) (fun _ _ _ h => h) (Or.inl ⟨by rfl, ?_⟩) (by assumption) ?_
      rotate_left
      · (intro wS hS; go_simp <;> with_reducible rfl)
      try simp only [Act.put, List.setIfInBounds_toArray, List.set_cons_zero, List.set_cons_succ]
      refine wpAnyH_take (i := 13) (oi := { dst := some 63, op := Op.move (Operand.tmp 62), type := 4, pos := "law.go:43", after := #[{ on := 12, ground := Ground.data }, { on := 9, ground := Ground.chain }], guard := none }) (v := ?_) rfl (by kernel_rfl) (by kernel_rfl) (by kernel_rfl) (fun _ _ _ h => h) (Or.inl ⟨by rfl, ?_⟩) (by assumption) ?_
      rotate_left
      · (intro wS hS; go_simp <;> with_reducible rfl)
      try simp only [Act.put, List.setIfInBounds_toArray, List.set_cons_zero, List.set_cons_succ]
      refine wpAnyH_take (i := 14) (oi := { dst := some 64, op := Op.load 24 (Operand.tmp 3), type := 24, pos := "law.go:43", after := #[{ on := 13, ground := Ground.guard }], guard := some (13, true) }) (v := ?_) rfl (by kernel_rfl) (by kernel_rfl) (by kernel_rfl) (fun _ _ _ h => h) (Or.inl ⟨by rfl, ?_⟩) (by assumption) ?_
      rotate_left
      · (intro wS hS; have a0 := cell_below hS a0; have a1 := cell_below hS a1; have b0 := cell_below hS b0; have b1 := cell_below hS b1; go_simp <;> with_reducible rfl)
      try simp only [Act.put, List.setIfInBounds_toArray, List.set_cons_zero, List.set_cons_succ]
      refine wpAnyH_take (i := 15) (oi := { dst := some 65, op := Op.load 24 (Operand.tmp 4), type := 24, pos := "law.go:43", after := #[{ on := 13, ground := Ground.guard }], guard := some (13, true) }) (v := ?_) rfl (by kernel_rfl) (by kernel_rfl) (by kernel_rfl) (fun _ _ _ h => h) (Or.inl ⟨by rfl, ?_⟩) (by assumption) ?_
      rotate_left
      · (intro wS hS; have a0 := cell_below hS a0; have a1 := cell_below hS a1; have b0 := cell_below hS b0; have b1 := cell_below hS b1; go_simp <;> with_reducible rfl)
      try simp only [Act.put, List.setIfInBounds_toArray, List.set_cons_zero, List.set_cons_succ]
      refine wpAnyH_take (i := 22) (oi := { dst := some 72, op := Op.load 24 (Operand.tmp 3), type := 24, pos := "law.go:43", after := #[{ on := 13, ground := Ground.guard }], guard := some (13, true) }) (v := ?_) rfl (by kernel_rfl) (by kernel_rfl) (by kernel_rfl) (fun _ _ _ h => h) (Or.inl ⟨by rfl, ?_⟩) (by assumption) ?_
      rotate_left
      · (intro wS hS; have a0 := cell_below hS a0; have a1 := cell_below hS a1; have b0 := cell_below hS b0; have b1 := cell_below hS b1; go_simp <;> with_reducible rfl)
      try simp only [Act.put, List.setIfInBounds_toArray, List.set_cons_zero, List.set_cons_succ]
      refine wpAnyH_take (i := 23) (oi := { dst := some 73, op := Op.load 24 (Operand.tmp 4), type := 24, pos := "law.go:43", after := #[{ on := 13, ground := Ground.guard }], guard := some (13, true) }) (v := ?_) rfl (by kernel_rfl) (by kernel_rfl) (by kernel_rfl) (fun _ _ _ h => h) (Or.inl ⟨by rfl, ?_⟩) (by assumption) ?_
      rotate_left
      · (intro wS hS; have a0 := cell_below hS a0; have a1 := cell_below hS a1; have b0 := cell_below hS b0; have b1 := cell_below hS b1; go_simp <;> with_reducible rfl)
      try simp only [Act.put, List.setIfInBounds_toArray, List.set_cons_zero, List.set_cons_succ]
      refine wpAnyH_take (i := 24) (oi := { dst := some 74, op := Op.binOp BinOp.neq 24 (Operand.tmp 72) (Operand.tmp 73) 24, type := 4, pos := "law.go:43", after := #[{ on := 22, ground := Ground.data }, { on := 23, ground := Ground.data }, { on := 13, ground := Ground.guard }], guard := some (13, true) }) (v := ?_) rfl (by kernel_rfl) (by kernel_rfl) (by kernel_rfl) (fun _ _ _ h => h) (Or.inl ⟨by rfl, ?_⟩) (by assumption) ?_
      rotate_left
      · (intro wS hS; go_simp <;> with_reducible rfl)
      try simp only [Act.put, List.setIfInBounds_toArray, List.set_cons_zero, List.set_cons_succ]
      refine wpAnyH_ready (rs := [16]) (by kernel_rfl) (by simp) ?_
      refine AllReadyH.cons (o := { dst := some 66, op := Op.call { callee := Callee.value (Operand.func 16), args := #[Operand.tmp 64, Operand.tmp 65], argTypes := #[24, 24] }, type := 4, pos := "law.go:43", after := #[{ on := 14, ground := Ground.data }, { on := 15, ground := Ground.data }, { on := 13, ground := Ground.chain }, { on := 13, ground := Ground.guard }], guard := some (13, true) }) rfl (fun K hK => ?_) AllReadyH.nil
      go_simp
      refine (KL _).out.mono ?_
      rintro e w116 ⟨rfl, hb⟩
      replace hS : (fun W => Below (wc).heap.size (wc) W) w116 := below_then hS hb (Below.size hS)
      refine hK.out _ _ hS (fun _ => ?_)
      clear hK K hb
      try simp only [Act.put, List.setIfInBounds_toArray, List.set_cons_zero, List.set_cons_succ]
      refine wpAnyH_take (i := 17) (oi := { dst := some 67, op := Op.move (Operand.tmp 66), type := 4, pos := "law.go:43", after := #[{ on := 16, ground := Ground.data }, { on := 16, ground := Ground.chain }, { on := 13, ground := Ground.guard }], guard := some (13, true) }) (v := ?_) rfl (by kernel_rfl) (by kernel_rfl) (by kernel_rfl) (fun _ _ _ h => h) (Or.inl ⟨by rfl, ?_⟩) (by assumption) ?_
      rotate_left
      · (intro wS hS; go_simp <;> with_reducible rfl)
      try simp only [Act.put, List.setIfInBounds_toArray, List.set_cons_zero, List.set_cons_succ]
      refine wpAnyH_take (i := 18) (oi := { dst := some 68, op := Op.load 24 (Operand.tmp 4), type := 24, pos := "law.go:43", after := #[{ on := 17, ground := Ground.guard }], guard := some (17, false) }) (v := ?_) rfl (by kernel_rfl) (by kernel_rfl) (by kernel_rfl) (fun _ _ _ h => h) (Or.inl ⟨by rfl, ?_⟩) (by assumption) ?_
      rotate_left
      · (intro wS hS; have a0 := cell_below hS a0; have a1 := cell_below hS a1; have b0 := cell_below hS b0; have b1 := cell_below hS b1; go_simp <;> with_reducible rfl)
      try simp only [Act.put, List.setIfInBounds_toArray, List.set_cons_zero, List.set_cons_succ]
      refine wpAnyH_take (i := 19) (oi := { dst := some 69, op := Op.load 24 (Operand.tmp 3), type := 24, pos := "law.go:43", after := #[{ on := 17, ground := Ground.guard }], guard := some (17, false) }) (v := ?_) rfl (by kernel_rfl) (by kernel_rfl) (by kernel_rfl) (fun _ _ _ h => h) (Or.inl ⟨by rfl, ?_⟩) (by assumption) ?_
      rotate_left
      · (intro wS hS; have a0 := cell_below hS a0; have a1 := cell_below hS a1; have b0 := cell_below hS b0; have b1 := cell_below hS b1; go_simp <;> with_reducible rfl)
      try simp only [Act.put, List.setIfInBounds_toArray, List.set_cons_zero, List.set_cons_succ]
      refine wpAnyH_ready (rs := [20]) (by kernel_rfl) (by simp) ?_
      refine AllReadyH.cons (o := { dst := some 70, op := Op.call { callee := Callee.value (Operand.func 16), args := #[Operand.tmp 68, Operand.tmp 69], argTypes := #[24, 24] }, type := 4, pos := "law.go:43", after := #[{ on := 18, ground := Ground.data }, { on := 19, ground := Ground.data }, { on := 17, ground := Ground.chain }, { on := 17, ground := Ground.guard }], guard := some (17, false) }) rfl (fun K hK => ?_) AllReadyH.nil
      go_simp
      refine (KM _).out.mono ?_
      rintro e w120 ⟨rfl, hb⟩
      replace hS : (fun W => Below (wc).heap.size (wc) W) w120 := below_then hS hb (Below.size hS)
      refine hK.out _ _ hS (fun _ => ?_)
      clear hK K hb
      try simp only [Act.put, List.setIfInBounds_toArray, List.set_cons_zero, List.set_cons_succ]
      refine wpAnyH_take (i := 21) (oi := { dst := some 71, op := Op.pick (Operand.tmp 67) (Operand.const (Value.bool true)) (Operand.tmp 70), type := 4, pos := "law.go:43", after := #[{ on := 17, ground := Ground.data }, { on := 20, ground := Ground.data }, { on := 13, ground := Ground.guard }], guard := some (13, true) }) (v := ?_) rfl (by kernel_rfl) (by kernel_rfl) (by kernel_rfl) (fun _ _ _ h => h) (Or.inl ⟨by rfl, ?_⟩) (by assumption) ?_
      rotate_left
      · (intro wS hS; go_simp <;> with_reducible rfl)
      try simp only [Act.put, List.setIfInBounds_toArray, List.set_cons_zero, List.set_cons_succ]
      refine wpAnyH_take (i := 25) (oi := { dst := some 75, op := Op.binOp BinOp.eql 4 (Operand.tmp 71) (Operand.tmp 74) 4, type := 4, pos := "law.go:43", after := #[{ on := 21, ground := Ground.data }, { on := 24, ground := Ground.data }, { on := 13, ground := Ground.guard }], guard := some (13, true) }) (v := ?_) rfl (by kernel_rfl) (by kernel_rfl) (by kernel_rfl) (fun _ _ _ h => h) (Or.inl ⟨by rfl, ?_⟩) (by assumption) ?_
      rotate_left
      · (intro wS hS; go_simp <;> with_reducible rfl)
      try simp only [Act.put, List.setIfInBounds_toArray, List.set_cons_zero, List.set_cons_succ]
      refine wpAnyH_take (i := 26) (oi := { dst := some 76, op := Op.pick (Operand.tmp 63) (Operand.tmp 75) (Operand.const (Value.bool false)), type := 4, pos := "law.go:43", after := #[{ on := 13, ground := Ground.data }, { on := 25, ground := Ground.data }], guard := none }) (v := ?_) rfl (by kernel_rfl) (by kernel_rfl) (by kernel_rfl) (fun _ _ _ h => h) (Or.inl ⟨by rfl, ?_⟩) (by assumption) ?_
      rotate_left
      · (intro wS hS; go_simp <;> with_reducible rfl)
      try simp only [Act.put, List.setIfInBounds_toArray, List.set_cons_zero, List.set_cons_succ]
      refine wpAnyH_take (i := 27) (oi := { dst := some 6, op := Op.assign (Operand.tmp 76), type := 4, pos := "law.go:43", after := #[{ on := 26, ground := Ground.data }, { on := 20, ground := Ground.chain }, { on := 0, ground := Ground.phase }, { on := 1, ground := Ground.phase }, { on := 2, ground := Ground.phase }, { on := 3, ground := Ground.phase }, { on := 4, ground := Ground.phase }, { on := 5, ground := Ground.phase }, { on := 6, ground := Ground.phase }, { on := 7, ground := Ground.phase }, { on := 8, ground := Ground.phase }, { on := 9, ground := Ground.phase }, { on := 10, ground := Ground.phase }, { on := 11, ground := Ground.phase }, { on := 12, ground := Ground.phase }, { on := 13, ground := Ground.phase }, { on := 14, ground := Ground.phase }, { on := 15, ground := Ground.phase }, { on := 16, ground := Ground.phase }, { on := 17, ground := Ground.phase }, { on := 18, ground := Ground.phase }, { on := 19, ground := Ground.phase }, { on := 20, ground := Ground.phase }, { on := 21, ground := Ground.phase }, { on := 22, ground := Ground.phase }, { on := 23, ground := Ground.phase }, { on := 24, ground := Ground.phase }, { on := 25, ground := Ground.phase }, { on := 26, ground := Ground.phase }], guard := none }) (v := ?_) rfl (by kernel_rfl) (by kernel_rfl) (by kernel_rfl) (fun _ _ _ h => h) (Or.inl ⟨by rfl, ?_⟩) (by assumption) ?_
      rotate_left
      · (intro wS hS; go_simp <;> with_reducible rfl)
      try simp only [Act.put, List.setIfInBounds_toArray, List.set_cons_zero, List.set_cons_succ]
      refine wpAnyH_done (by kernel_rfl) ?_ _
      go_wp2_with fail
      go_ret
      exact ⟨ret_bool (by simp), hB.trans (below_of hS hB.size)⟩
    · have hba : lessB b1v b2v a1v a2v = !(lessB a1v a2v b1v b2v) := by
        rw [Bool.eq_iff_iff]
        simp only [lessB, Bool.or_eq_true, Bool.and_eq_true, decide_eq_true_eq, Bool.not_eq_true', Bool.or_eq_false_iff, Bool.and_eq_false_iff, decide_eq_false_iff_not]
        omega
      have hA : ¬ ((a1v : Int) = b1v) ∨ ((a1v : Int) = b1v ∧ ¬ ((a2v : Int) = b2v)) := by omega
      rw [hba] at KM
      clear hab hba
      cases hl : lessB a1v a2v b1v b2v with
      | true =>
        rw [hl] at KL KM
        clear hl
        rcases hA with hA | ⟨hA, hA2⟩
        · have hA' : ((a1v : Int) == b1v) = false := by simpa using hA
          refine wp_region_held (S := fun W => Below (wc).heap.size (wc) W) (by kernel_rfl) ?_
          change wpAnyH _ _ _ _ _ _ _ _ (wc).drew
          have hS : (fun W => Below (wc).heap.size (wc) W) (wc).drew := (Below.refl _ _).drew
          refine wpAnyH_ready (rs := [0]) (by kernel_rfl) (by simp) ?_
          refine AllReadyH.cons (o := { dst := some 50, op := Op.call { callee := Callee.value (Operand.func 9), args := #[], argTypes := #[] }, type := 4, pos := "law.go:43", after := #[], guard := none }) rfl (fun K hK => ?_) AllReadyH.nil
          go_simp
          refine (awake08_any _).mono ?_
          rintro e w100 ⟨rfl, hb⟩
          replace hS : (fun W => Below (wc).heap.size (wc) W) w100 := below_then hS hb (Below.size hS)
          refine hK.out _ _ hS (fun _ => ?_)
          clear hK K hb
          try simp only [Act.put, List.setIfInBounds_toArray, List.set_cons_zero, List.set_cons_succ]
          refine wpAnyH_take (i := 1) (oi := { dst := some 51, op := Op.move (Operand.tmp 50), type := 4, pos := "law.go:43", after := #[{ on := 0, ground := Ground.data }, { on := 0, ground := Ground.chain }], guard := none }) (v := ?_) rfl (by kernel_rfl) (by kernel_rfl) (by kernel_rfl) (fun _ _ _ h => h) (Or.inl ⟨by rfl, ?_⟩) (by assumption) ?_
          rotate_left
          · (intro wS hS; go_simp <;> with_reducible rfl)
          try simp only [Act.put, List.setIfInBounds_toArray, List.set_cons_zero, List.set_cons_succ]
          refine wpAnyH_take (i := 3) (oi := { dst := some 53, op := Op.build 24 #[], type := 24, pos := "law.go:43", after := #[{ on := 1, ground := Ground.guard }], guard := some (1, true) }) (v := ?_) rfl (by kernel_rfl) (by kernel_rfl) (by kernel_rfl) (fun _ _ _ h => h) (Or.inl ⟨by rfl, ?_⟩) (by assumption) ?_
          rotate_left
          · (intro wS hS; go_simp <;> with_reducible rfl)
          try simp only [Act.put, List.setIfInBounds_toArray, List.set_cons_zero, List.set_cons_succ]
          refine wpAnyH_ready (rs := [2]) (by kernel_rfl) (by simp) ?_
          refine AllReadyH.cons (o := { dst := some 52, op := Op.call { callee := Callee.value (Operand.func 15), args := #[Operand.const (Value.slice none 0 0)], argTypes := #[57] }, type := 24, pos := "law.go:43", after := #[{ on := 1, ground := Ground.chain }, { on := 1, ground := Ground.guard }], guard := some (1, true) }) rfl (fun K hK => ?_) AllReadyH.nil
          go_simp
          refine (KN _).out.mono ?_
          rintro e w102 ⟨rfl, hb⟩
          replace hS : (fun W => Below (wc).heap.size (wc) W) w102 := below_then hS hb (Below.size hS)
          refine hK.out _ _ hS (fun _ => ?_)
          clear hK K hb
          try simp only [Act.put, List.setIfInBounds_toArray, List.set_cons_zero, List.set_cons_succ]
          refine wpAnyH_take (i := 4) (oi := { dst := some 54, op := Op.binOp BinOp.eql 24 (Operand.tmp 52) (Operand.tmp 53) 24, type := 4, pos := "law.go:43", after := #[{ on := 2, ground := Ground.data }, { on := 3, ground := Ground.data }, { on := 1, ground := Ground.guard }], guard := some (1, true) }) (v := ?_) rfl (by kernel_rfl) (by kernel_rfl) (by kernel_rfl) (fun _ _ _ h => h) (Or.inl ⟨by rfl, ?_⟩) (by assumption) ?_
          rotate_left
          · (intro wS hS; go_simp <;> with_reducible rfl)
          try simp only [Act.put, List.setIfInBounds_toArray, List.set_cons_zero, List.set_cons_succ]
          refine wpAnyH_take (i := 5) (oi := { dst := some 55, op := Op.pick (Operand.tmp 51) (Operand.tmp 54) (Operand.const (Value.bool false)), type := 4, pos := "law.go:43", after := #[{ on := 1, ground := Ground.data }, { on := 4, ground := Ground.data }], guard := none }) (v := ?_) rfl (by kernel_rfl) (by kernel_rfl) (by kernel_rfl) (fun _ _ _ h => h) (Or.inl ⟨by rfl, ?_⟩) (by assumption) ?_
          rotate_left
          · (intro wS hS; go_simp <;> with_reducible rfl)
          try simp only [Act.put, List.setIfInBounds_toArray, List.set_cons_zero, List.set_cons_succ]
          refine wpAnyH_take (i := 6) (oi := { dst := some 56, op := Op.move (Operand.tmp 55), type := 4, pos := "law.go:43", after := #[{ on := 5, ground := Ground.data }, { on := 2, ground := Ground.chain }], guard := none }) (v := ?_) rfl (by kernel_rfl) (by kernel_rfl) (by kernel_rfl) (fun _ _ _ h => h) (Or.inl ⟨by rfl, ?_⟩) (by assumption) ?_
          rotate_left
          · (intro wS hS; go_simp <;> with_reducible rfl)
          try simp only [Act.put, List.setIfInBounds_toArray, List.set_cons_zero, List.set_cons_succ]
          refine wpAnyH_take (i := 7) (oi := { dst := some 57, op := Op.load 24 (Operand.tmp 4), type := 24, pos := "law.go:43", after := #[{ on := 6, ground := Ground.guard }], guard := some (6, true) }) (v := ?_) rfl (by kernel_rfl) (by kernel_rfl) (by kernel_rfl) (fun _ _ _ h => h) (Or.inl ⟨by rfl, ?_⟩) (by assumption) ?_
          rotate_left
          · (intro wS hS; have a0 := cell_below hS a0; have a1 := cell_below hS a1; have b0 := cell_below hS b0; have b1 := cell_below hS b1; go_simp <;> with_reducible rfl)
          try simp only [Act.put, List.setIfInBounds_toArray, List.set_cons_zero, List.set_cons_succ]
          refine wpAnyH_take (i := 10) (oi := { dst := some 60, op := Op.load 24 (Operand.tmp 4), type := 24, pos := "law.go:43", after := #[{ on := 6, ground := Ground.guard }], guard := some (6, true) }) (v := ?_) rfl (by kernel_rfl) (by kernel_rfl) (by kernel_rfl) (fun _ _ _ h => h) (Or.inl ⟨by rfl, ?_⟩) (by assumption) ?_
          rotate_left
          · (intro wS hS; have a0 := cell_below hS a0; have a1 := cell_below hS a1; have b0 := cell_below hS b0; have b1 := cell_below hS b1; go_simp <;> with_reducible rfl)
          try simp only [Act.put, List.setIfInBounds_toArray, List.set_cons_zero, List.set_cons_succ]
          refine wpAnyH_ready (rs := [8]) (by kernel_rfl) (by simp) ?_
          refine AllReadyH.cons (o := { dst := some 58, op := Op.buildSlice 57 1 #[(0, Operand.tmp 57)], type := 57, pos := "law.go:43", after := #[{ on := 7, ground := Ground.data }, { on := 6, ground := Ground.guard }], guard := some (6, true) }) rfl (fun K hK => ?_) AllReadyH.nil
          go_simp
          refine (fun (h : (fun W => Below (wc).heap.size (wc) W) _) => hK.out _ _ h (fun _ => ?_)) (Below.alloc hS (Below.size hS) _)
          replace hS := h
          clear h
          clear hK K
          try simp only [Act.put, List.setIfInBounds_toArray, List.set_cons_zero, List.set_cons_succ]
          refine wpAnyH_ready (rs := [9]) (by kernel_rfl) (by simp) ?_
          refine AllReadyH.cons (o := { dst := some 59, op := Op.call { callee := Callee.value (Operand.func 15), args := #[Operand.tmp 58], argTypes := #[57] }, type := 24, pos := "law.go:43", after := #[{ on := 8, ground := Ground.data }, { on := 6, ground := Ground.chain }, { on := 6, ground := Ground.guard }], guard := some (6, true) }) rfl (fun K hK => ?_) AllReadyH.nil
          go_simp
          refine (KB _).out.mono ?_
          rintro e w109 ⟨rfl, hb⟩
          replace hS : (fun W => Below (wc).heap.size (wc) W) w109 := below_then hS hb (Below.size hS)
          refine hK.out _ _ hS (fun _ => ?_)
          clear hK K hb
          try simp only [Act.put, List.setIfInBounds_toArray, List.set_cons_zero, List.set_cons_succ]
          refine wpAnyH_take (i := 11) (oi := { dst := some 61, op := Op.binOp BinOp.eql 24 (Operand.tmp 59) (Operand.tmp 60) 24, type := 4, pos := "law.go:43", after := #[{ on := 9, ground := Ground.data }, { on := 10, ground := Ground.data }, { on := 6, ground := Ground.guard }], guard := some (6, true) }) (v := ?_) rfl (by kernel_rfl) (by kernel_rfl) (by kernel_rfl) (fun _ _ _ h => h) (Or.inl ⟨by rfl, ?_⟩) (by assumption) ?_
          rotate_left
          · (intro wS hS; go_simp <;> with_reducible rfl)
          try simp only [Act.put, List.setIfInBounds_toArray, List.set_cons_zero, List.set_cons_succ]
          refine wpAnyH_take (i := 12) (oi := { dst := some 62, op := Op.pick (Operand.tmp 56) (Operand.tmp 61) (Operand.const (Value.bool false)), type := 4, pos := "law.go:43", after := #[{ on := 6, ground := Ground.data }, { on := 11, ground := Ground.data }], guard := none }) (v := ?_) rfl (by kernel_rfl) (by kernel_rfl) (by kernel_rfl) (fun _ _ _ h => h) (Or.inl ⟨by rfl, ?_⟩) (by assumption) ?_
          rotate_left
          · (intro wS hS; go_simp <;> with_reducible rfl)
          try simp only [Act.put, List.setIfInBounds_toArray, List.set_cons_zero, List.set_cons_succ]
          refine wpAnyH_take (i := 13) (oi := { dst := some 63, op := Op.move (Operand.tmp 62), type := 4, pos := "law.go:43", after := #[{ on := 12, ground := Ground.data }, { on := 9, ground := Ground.chain }], guard := none }) (v := ?_) rfl (by kernel_rfl) (by kernel_rfl) (by kernel_rfl) (fun _ _ _ h => h) (Or.inl ⟨by rfl, ?_⟩) (by assumption) ?_
          rotate_left
          · (intro wS hS; go_simp <;> with_reducible rfl)
          try simp only [Act.put, List.setIfInBounds_toArray, List.set_cons_zero, List.set_cons_succ]
          refine wpAnyH_take (i := 14) (oi := { dst := some 64, op := Op.load 24 (Operand.tmp 3), type := 24, pos := "law.go:43", after := #[{ on := 13, ground := Ground.guard }], guard := some (13, true) }) (v := ?_) rfl (by kernel_rfl) (by kernel_rfl) (by kernel_rfl) (fun _ _ _ h => h) (Or.inl ⟨by rfl, ?_⟩) (by assumption) ?_
          rotate_left
          · (intro wS hS; have a0 := cell_below hS a0; have a1 := cell_below hS a1; have b0 := cell_below hS b0; have b1 := cell_below hS b1; go_simp <;> with_reducible rfl)
          try simp only [Act.put, List.setIfInBounds_toArray, List.set_cons_zero, List.set_cons_succ]
          refine wpAnyH_take (i := 15) (oi := { dst := some 65, op := Op.load 24 (Operand.tmp 4), type := 24, pos := "law.go:43", after := #[{ on := 13, ground := Ground.guard }], guard := some (13, true) }) (v := ?_) rfl (by kernel_rfl) (by kernel_rfl) (by kernel_rfl) (fun _ _ _ h => h) (Or.inl ⟨by rfl, ?_⟩) (by assumption) ?_
          rotate_left
          · (intro wS hS; have a0 := cell_below hS a0; have a1 := cell_below hS a1; have b0 := cell_below hS b0; have b1 := cell_below hS b1; go_simp <;> with_reducible rfl)
          try simp only [Act.put, List.setIfInBounds_toArray, List.set_cons_zero, List.set_cons_succ]
          refine wpAnyH_take (i := 22) (oi := { dst := some 72, op := Op.load 24 (Operand.tmp 3), type := 24, pos := "law.go:43", after := #[{ on := 13, ground := Ground.guard }], guard := some (13, true) }) (v := ?_) rfl (by kernel_rfl) (by kernel_rfl) (by kernel_rfl) (fun _ _ _ h => h) (Or.inl ⟨by rfl, ?_⟩) (by assumption) ?_
          rotate_left
          · (intro wS hS; have a0 := cell_below hS a0; have a1 := cell_below hS a1; have b0 := cell_below hS b0; have b1 := cell_below hS b1; go_simp <;> with_reducible rfl)
          try simp only [Act.put, List.setIfInBounds_toArray, List.set_cons_zero, List.set_cons_succ]
          refine wpAnyH_take (i := 23) (oi := { dst := some 73, op := Op.load 24 (Operand.tmp 4), type := 24, pos := "law.go:43", after := #[{ on := 13, ground := Ground.guard }], guard := some (13, true) }) (v := ?_) rfl (by kernel_rfl) (by kernel_rfl) (by kernel_rfl) (fun _ _ _ h => h) (Or.inl ⟨by rfl, ?_⟩) (by assumption) ?_
          rotate_left
          · (intro wS hS; have a0 := cell_below hS a0; have a1 := cell_below hS a1; have b0 := cell_below hS b0; have b1 := cell_below hS b1; go_simp <;> with_reducible rfl)
          try simp only [Act.put, List.setIfInBounds_toArray, List.set_cons_zero, List.set_cons_succ]
          refine wpAnyH_take (i := 24) (oi := { dst := some 74, op := Op.binOp BinOp.neq 24 (Operand.tmp 72) (Operand.tmp 73) 24, type := 4, pos := "law.go:43", after := #[{ on := 22, ground := Ground.data }, { on := 23, ground := Ground.data }, { on := 13, ground := Ground.guard }], guard := some (13, true) }) (v := ?_) rfl (by kernel_rfl) (by kernel_rfl) (by kernel_rfl) (fun _ _ _ h => h) (Or.inl ⟨by rfl, ?_⟩) (by assumption) ?_
          rotate_left
          · (intro wS hS; go_simp <;> with_reducible rfl)
          try simp only [Act.put, List.setIfInBounds_toArray, List.set_cons_zero, List.set_cons_succ]
          refine wpAnyH_ready (rs := [16]) (by kernel_rfl) (by simp) ?_
          refine AllReadyH.cons (o := { dst := some 66, op := Op.call { callee := Callee.value (Operand.func 16), args := #[Operand.tmp 64, Operand.tmp 65], argTypes := #[24, 24] }, type := 4, pos := "law.go:43", after := #[{ on := 14, ground := Ground.data }, { on := 15, ground := Ground.data }, { on := 13, ground := Ground.chain }, { on := 13, ground := Ground.guard }], guard := some (13, true) }) rfl (fun K hK => ?_) AllReadyH.nil
          go_simp
          refine (KL _).out.mono ?_
          rintro e w116 ⟨rfl, hb⟩
          replace hS : (fun W => Below (wc).heap.size (wc) W) w116 := below_then hS hb (Below.size hS)
          refine hK.out _ _ hS (fun _ => ?_)
          clear hK K hb
          try simp only [Act.put, List.setIfInBounds_toArray, List.set_cons_zero, List.set_cons_succ]
          refine wpAnyH_take (i := 17) (oi := { dst := some 67, op := Op.move (Operand.tmp 66), type := 4, pos := "law.go:43", after := #[{ on := 16, ground := Ground.data }, { on := 16, ground := Ground.chain }, { on := 13, ground := Ground.guard }], guard := some (13, true) }) (v := ?_) rfl (by kernel_rfl) (by kernel_rfl) (by kernel_rfl) (fun _ _ _ h => h) (Or.inl ⟨by rfl, ?_⟩) (by assumption) ?_
          rotate_left
          · (intro wS hS; go_simp <;> with_reducible rfl)
          try simp only [Act.put, List.setIfInBounds_toArray, List.set_cons_zero, List.set_cons_succ]
          refine wpAnyH_take (i := 18) (oi := { dst := some 68, op := Op.load 24 (Operand.tmp 4), type := 24, pos := "law.go:43", after := #[{ on := 17, ground := Ground.guard }], guard := some (17, false) }) (v := undef) rfl (by kernel_rfl) (by kernel_rfl) (by kernel_rfl) (fun _ _ _ h => h) (Or.inr ⟨by rfl, rfl⟩) (by assumption) ?_
          try simp only [Act.put, List.setIfInBounds_toArray, List.set_cons_zero, List.set_cons_succ]
          refine wpAnyH_take (i := 19) (oi := { dst := some 69, op := Op.load 24 (Operand.tmp 3), type := 24, pos := "law.go:43", after := #[{ on := 17, ground := Ground.guard }], guard := some (17, false) }) (v := undef) rfl (by kernel_rfl) (by kernel_rfl) (by kernel_rfl) (fun _ _ _ h => h) (Or.inr ⟨by rfl, rfl⟩) (by assumption) ?_
          try simp only [Act.put, List.setIfInBounds_toArray, List.set_cons_zero, List.set_cons_succ]
          refine wpAnyH_take (i := 20) (oi := { dst := some 70, op := Op.call { callee := Callee.value (Operand.func 16), args := #[Operand.tmp 68, Operand.tmp 69], argTypes := #[24, 24] }, type := 4, pos := "law.go:43", after := #[{ on := 18, ground := Ground.data }, { on := 19, ground := Ground.data }, { on := 17, ground := Ground.chain }, { on := 17, ground := Ground.guard }], guard := some (17, false) }) (v := undef) rfl (by kernel_rfl) (by kernel_rfl) (by kernel_rfl) (fun _ _ _ h => h) (Or.inr ⟨by rfl, rfl⟩) (by assumption) ?_
          try simp only [Act.put, List.setIfInBounds_toArray, List.set_cons_zero, List.set_cons_succ]
          refine wpAnyH_take (i := 21) (oi := { dst := some 71, op := Op.pick (Operand.tmp 67) (Operand.const (Value.bool true)) (Operand.tmp 70), type := 4, pos := "law.go:43", after := #[{ on := 17, ground := Ground.data }, { on := 20, ground := Ground.data }, { on := 13, ground := Ground.guard }], guard := some (13, true) }) (v := ?_) rfl (by kernel_rfl) (by kernel_rfl) (by kernel_rfl) (fun _ _ _ h => h) (Or.inl ⟨by rfl, ?_⟩) (by assumption) ?_
          rotate_left
          · (intro wS hS; go_simp <;> with_reducible rfl)
          try simp only [Act.put, List.setIfInBounds_toArray, List.set_cons_zero, List.set_cons_succ]
          refine wpAnyH_take (i := 25) (oi := { dst := some 75, op := Op.binOp BinOp.eql 4 (Operand.tmp 71) (Operand.tmp 74) 4, type := 4, pos := "law.go:43", after := #[{ on := 21, ground := Ground.data }, { on := 24, ground := Ground.data }, { on := 13, ground := Ground.guard }], guard := some (13, true) }) (v := ?_) rfl (by kernel_rfl) (by kernel_rfl) (by kernel_rfl) (fun _ _ _ h => h) (Or.inl ⟨by rfl, ?_⟩) (by assumption) ?_
          rotate_left
          · (intro wS hS; go_simp <;> with_reducible rfl)
          try simp only [Act.put, List.setIfInBounds_toArray, List.set_cons_zero, List.set_cons_succ]
          refine wpAnyH_take (i := 26) (oi := { dst := some 76, op := Op.pick (Operand.tmp 63) (Operand.tmp 75) (Operand.const (Value.bool false)), type := 4, pos := "law.go:43", after := #[{ on := 13, ground := Ground.data }, { on := 25, ground := Ground.data }], guard := none }) (v := ?_) rfl (by kernel_rfl) (by kernel_rfl) (by kernel_rfl) (fun _ _ _ h => h) (Or.inl ⟨by rfl, ?_⟩) (by assumption) ?_
          rotate_left
          · (intro wS hS; go_simp <;> with_reducible rfl)
          try simp only [Act.put, List.setIfInBounds_toArray, List.set_cons_zero, List.set_cons_succ]
          refine wpAnyH_take (i := 27) (oi := { dst := some 6, op := Op.assign (Operand.tmp 76), type := 4, pos := "law.go:43", after := #[{ on := 26, ground := Ground.data }, { on := 20, ground := Ground.chain }, { on := 0, ground := Ground.phase }, { on := 1, ground := Ground.phase }, { on := 2, ground := Ground.phase }, { on := 3, ground := Ground.phase }, { on := 4, ground := Ground.phase }, { on := 5, ground := Ground.phase }, { on := 6, ground := Ground.phase }, { on := 7, ground := Ground.phase }, { on := 8, ground := Ground.phase }, { on := 9, ground := Ground.phase }, { on := 10, ground := Ground.phase }, { on := 11, ground := Ground.phase }, { on := 12, ground := Ground.phase }, { on := 13, ground := Ground.phase }, { on := 14, ground := Ground.phase }, { on := 15, ground := Ground.phase }, { on := 16, ground := Ground.phase }, { on := 17, ground := Ground.phase }, { on := 18, ground := Ground.phase }, { on := 19, ground := Ground.phase }, { on := 20, ground := Ground.phase }, { on := 21, ground := Ground.phase }, { on := 22, ground := Ground.phase }, { on := 23, ground := Ground.phase }, { on := 24, ground := Ground.phase }, { on := 25, ground := Ground.phase }, { on := 26, ground := Ground.phase }], guard := none }) (v := ?_) rfl (by kernel_rfl) (by kernel_rfl) (by kernel_rfl) (fun _ _ _ h => h) (Or.inl ⟨by rfl, ?_⟩) (by assumption) ?_
          rotate_left
          · (intro wS hS; go_simp <;> with_reducible rfl)
          try simp only [Act.put, List.setIfInBounds_toArray, List.set_cons_zero, List.set_cons_succ]
          refine wpAnyH_done (by kernel_rfl) ?_ _
          go_wp2_with fail
          go_ret
          exact ⟨ret_bool (by simp), hB.trans (below_of hS hB.size)⟩
        · have hA' : ((a2v : Int) == b2v) = false := by simpa using hA2
          have eA : a1v = b1v := by omega
          clear hA
          subst eA
          refine wp_region_held (S := fun W => Below (wc).heap.size (wc) W) (by kernel_rfl) ?_
          change wpAnyH _ _ _ _ _ _ _ _ (wc).drew
          have hS : (fun W => Below (wc).heap.size (wc) W) (wc).drew := (Below.refl _ _).drew
          refine wpAnyH_ready (rs := [0]) (by kernel_rfl) (by simp) ?_
          refine AllReadyH.cons (o := { dst := some 50, op := Op.call { callee := Callee.value (Operand.func 9), args := #[], argTypes := #[] }, type := 4, pos := "law.go:43", after := #[], guard := none }) rfl (fun K hK => ?_) AllReadyH.nil
          go_simp
          refine (awake08_any _).mono ?_
          rintro e w100 ⟨rfl, hb⟩
          replace hS : (fun W => Below (wc).heap.size (wc) W) w100 := below_then hS hb (Below.size hS)
          refine hK.out _ _ hS (fun _ => ?_)
          clear hK K hb
          try simp only [Act.put, List.setIfInBounds_toArray, List.set_cons_zero, List.set_cons_succ]
          refine wpAnyH_take (i := 1) (oi := { dst := some 51, op := Op.move (Operand.tmp 50), type := 4, pos := "law.go:43", after := #[{ on := 0, ground := Ground.data }, { on := 0, ground := Ground.chain }], guard := none }) (v := ?_) rfl (by kernel_rfl) (by kernel_rfl) (by kernel_rfl) (fun _ _ _ h => h) (Or.inl ⟨by rfl, ?_⟩) (by assumption) ?_
          rotate_left
          · (intro wS hS; go_simp <;> with_reducible rfl)
          try simp only [Act.put, List.setIfInBounds_toArray, List.set_cons_zero, List.set_cons_succ]
          refine wpAnyH_take (i := 3) (oi := { dst := some 53, op := Op.build 24 #[], type := 24, pos := "law.go:43", after := #[{ on := 1, ground := Ground.guard }], guard := some (1, true) }) (v := ?_) rfl (by kernel_rfl) (by kernel_rfl) (by kernel_rfl) (fun _ _ _ h => h) (Or.inl ⟨by rfl, ?_⟩) (by assumption) ?_
          rotate_left
          · (intro wS hS; go_simp <;> with_reducible rfl)
          try simp only [Act.put, List.setIfInBounds_toArray, List.set_cons_zero, List.set_cons_succ]
          refine wpAnyH_ready (rs := [2]) (by kernel_rfl) (by simp) ?_
          refine AllReadyH.cons (o := { dst := some 52, op := Op.call { callee := Callee.value (Operand.func 15), args := #[Operand.const (Value.slice none 0 0)], argTypes := #[57] }, type := 24, pos := "law.go:43", after := #[{ on := 1, ground := Ground.chain }, { on := 1, ground := Ground.guard }], guard := some (1, true) }) rfl (fun K hK => ?_) AllReadyH.nil
          go_simp
          refine (KN _).out.mono ?_
          rintro e w102 ⟨rfl, hb⟩
          replace hS : (fun W => Below (wc).heap.size (wc) W) w102 := below_then hS hb (Below.size hS)
          refine hK.out _ _ hS (fun _ => ?_)
          clear hK K hb
          try simp only [Act.put, List.setIfInBounds_toArray, List.set_cons_zero, List.set_cons_succ]
          refine wpAnyH_take (i := 4) (oi := { dst := some 54, op := Op.binOp BinOp.eql 24 (Operand.tmp 52) (Operand.tmp 53) 24, type := 4, pos := "law.go:43", after := #[{ on := 2, ground := Ground.data }, { on := 3, ground := Ground.data }, { on := 1, ground := Ground.guard }], guard := some (1, true) }) (v := ?_) rfl (by kernel_rfl) (by kernel_rfl) (by kernel_rfl) (fun _ _ _ h => h) (Or.inl ⟨by rfl, ?_⟩) (by assumption) ?_
          rotate_left
          · (intro wS hS; go_simp <;> with_reducible rfl)
          try simp only [Act.put, List.setIfInBounds_toArray, List.set_cons_zero, List.set_cons_succ]
          refine wpAnyH_take (i := 5) (oi := { dst := some 55, op := Op.pick (Operand.tmp 51) (Operand.tmp 54) (Operand.const (Value.bool false)), type := 4, pos := "law.go:43", after := #[{ on := 1, ground := Ground.data }, { on := 4, ground := Ground.data }], guard := none }) (v := ?_) rfl (by kernel_rfl) (by kernel_rfl) (by kernel_rfl) (fun _ _ _ h => h) (Or.inl ⟨by rfl, ?_⟩) (by assumption) ?_
          rotate_left
          · (intro wS hS; go_simp <;> with_reducible rfl)
          try simp only [Act.put, List.setIfInBounds_toArray, List.set_cons_zero, List.set_cons_succ]
          refine wpAnyH_take (i := 6) (oi := { dst := some 56, op := Op.move (Operand.tmp 55), type := 4, pos := "law.go:43", after := #[{ on := 5, ground := Ground.data }, { on := 2, ground := Ground.chain }], guard := none }) (v := ?_) rfl (by kernel_rfl) (by kernel_rfl) (by kernel_rfl) (fun _ _ _ h => h) (Or.inl ⟨by rfl, ?_⟩) (by assumption) ?_
          rotate_left
          · (intro wS hS; go_simp <;> with_reducible rfl)
          try simp only [Act.put, List.setIfInBounds_toArray, List.set_cons_zero, List.set_cons_succ]
          refine wpAnyH_take (i := 7) (oi := { dst := some 57, op := Op.load 24 (Operand.tmp 4), type := 24, pos := "law.go:43", after := #[{ on := 6, ground := Ground.guard }], guard := some (6, true) }) (v := ?_) rfl (by kernel_rfl) (by kernel_rfl) (by kernel_rfl) (fun _ _ _ h => h) (Or.inl ⟨by rfl, ?_⟩) (by assumption) ?_
          rotate_left
          · (intro wS hS; have a0 := cell_below hS a0; have a1 := cell_below hS a1; have b0 := cell_below hS b0; have b1 := cell_below hS b1; go_simp <;> with_reducible rfl)
          try simp only [Act.put, List.setIfInBounds_toArray, List.set_cons_zero, List.set_cons_succ]
          refine wpAnyH_take (i := 10) (oi := { dst := some 60, op := Op.load 24 (Operand.tmp 4), type := 24, pos := "law.go:43", after := #[{ on := 6, ground := Ground.guard }], guard := some (6, true) }) (v := ?_) rfl (by kernel_rfl) (by kernel_rfl) (by kernel_rfl) (fun _ _ _ h => h) (Or.inl ⟨by rfl, ?_⟩) (by assumption) ?_
          rotate_left
          · (intro wS hS; have a0 := cell_below hS a0; have a1 := cell_below hS a1; have b0 := cell_below hS b0; have b1 := cell_below hS b1; go_simp <;> with_reducible rfl)
          try simp only [Act.put, List.setIfInBounds_toArray, List.set_cons_zero, List.set_cons_succ]
          refine wpAnyH_ready (rs := [8]) (by kernel_rfl) (by simp) ?_
          refine AllReadyH.cons (o := { dst := some 58, op := Op.buildSlice 57 1 #[(0, Operand.tmp 57)], type := 57, pos := "law.go:43", after := #[{ on := 7, ground := Ground.data }, { on := 6, ground := Ground.guard }], guard := some (6, true) }) rfl (fun K hK => ?_) AllReadyH.nil
          go_simp
          refine (fun (h : (fun W => Below (wc).heap.size (wc) W) _) => hK.out _ _ h (fun _ => ?_)) (Below.alloc hS (Below.size hS) _)
          replace hS := h
          clear h
          clear hK K
          try simp only [Act.put, List.setIfInBounds_toArray, List.set_cons_zero, List.set_cons_succ]
          refine wpAnyH_ready (rs := [9]) (by kernel_rfl) (by simp) ?_
          refine AllReadyH.cons (o := { dst := some 59, op := Op.call { callee := Callee.value (Operand.func 15), args := #[Operand.tmp 58], argTypes := #[57] }, type := 24, pos := "law.go:43", after := #[{ on := 8, ground := Ground.data }, { on := 6, ground := Ground.chain }, { on := 6, ground := Ground.guard }], guard := some (6, true) }) rfl (fun K hK => ?_) AllReadyH.nil
          go_simp
          refine (KB _).out.mono ?_
          rintro e w109 ⟨rfl, hb⟩
          replace hS : (fun W => Below (wc).heap.size (wc) W) w109 := below_then hS hb (Below.size hS)
          refine hK.out _ _ hS (fun _ => ?_)
          clear hK K hb
          try simp only [Act.put, List.setIfInBounds_toArray, List.set_cons_zero, List.set_cons_succ]
          refine wpAnyH_take (i := 11) (oi := { dst := some 61, op := Op.binOp BinOp.eql 24 (Operand.tmp 59) (Operand.tmp 60) 24, type := 4, pos := "law.go:43", after := #[{ on := 9, ground := Ground.data }, { on := 10, ground := Ground.data }, { on := 6, ground := Ground.guard }], guard := some (6, true) }) (v := ?_) rfl (by kernel_rfl) (by kernel_rfl) (by kernel_rfl) (fun _ _ _ h => h) (Or.inl ⟨by rfl, ?_⟩) (by assumption) ?_
          rotate_left
          · (intro wS hS; go_simp <;> with_reducible rfl)
          try simp only [Act.put, List.setIfInBounds_toArray, List.set_cons_zero, List.set_cons_succ]
          refine wpAnyH_take (i := 12) (oi := { dst := some 62, op := Op.pick (Operand.tmp 56) (Operand.tmp 61) (Operand.const (Value.bool false)), type := 4, pos := "law.go:43", after := #[{ on := 6, ground := Ground.data }, { on := 11, ground := Ground.data }], guard := none }) (v := ?_) rfl (by kernel_rfl) (by kernel_rfl) (by kernel_rfl) (fun _ _ _ h => h) (Or.inl ⟨by rfl, ?_⟩) (by assumption) ?_
          rotate_left
          · (intro wS hS; go_simp <;> with_reducible rfl)
          try simp only [Act.put, List.setIfInBounds_toArray, List.set_cons_zero, List.set_cons_succ]
          refine wpAnyH_take (i := 13) (oi := { dst := some 63, op := Op.move (Operand.tmp 62), type := 4, pos := "law.go:43", after := #[{ on := 12, ground := Ground.data }, { on := 9, ground := Ground.chain }], guard := none }) (v := ?_) rfl (by kernel_rfl) (by kernel_rfl) (by kernel_rfl) (fun _ _ _ h => h) (Or.inl ⟨by rfl, ?_⟩) (by assumption) ?_
          rotate_left
          · (intro wS hS; go_simp <;> with_reducible rfl)
          try simp only [Act.put, List.setIfInBounds_toArray, List.set_cons_zero, List.set_cons_succ]
          refine wpAnyH_take (i := 14) (oi := { dst := some 64, op := Op.load 24 (Operand.tmp 3), type := 24, pos := "law.go:43", after := #[{ on := 13, ground := Ground.guard }], guard := some (13, true) }) (v := ?_) rfl (by kernel_rfl) (by kernel_rfl) (by kernel_rfl) (fun _ _ _ h => h) (Or.inl ⟨by rfl, ?_⟩) (by assumption) ?_
          rotate_left
          · (intro wS hS; have a0 := cell_below hS a0; have a1 := cell_below hS a1; have b0 := cell_below hS b0; have b1 := cell_below hS b1; go_simp <;> with_reducible rfl)
          try simp only [Act.put, List.setIfInBounds_toArray, List.set_cons_zero, List.set_cons_succ]
          refine wpAnyH_take (i := 15) (oi := { dst := some 65, op := Op.load 24 (Operand.tmp 4), type := 24, pos := "law.go:43", after := #[{ on := 13, ground := Ground.guard }], guard := some (13, true) }) (v := ?_) rfl (by kernel_rfl) (by kernel_rfl) (by kernel_rfl) (fun _ _ _ h => h) (Or.inl ⟨by rfl, ?_⟩) (by assumption) ?_
          rotate_left
          · (intro wS hS; have a0 := cell_below hS a0; have a1 := cell_below hS a1; have b0 := cell_below hS b0; have b1 := cell_below hS b1; go_simp <;> with_reducible rfl)
          try simp only [Act.put, List.setIfInBounds_toArray, List.set_cons_zero, List.set_cons_succ]
          refine wpAnyH_take (i := 22) (oi := { dst := some 72, op := Op.load 24 (Operand.tmp 3), type := 24, pos := "law.go:43", after := #[{ on := 13, ground := Ground.guard }], guard := some (13, true) }) (v := ?_) rfl (by kernel_rfl) (by kernel_rfl) (by kernel_rfl) (fun _ _ _ h => h) (Or.inl ⟨by rfl, ?_⟩) (by assumption) ?_
          rotate_left
          · (intro wS hS; have a0 := cell_below hS a0; have a1 := cell_below hS a1; have b0 := cell_below hS b0; have b1 := cell_below hS b1; go_simp <;> with_reducible rfl)
          try simp only [Act.put, List.setIfInBounds_toArray, List.set_cons_zero, List.set_cons_succ]
          refine wpAnyH_take (i := 23) (oi := { dst := some 73, op := Op.load 24 (Operand.tmp 4), type := 24, pos := "law.go:43", after := #[{ on := 13, ground := Ground.guard }], guard := some (13, true) }) (v := ?_) rfl (by kernel_rfl) (by kernel_rfl) (by kernel_rfl) (fun _ _ _ h => h) (Or.inl ⟨by rfl, ?_⟩) (by assumption) ?_
          rotate_left
          · (intro wS hS; have a0 := cell_below hS a0; have a1 := cell_below hS a1; have b0 := cell_below hS b0; have b1 := cell_below hS b1; go_simp <;> with_reducible rfl)
          try simp only [Act.put, List.setIfInBounds_toArray, List.set_cons_zero, List.set_cons_succ]
          refine wpAnyH_take (i := 24) (oi := { dst := some 74, op := Op.binOp BinOp.neq 24 (Operand.tmp 72) (Operand.tmp 73) 24, type := 4, pos := "law.go:43", after := #[{ on := 22, ground := Ground.data }, { on := 23, ground := Ground.data }, { on := 13, ground := Ground.guard }], guard := some (13, true) }) (v := ?_) rfl (by kernel_rfl) (by kernel_rfl) (by kernel_rfl) (fun _ _ _ h => h) (Or.inl ⟨by rfl, ?_⟩) (by assumption) ?_
          rotate_left
          · (intro wS hS; go_simp <;> with_reducible rfl)
          try simp only [Act.put, List.setIfInBounds_toArray, List.set_cons_zero, List.set_cons_succ]
          refine wpAnyH_ready (rs := [16]) (by kernel_rfl) (by simp) ?_
          refine AllReadyH.cons (o := { dst := some 66, op := Op.call { callee := Callee.value (Operand.func 16), args := #[Operand.tmp 64, Operand.tmp 65], argTypes := #[24, 24] }, type := 4, pos := "law.go:43", after := #[{ on := 14, ground := Ground.data }, { on := 15, ground := Ground.data }, { on := 13, ground := Ground.chain }, { on := 13, ground := Ground.guard }], guard := some (13, true) }) rfl (fun K hK => ?_) AllReadyH.nil
          go_simp
          refine (KL _).out.mono ?_
          rintro e w116 ⟨rfl, hb⟩
          replace hS : (fun W => Below (wc).heap.size (wc) W) w116 := below_then hS hb (Below.size hS)
          refine hK.out _ _ hS (fun _ => ?_)
          clear hK K hb
          try simp only [Act.put, List.setIfInBounds_toArray, List.set_cons_zero, List.set_cons_succ]
          refine wpAnyH_take (i := 17) (oi := { dst := some 67, op := Op.move (Operand.tmp 66), type := 4, pos := "law.go:43", after := #[{ on := 16, ground := Ground.data }, { on := 16, ground := Ground.chain }, { on := 13, ground := Ground.guard }], guard := some (13, true) }) (v := ?_) rfl (by kernel_rfl) (by kernel_rfl) (by kernel_rfl) (fun _ _ _ h => h) (Or.inl ⟨by rfl, ?_⟩) (by assumption) ?_
          rotate_left
          · (intro wS hS; go_simp <;> with_reducible rfl)
          try simp only [Act.put, List.setIfInBounds_toArray, List.set_cons_zero, List.set_cons_succ]
          refine wpAnyH_take (i := 18) (oi := { dst := some 68, op := Op.load 24 (Operand.tmp 4), type := 24, pos := "law.go:43", after := #[{ on := 17, ground := Ground.guard }], guard := some (17, false) }) (v := undef) rfl (by kernel_rfl) (by kernel_rfl) (by kernel_rfl) (fun _ _ _ h => h) (Or.inr ⟨by rfl, rfl⟩) (by assumption) ?_
          try simp only [Act.put, List.setIfInBounds_toArray, List.set_cons_zero, List.set_cons_succ]
          refine wpAnyH_take (i := 19) (oi := { dst := some 69, op := Op.load 24 (Operand.tmp 3), type := 24, pos := "law.go:43", after := #[{ on := 17, ground := Ground.guard }], guard := some (17, false) }) (v := undef) rfl (by kernel_rfl) (by kernel_rfl) (by kernel_rfl) (fun _ _ _ h => h) (Or.inr ⟨by rfl, rfl⟩) (by assumption) ?_
          try simp only [Act.put, List.setIfInBounds_toArray, List.set_cons_zero, List.set_cons_succ]
          refine wpAnyH_take (i := 20) (oi := { dst := some 70, op := Op.call { callee := Callee.value (Operand.func 16), args := #[Operand.tmp 68, Operand.tmp 69], argTypes := #[24, 24] }, type := 4, pos := "law.go:43", after := #[{ on := 18, ground := Ground.data }, { on := 19, ground := Ground.data }, { on := 17, ground := Ground.chain }, { on := 17, ground := Ground.guard }], guard := some (17, false) }) (v := undef) rfl (by kernel_rfl) (by kernel_rfl) (by kernel_rfl) (fun _ _ _ h => h) (Or.inr ⟨by rfl, rfl⟩) (by assumption) ?_
          try simp only [Act.put, List.setIfInBounds_toArray, List.set_cons_zero, List.set_cons_succ]
          refine wpAnyH_take (i := 21) (oi := { dst := some 71, op := Op.pick (Operand.tmp 67) (Operand.const (Value.bool true)) (Operand.tmp 70), type := 4, pos := "law.go:43", after := #[{ on := 17, ground := Ground.data }, { on := 20, ground := Ground.data }, { on := 13, ground := Ground.guard }], guard := some (13, true) }) (v := ?_) rfl (by kernel_rfl) (by kernel_rfl) (by kernel_rfl) (fun _ _ _ h => h) (Or.inl ⟨by rfl, ?_⟩) (by assumption) ?_
          rotate_left
          · (intro wS hS; go_simp <;> with_reducible rfl)
          try simp only [Act.put, List.setIfInBounds_toArray, List.set_cons_zero, List.set_cons_succ]
          refine wpAnyH_take (i := 25) (oi := { dst := some 75, op := Op.binOp BinOp.eql 4 (Operand.tmp 71) (Operand.tmp 74) 4, type := 4, pos := "law.go:43", after := #[{ on := 21, ground := Ground.data }, { on := 24, ground := Ground.data }, { on := 13, ground := Ground.guard }], guard := some (13, true) }) (v := ?_) rfl (by kernel_rfl) (by kernel_rfl) (by kernel_rfl) (fun _ _ _ h => h) (Or.inl ⟨by rfl, ?_⟩) (by assumption) ?_
          rotate_left
          · (intro wS hS; go_simp <;> with_reducible rfl)
          try simp only [Act.put, List.setIfInBounds_toArray, List.set_cons_zero, List.set_cons_succ]
          refine wpAnyH_take (i := 26) (oi := { dst := some 76, op := Op.pick (Operand.tmp 63) (Operand.tmp 75) (Operand.const (Value.bool false)), type := 4, pos := "law.go:43", after := #[{ on := 13, ground := Ground.data }, { on := 25, ground := Ground.data }], guard := none }) (v := ?_) rfl (by kernel_rfl) (by kernel_rfl) (by kernel_rfl) (fun _ _ _ h => h) (Or.inl ⟨by rfl, ?_⟩) (by assumption) ?_
          rotate_left
          · (intro wS hS; go_simp <;> with_reducible rfl)
          try simp only [Act.put, List.setIfInBounds_toArray, List.set_cons_zero, List.set_cons_succ]
          refine wpAnyH_take (i := 27) (oi := { dst := some 6, op := Op.assign (Operand.tmp 76), type := 4, pos := "law.go:43", after := #[{ on := 26, ground := Ground.data }, { on := 20, ground := Ground.chain }, { on := 0, ground := Ground.phase }, { on := 1, ground := Ground.phase }, { on := 2, ground := Ground.phase }, { on := 3, ground := Ground.phase }, { on := 4, ground := Ground.phase }, { on := 5, ground := Ground.phase }, { on := 6, ground := Ground.phase }, { on := 7, ground := Ground.phase }, { on := 8, ground := Ground.phase }, { on := 9, ground := Ground.phase }, { on := 10, ground := Ground.phase }, { on := 11, ground := Ground.phase }, { on := 12, ground := Ground.phase }, { on := 13, ground := Ground.phase }, { on := 14, ground := Ground.phase }, { on := 15, ground := Ground.phase }, { on := 16, ground := Ground.phase }, { on := 17, ground := Ground.phase }, { on := 18, ground := Ground.phase }, { on := 19, ground := Ground.phase }, { on := 20, ground := Ground.phase }, { on := 21, ground := Ground.phase }, { on := 22, ground := Ground.phase }, { on := 23, ground := Ground.phase }, { on := 24, ground := Ground.phase }, { on := 25, ground := Ground.phase }, { on := 26, ground := Ground.phase }], guard := none }) (v := ?_) rfl (by kernel_rfl) (by kernel_rfl) (by kernel_rfl) (fun _ _ _ h => h) (Or.inl ⟨by rfl, ?_⟩) (by assumption) ?_
          rotate_left
          · (intro wS hS; go_simp <;> with_reducible rfl)
          try simp only [Act.put, List.setIfInBounds_toArray, List.set_cons_zero, List.set_cons_succ]
          refine wpAnyH_done (by kernel_rfl) ?_ _
          go_wp2_with fail
          go_ret
          exact ⟨ret_bool (by simp), hB.trans (below_of hS hB.size)⟩
      | false =>
        rw [hl] at KL KM
        clear hl
        rcases hA with hA | ⟨hA, hA2⟩
        · have hA' : ((a1v : Int) == b1v) = false := by simpa using hA
          refine wp_region_held (S := fun W => Below (wc).heap.size (wc) W) (by kernel_rfl) ?_
          change wpAnyH _ _ _ _ _ _ _ _ (wc).drew
          have hS : (fun W => Below (wc).heap.size (wc) W) (wc).drew := (Below.refl _ _).drew
          refine wpAnyH_ready (rs := [0]) (by kernel_rfl) (by simp) ?_
          refine AllReadyH.cons (o := { dst := some 50, op := Op.call { callee := Callee.value (Operand.func 9), args := #[], argTypes := #[] }, type := 4, pos := "law.go:43", after := #[], guard := none }) rfl (fun K hK => ?_) AllReadyH.nil
          go_simp
          refine (awake08_any _).mono ?_
          rintro e w100 ⟨rfl, hb⟩
          replace hS : (fun W => Below (wc).heap.size (wc) W) w100 := below_then hS hb (Below.size hS)
          refine hK.out _ _ hS (fun _ => ?_)
          clear hK K hb
          try simp only [Act.put, List.setIfInBounds_toArray, List.set_cons_zero, List.set_cons_succ]
          refine wpAnyH_take (i := 1) (oi := { dst := some 51, op := Op.move (Operand.tmp 50), type := 4, pos := "law.go:43", after := #[{ on := 0, ground := Ground.data }, { on := 0, ground := Ground.chain }], guard := none }) (v := ?_) rfl (by kernel_rfl) (by kernel_rfl) (by kernel_rfl) (fun _ _ _ h => h) (Or.inl ⟨by rfl, ?_⟩) (by assumption) ?_
          rotate_left
          · (intro wS hS; go_simp <;> with_reducible rfl)
          try simp only [Act.put, List.setIfInBounds_toArray, List.set_cons_zero, List.set_cons_succ]
          refine wpAnyH_take (i := 3) (oi := { dst := some 53, op := Op.build 24 #[], type := 24, pos := "law.go:43", after := #[{ on := 1, ground := Ground.guard }], guard := some (1, true) }) (v := ?_) rfl (by kernel_rfl) (by kernel_rfl) (by kernel_rfl) (fun _ _ _ h => h) (Or.inl ⟨by rfl, ?_⟩) (by assumption) ?_
          rotate_left
          · (intro wS hS; go_simp <;> with_reducible rfl)
          try simp only [Act.put, List.setIfInBounds_toArray, List.set_cons_zero, List.set_cons_succ]
          refine wpAnyH_ready (rs := [2]) (by kernel_rfl) (by simp) ?_
          refine AllReadyH.cons (o := { dst := some 52, op := Op.call { callee := Callee.value (Operand.func 15), args := #[Operand.const (Value.slice none 0 0)], argTypes := #[57] }, type := 24, pos := "law.go:43", after := #[{ on := 1, ground := Ground.chain }, { on := 1, ground := Ground.guard }], guard := some (1, true) }) rfl (fun K hK => ?_) AllReadyH.nil
          go_simp
          refine (KN _).out.mono ?_
          rintro e w102 ⟨rfl, hb⟩
          replace hS : (fun W => Below (wc).heap.size (wc) W) w102 := below_then hS hb (Below.size hS)
          refine hK.out _ _ hS (fun _ => ?_)
          clear hK K hb
          try simp only [Act.put, List.setIfInBounds_toArray, List.set_cons_zero, List.set_cons_succ]
          refine wpAnyH_take (i := 4) (oi := { dst := some 54, op := Op.binOp BinOp.eql 24 (Operand.tmp 52) (Operand.tmp 53) 24, type := 4, pos := "law.go:43", after := #[{ on := 2, ground := Ground.data }, { on := 3, ground := Ground.data }, { on := 1, ground := Ground.guard }], guard := some (1, true) }) (v := ?_) rfl (by kernel_rfl) (by kernel_rfl) (by kernel_rfl) (fun _ _ _ h => h) (Or.inl ⟨by rfl, ?_⟩) (by assumption) ?_
          rotate_left
          · (intro wS hS; go_simp <;> with_reducible rfl)
          try simp only [Act.put, List.setIfInBounds_toArray, List.set_cons_zero, List.set_cons_succ]
          refine wpAnyH_take (i := 5) (oi := { dst := some 55, op := Op.pick (Operand.tmp 51) (Operand.tmp 54) (Operand.const (Value.bool false)), type := 4, pos := "law.go:43", after := #[{ on := 1, ground := Ground.data }, { on := 4, ground := Ground.data }], guard := none }) (v := ?_) rfl (by kernel_rfl) (by kernel_rfl) (by kernel_rfl) (fun _ _ _ h => h) (Or.inl ⟨by rfl, ?_⟩) (by assumption) ?_
          rotate_left
          · (intro wS hS; go_simp <;> with_reducible rfl)
          try simp only [Act.put, List.setIfInBounds_toArray, List.set_cons_zero, List.set_cons_succ]
          refine wpAnyH_take (i := 6) (oi := { dst := some 56, op := Op.move (Operand.tmp 55), type := 4, pos := "law.go:43", after := #[{ on := 5, ground := Ground.data }, { on := 2, ground := Ground.chain }], guard := none }) (v := ?_) rfl (by kernel_rfl) (by kernel_rfl) (by kernel_rfl) (fun _ _ _ h => h) (Or.inl ⟨by rfl, ?_⟩) (by assumption) ?_
          rotate_left
          · (intro wS hS; go_simp <;> with_reducible rfl)
          try simp only [Act.put, List.setIfInBounds_toArray, List.set_cons_zero, List.set_cons_succ]
          refine wpAnyH_take (i := 7) (oi := { dst := some 57, op := Op.load 24 (Operand.tmp 4), type := 24, pos := "law.go:43", after := #[{ on := 6, ground := Ground.guard }], guard := some (6, true) }) (v := ?_) rfl (by kernel_rfl) (by kernel_rfl) (by kernel_rfl) (fun _ _ _ h => h) (Or.inl ⟨by rfl, ?_⟩) (by assumption) ?_
          rotate_left
          · (intro wS hS; have a0 := cell_below hS a0; have a1 := cell_below hS a1; have b0 := cell_below hS b0; have b1 := cell_below hS b1; go_simp <;> with_reducible rfl)
          try simp only [Act.put, List.setIfInBounds_toArray, List.set_cons_zero, List.set_cons_succ]
          refine wpAnyH_take (i := 10) (oi := { dst := some 60, op := Op.load 24 (Operand.tmp 4), type := 24, pos := "law.go:43", after := #[{ on := 6, ground := Ground.guard }], guard := some (6, true) }) (v := ?_) rfl (by kernel_rfl) (by kernel_rfl) (by kernel_rfl) (fun _ _ _ h => h) (Or.inl ⟨by rfl, ?_⟩) (by assumption) ?_
          rotate_left
          · (intro wS hS; have a0 := cell_below hS a0; have a1 := cell_below hS a1; have b0 := cell_below hS b0; have b1 := cell_below hS b1; go_simp <;> with_reducible rfl)
          try simp only [Act.put, List.setIfInBounds_toArray, List.set_cons_zero, List.set_cons_succ]
          refine wpAnyH_ready (rs := [8]) (by kernel_rfl) (by simp) ?_
          refine AllReadyH.cons (o := { dst := some 58, op := Op.buildSlice 57 1 #[(0, Operand.tmp 57)], type := 57, pos := "law.go:43", after := #[{ on := 7, ground := Ground.data }, { on := 6, ground := Ground.guard }], guard := some (6, true) }) rfl (fun K hK => ?_) AllReadyH.nil
          go_simp
          refine (fun (h : (fun W => Below (wc).heap.size (wc) W) _) => hK.out _ _ h (fun _ => ?_)) (Below.alloc hS (Below.size hS) _)
          replace hS := h
          clear h
          clear hK K
          try simp only [Act.put, List.setIfInBounds_toArray, List.set_cons_zero, List.set_cons_succ]
          refine wpAnyH_ready (rs := [9]) (by kernel_rfl) (by simp) ?_
          refine AllReadyH.cons (o := { dst := some 59, op := Op.call { callee := Callee.value (Operand.func 15), args := #[Operand.tmp 58], argTypes := #[57] }, type := 24, pos := "law.go:43", after := #[{ on := 8, ground := Ground.data }, { on := 6, ground := Ground.chain }, { on := 6, ground := Ground.guard }], guard := some (6, true) }) rfl (fun K hK => ?_) AllReadyH.nil
          go_simp
          refine (KB _).out.mono ?_
          rintro e w109 ⟨rfl, hb⟩
          replace hS : (fun W => Below (wc).heap.size (wc) W) w109 := below_then hS hb (Below.size hS)
          refine hK.out _ _ hS (fun _ => ?_)
          clear hK K hb
          try simp only [Act.put, List.setIfInBounds_toArray, List.set_cons_zero, List.set_cons_succ]
          refine wpAnyH_take (i := 11) (oi := { dst := some 61, op := Op.binOp BinOp.eql 24 (Operand.tmp 59) (Operand.tmp 60) 24, type := 4, pos := "law.go:43", after := #[{ on := 9, ground := Ground.data }, { on := 10, ground := Ground.data }, { on := 6, ground := Ground.guard }], guard := some (6, true) }) (v := ?_) rfl (by kernel_rfl) (by kernel_rfl) (by kernel_rfl) (fun _ _ _ h => h) (Or.inl ⟨by rfl, ?_⟩) (by assumption) ?_
          rotate_left
          · (intro wS hS; go_simp <;> with_reducible rfl)
          try simp only [Act.put, List.setIfInBounds_toArray, List.set_cons_zero, List.set_cons_succ]
          refine wpAnyH_take (i := 12) (oi := { dst := some 62, op := Op.pick (Operand.tmp 56) (Operand.tmp 61) (Operand.const (Value.bool false)), type := 4, pos := "law.go:43", after := #[{ on := 6, ground := Ground.data }, { on := 11, ground := Ground.data }], guard := none }) (v := ?_) rfl (by kernel_rfl) (by kernel_rfl) (by kernel_rfl) (fun _ _ _ h => h) (Or.inl ⟨by rfl, ?_⟩) (by assumption) ?_
          rotate_left
          · (intro wS hS; go_simp <;> with_reducible rfl)
          try simp only [Act.put, List.setIfInBounds_toArray, List.set_cons_zero, List.set_cons_succ]
          refine wpAnyH_take (i := 13) (oi := { dst := some 63, op := Op.move (Operand.tmp 62), type := 4, pos := "law.go:43", after := #[{ on := 12, ground := Ground.data }, { on := 9, ground := Ground.chain }], guard := none }) (v := ?_) rfl (by kernel_rfl) (by kernel_rfl) (by kernel_rfl) (fun _ _ _ h => h) (Or.inl ⟨by rfl, ?_⟩) (by assumption) ?_
          rotate_left
          · (intro wS hS; go_simp <;> with_reducible rfl)
          try simp only [Act.put, List.setIfInBounds_toArray, List.set_cons_zero, List.set_cons_succ]
          refine wpAnyH_take (i := 14) (oi := { dst := some 64, op := Op.load 24 (Operand.tmp 3), type := 24, pos := "law.go:43", after := #[{ on := 13, ground := Ground.guard }], guard := some (13, true) }) (v := ?_) rfl (by kernel_rfl) (by kernel_rfl) (by kernel_rfl) (fun _ _ _ h => h) (Or.inl ⟨by rfl, ?_⟩) (by assumption) ?_
          rotate_left
          · (intro wS hS; have a0 := cell_below hS a0; have a1 := cell_below hS a1; have b0 := cell_below hS b0; have b1 := cell_below hS b1; go_simp <;> with_reducible rfl)
          try simp only [Act.put, List.setIfInBounds_toArray, List.set_cons_zero, List.set_cons_succ]
          refine wpAnyH_take (i := 15) (oi := { dst := some 65, op := Op.load 24 (Operand.tmp 4), type := 24, pos := "law.go:43", after := #[{ on := 13, ground := Ground.guard }], guard := some (13, true) }) (v := ?_) rfl (by kernel_rfl) (by kernel_rfl) (by kernel_rfl) (fun _ _ _ h => h) (Or.inl ⟨by rfl, ?_⟩) (by assumption) ?_
          rotate_left
          · (intro wS hS; have a0 := cell_below hS a0; have a1 := cell_below hS a1; have b0 := cell_below hS b0; have b1 := cell_below hS b1; go_simp <;> with_reducible rfl)
          try simp only [Act.put, List.setIfInBounds_toArray, List.set_cons_zero, List.set_cons_succ]
          refine wpAnyH_take (i := 22) (oi := { dst := some 72, op := Op.load 24 (Operand.tmp 3), type := 24, pos := "law.go:43", after := #[{ on := 13, ground := Ground.guard }], guard := some (13, true) }) (v := ?_) rfl (by kernel_rfl) (by kernel_rfl) (by kernel_rfl) (fun _ _ _ h => h) (Or.inl ⟨by rfl, ?_⟩) (by assumption) ?_
          rotate_left
          · (intro wS hS; have a0 := cell_below hS a0; have a1 := cell_below hS a1; have b0 := cell_below hS b0; have b1 := cell_below hS b1; go_simp <;> with_reducible rfl)
          try simp only [Act.put, List.setIfInBounds_toArray, List.set_cons_zero, List.set_cons_succ]
          refine wpAnyH_take (i := 23) (oi := { dst := some 73, op := Op.load 24 (Operand.tmp 4), type := 24, pos := "law.go:43", after := #[{ on := 13, ground := Ground.guard }], guard := some (13, true) }) (v := ?_) rfl (by kernel_rfl) (by kernel_rfl) (by kernel_rfl) (fun _ _ _ h => h) (Or.inl ⟨by rfl, ?_⟩) (by assumption) ?_
          rotate_left
          · (intro wS hS; have a0 := cell_below hS a0; have a1 := cell_below hS a1; have b0 := cell_below hS b0; have b1 := cell_below hS b1; go_simp <;> with_reducible rfl)
          try simp only [Act.put, List.setIfInBounds_toArray, List.set_cons_zero, List.set_cons_succ]
          refine wpAnyH_take (i := 24) (oi := { dst := some 74, op := Op.binOp BinOp.neq 24 (Operand.tmp 72) (Operand.tmp 73) 24, type := 4, pos := "law.go:43", after := #[{ on := 22, ground := Ground.data }, { on := 23, ground := Ground.data }, { on := 13, ground := Ground.guard }], guard := some (13, true) }) (v := ?_) rfl (by kernel_rfl) (by kernel_rfl) (by kernel_rfl) (fun _ _ _ h => h) (Or.inl ⟨by rfl, ?_⟩) (by assumption) ?_
          rotate_left
          · (intro wS hS; go_simp <;> with_reducible rfl)
          try simp only [Act.put, List.setIfInBounds_toArray, List.set_cons_zero, List.set_cons_succ]
          refine wpAnyH_ready (rs := [16]) (by kernel_rfl) (by simp) ?_
          refine AllReadyH.cons (o := { dst := some 66, op := Op.call { callee := Callee.value (Operand.func 16), args := #[Operand.tmp 64, Operand.tmp 65], argTypes := #[24, 24] }, type := 4, pos := "law.go:43", after := #[{ on := 14, ground := Ground.data }, { on := 15, ground := Ground.data }, { on := 13, ground := Ground.chain }, { on := 13, ground := Ground.guard }], guard := some (13, true) }) rfl (fun K hK => ?_) AllReadyH.nil
          go_simp
          refine (KL _).out.mono ?_
          rintro e w116 ⟨rfl, hb⟩
          replace hS : (fun W => Below (wc).heap.size (wc) W) w116 := below_then hS hb (Below.size hS)
          refine hK.out _ _ hS (fun _ => ?_)
          clear hK K hb
          try simp only [Act.put, List.setIfInBounds_toArray, List.set_cons_zero, List.set_cons_succ]
          refine wpAnyH_take (i := 17) (oi := { dst := some 67, op := Op.move (Operand.tmp 66), type := 4, pos := "law.go:43", after := #[{ on := 16, ground := Ground.data }, { on := 16, ground := Ground.chain }, { on := 13, ground := Ground.guard }], guard := some (13, true) }) (v := ?_) rfl (by kernel_rfl) (by kernel_rfl) (by kernel_rfl) (fun _ _ _ h => h) (Or.inl ⟨by rfl, ?_⟩) (by assumption) ?_
          rotate_left
          · (intro wS hS; go_simp <;> with_reducible rfl)
          try simp only [Act.put, List.setIfInBounds_toArray, List.set_cons_zero, List.set_cons_succ]
          refine wpAnyH_take (i := 18) (oi := { dst := some 68, op := Op.load 24 (Operand.tmp 4), type := 24, pos := "law.go:43", after := #[{ on := 17, ground := Ground.guard }], guard := some (17, false) }) (v := ?_) rfl (by kernel_rfl) (by kernel_rfl) (by kernel_rfl) (fun _ _ _ h => h) (Or.inl ⟨by rfl, ?_⟩) (by assumption) ?_
          rotate_left
          · (intro wS hS; have a0 := cell_below hS a0; have a1 := cell_below hS a1; have b0 := cell_below hS b0; have b1 := cell_below hS b1; go_simp <;> with_reducible rfl)
          try simp only [Act.put, List.setIfInBounds_toArray, List.set_cons_zero, List.set_cons_succ]
          refine wpAnyH_take (i := 19) (oi := { dst := some 69, op := Op.load 24 (Operand.tmp 3), type := 24, pos := "law.go:43", after := #[{ on := 17, ground := Ground.guard }], guard := some (17, false) }) (v := ?_) rfl (by kernel_rfl) (by kernel_rfl) (by kernel_rfl) (fun _ _ _ h => h) (Or.inl ⟨by rfl, ?_⟩) (by assumption) ?_
          rotate_left
          · (intro wS hS; have a0 := cell_below hS a0; have a1 := cell_below hS a1; have b0 := cell_below hS b0; have b1 := cell_below hS b1; go_simp <;> with_reducible rfl)
          try simp only [Act.put, List.setIfInBounds_toArray, List.set_cons_zero, List.set_cons_succ]
          refine wpAnyH_ready (rs := [20]) (by kernel_rfl) (by simp) ?_
          refine AllReadyH.cons (o := { dst := some 70, op := Op.call { callee := Callee.value (Operand.func 16), args := #[Operand.tmp 68, Operand.tmp 69], argTypes := #[24, 24] }, type := 4, pos := "law.go:43", after := #[{ on := 18, ground := Ground.data }, { on := 19, ground := Ground.data }, { on := 17, ground := Ground.chain }, { on := 17, ground := Ground.guard }], guard := some (17, false) }) rfl (fun K hK => ?_) AllReadyH.nil
          go_simp
          refine (KM _).out.mono ?_
          rintro e w120 ⟨rfl, hb⟩
          replace hS : (fun W => Below (wc).heap.size (wc) W) w120 := below_then hS hb (Below.size hS)
          refine hK.out _ _ hS (fun _ => ?_)
          clear hK K hb
          try simp only [Act.put, List.setIfInBounds_toArray, List.set_cons_zero, List.set_cons_succ]
          refine wpAnyH_take (i := 21) (oi := { dst := some 71, op := Op.pick (Operand.tmp 67) (Operand.const (Value.bool true)) (Operand.tmp 70), type := 4, pos := "law.go:43", after := #[{ on := 17, ground := Ground.data }, { on := 20, ground := Ground.data }, { on := 13, ground := Ground.guard }], guard := some (13, true) }) (v := ?_) rfl (by kernel_rfl) (by kernel_rfl) (by kernel_rfl) (fun _ _ _ h => h) (Or.inl ⟨by rfl, ?_⟩) (by assumption) ?_
          rotate_left
          · (intro wS hS; go_simp <;> with_reducible rfl)
          try simp only [Act.put, List.setIfInBounds_toArray, List.set_cons_zero, List.set_cons_succ]
          refine wpAnyH_take (i := 25) (oi := { dst := some 75, op := Op.binOp BinOp.eql 4 (Operand.tmp 71) (Operand.tmp 74) 4, type := 4, pos := "law.go:43", after := #[{ on := 21, ground := Ground.data }, { on := 24, ground := Ground.data }, { on := 13, ground := Ground.guard }], guard := some (13, true) }) (v := ?_) rfl (by kernel_rfl) (by kernel_rfl) (by kernel_rfl) (fun _ _ _ h => h) (Or.inl ⟨by rfl, ?_⟩) (by assumption) ?_
          rotate_left
          · (intro wS hS; go_simp <;> with_reducible rfl)
          try simp only [Act.put, List.setIfInBounds_toArray, List.set_cons_zero, List.set_cons_succ]
          refine wpAnyH_take (i := 26) (oi := { dst := some 76, op := Op.pick (Operand.tmp 63) (Operand.tmp 75) (Operand.const (Value.bool false)), type := 4, pos := "law.go:43", after := #[{ on := 13, ground := Ground.data }, { on := 25, ground := Ground.data }], guard := none }) (v := ?_) rfl (by kernel_rfl) (by kernel_rfl) (by kernel_rfl) (fun _ _ _ h => h) (Or.inl ⟨by rfl, ?_⟩) (by assumption) ?_
          rotate_left
          · (intro wS hS; go_simp <;> with_reducible rfl)
          try simp only [Act.put, List.setIfInBounds_toArray, List.set_cons_zero, List.set_cons_succ]
          refine wpAnyH_take (i := 27) (oi := { dst := some 6, op := Op.assign (Operand.tmp 76), type := 4, pos := "law.go:43", after := #[{ on := 26, ground := Ground.data }, { on := 20, ground := Ground.chain }, { on := 0, ground := Ground.phase }, { on := 1, ground := Ground.phase }, { on := 2, ground := Ground.phase }, { on := 3, ground := Ground.phase }, { on := 4, ground := Ground.phase }, { on := 5, ground := Ground.phase }, { on := 6, ground := Ground.phase }, { on := 7, ground := Ground.phase }, { on := 8, ground := Ground.phase }, { on := 9, ground := Ground.phase }, { on := 10, ground := Ground.phase }, { on := 11, ground := Ground.phase }, { on := 12, ground := Ground.phase }, { on := 13, ground := Ground.phase }, { on := 14, ground := Ground.phase }, { on := 15, ground := Ground.phase }, { on := 16, ground := Ground.phase }, { on := 17, ground := Ground.phase }, { on := 18, ground := Ground.phase }, { on := 19, ground := Ground.phase }, { on := 20, ground := Ground.phase }, { on := 21, ground := Ground.phase }, { on := 22, ground := Ground.phase }, { on := 23, ground := Ground.phase }, { on := 24, ground := Ground.phase }, { on := 25, ground := Ground.phase }, { on := 26, ground := Ground.phase }], guard := none }) (v := ?_) rfl (by kernel_rfl) (by kernel_rfl) (by kernel_rfl) (fun _ _ _ h => h) (Or.inl ⟨by rfl, ?_⟩) (by assumption) ?_
          rotate_left
          · (intro wS hS; go_simp <;> with_reducible rfl)
          try simp only [Act.put, List.setIfInBounds_toArray, List.set_cons_zero, List.set_cons_succ]
          refine wpAnyH_done (by kernel_rfl) ?_ _
          go_wp2_with fail
          go_ret
          exact ⟨ret_bool (by simp), hB.trans (below_of hS hB.size)⟩
        · have hA' : ((a2v : Int) == b2v) = false := by simpa using hA2
          have eA : a1v = b1v := by omega
          clear hA
          subst eA
          refine wp_region_held (S := fun W => Below (wc).heap.size (wc) W) (by kernel_rfl) ?_
          change wpAnyH _ _ _ _ _ _ _ _ (wc).drew
          have hS : (fun W => Below (wc).heap.size (wc) W) (wc).drew := (Below.refl _ _).drew
          refine wpAnyH_ready (rs := [0]) (by kernel_rfl) (by simp) ?_
          refine AllReadyH.cons (o := { dst := some 50, op := Op.call { callee := Callee.value (Operand.func 9), args := #[], argTypes := #[] }, type := 4, pos := "law.go:43", after := #[], guard := none }) rfl (fun K hK => ?_) AllReadyH.nil
          go_simp
          refine (awake08_any _).mono ?_
          rintro e w100 ⟨rfl, hb⟩
          replace hS : (fun W => Below (wc).heap.size (wc) W) w100 := below_then hS hb (Below.size hS)
          refine hK.out _ _ hS (fun _ => ?_)
          clear hK K hb
          try simp only [Act.put, List.setIfInBounds_toArray, List.set_cons_zero, List.set_cons_succ]
          refine wpAnyH_take (i := 1) (oi := { dst := some 51, op := Op.move (Operand.tmp 50), type := 4, pos := "law.go:43", after := #[{ on := 0, ground := Ground.data }, { on := 0, ground := Ground.chain }], guard := none }) (v := ?_) rfl (by kernel_rfl) (by kernel_rfl) (by kernel_rfl) (fun _ _ _ h => h) (Or.inl ⟨by rfl, ?_⟩) (by assumption) ?_
          rotate_left
          · (intro wS hS; go_simp <;> with_reducible rfl)
          try simp only [Act.put, List.setIfInBounds_toArray, List.set_cons_zero, List.set_cons_succ]
          refine wpAnyH_take (i := 3) (oi := { dst := some 53, op := Op.build 24 #[], type := 24, pos := "law.go:43", after := #[{ on := 1, ground := Ground.guard }], guard := some (1, true) }) (v := ?_) rfl (by kernel_rfl) (by kernel_rfl) (by kernel_rfl) (fun _ _ _ h => h) (Or.inl ⟨by rfl, ?_⟩) (by assumption) ?_
          rotate_left
          · (intro wS hS; go_simp <;> with_reducible rfl)
          try simp only [Act.put, List.setIfInBounds_toArray, List.set_cons_zero, List.set_cons_succ]
          refine wpAnyH_ready (rs := [2]) (by kernel_rfl) (by simp) ?_
          refine AllReadyH.cons (o := { dst := some 52, op := Op.call { callee := Callee.value (Operand.func 15), args := #[Operand.const (Value.slice none 0 0)], argTypes := #[57] }, type := 24, pos := "law.go:43", after := #[{ on := 1, ground := Ground.chain }, { on := 1, ground := Ground.guard }], guard := some (1, true) }) rfl (fun K hK => ?_) AllReadyH.nil
          go_simp
          refine (KN _).out.mono ?_
          rintro e w102 ⟨rfl, hb⟩
          replace hS : (fun W => Below (wc).heap.size (wc) W) w102 := below_then hS hb (Below.size hS)
          refine hK.out _ _ hS (fun _ => ?_)
          clear hK K hb
          try simp only [Act.put, List.setIfInBounds_toArray, List.set_cons_zero, List.set_cons_succ]
          refine wpAnyH_take (i := 4) (oi := { dst := some 54, op := Op.binOp BinOp.eql 24 (Operand.tmp 52) (Operand.tmp 53) 24, type := 4, pos := "law.go:43", after := #[{ on := 2, ground := Ground.data }, { on := 3, ground := Ground.data }, { on := 1, ground := Ground.guard }], guard := some (1, true) }) (v := ?_) rfl (by kernel_rfl) (by kernel_rfl) (by kernel_rfl) (fun _ _ _ h => h) (Or.inl ⟨by rfl, ?_⟩) (by assumption) ?_
          rotate_left
          · (intro wS hS; go_simp <;> with_reducible rfl)
          try simp only [Act.put, List.setIfInBounds_toArray, List.set_cons_zero, List.set_cons_succ]
          refine wpAnyH_take (i := 5) (oi := { dst := some 55, op := Op.pick (Operand.tmp 51) (Operand.tmp 54) (Operand.const (Value.bool false)), type := 4, pos := "law.go:43", after := #[{ on := 1, ground := Ground.data }, { on := 4, ground := Ground.data }], guard := none }) (v := ?_) rfl (by kernel_rfl) (by kernel_rfl) (by kernel_rfl) (fun _ _ _ h => h) (Or.inl ⟨by rfl, ?_⟩) (by assumption) ?_
          rotate_left
          · (intro wS hS; go_simp <;> with_reducible rfl)
          try simp only [Act.put, List.setIfInBounds_toArray, List.set_cons_zero, List.set_cons_succ]
          refine wpAnyH_take (i := 6) (oi := { dst := some 56, op := Op.move (Operand.tmp 55), type := 4, pos := "law.go:43", after := #[{ on := 5, ground := Ground.data }, { on := 2, ground := Ground.chain }], guard := none }) (v := ?_) rfl (by kernel_rfl) (by kernel_rfl) (by kernel_rfl) (fun _ _ _ h => h) (Or.inl ⟨by rfl, ?_⟩) (by assumption) ?_
          rotate_left
          · (intro wS hS; go_simp <;> with_reducible rfl)
          try simp only [Act.put, List.setIfInBounds_toArray, List.set_cons_zero, List.set_cons_succ]
          refine wpAnyH_take (i := 7) (oi := { dst := some 57, op := Op.load 24 (Operand.tmp 4), type := 24, pos := "law.go:43", after := #[{ on := 6, ground := Ground.guard }], guard := some (6, true) }) (v := ?_) rfl (by kernel_rfl) (by kernel_rfl) (by kernel_rfl) (fun _ _ _ h => h) (Or.inl ⟨by rfl, ?_⟩) (by assumption) ?_
          rotate_left
          · (intro wS hS; have a0 := cell_below hS a0; have a1 := cell_below hS a1; have b0 := cell_below hS b0; have b1 := cell_below hS b1; go_simp <;> with_reducible rfl)
          try simp only [Act.put, List.setIfInBounds_toArray, List.set_cons_zero, List.set_cons_succ]
          refine wpAnyH_take (i := 10) (oi := { dst := some 60, op := Op.load 24 (Operand.tmp 4), type := 24, pos := "law.go:43", after := #[{ on := 6, ground := Ground.guard }], guard := some (6, true) }) (v := ?_) rfl (by kernel_rfl) (by kernel_rfl) (by kernel_rfl) (fun _ _ _ h => h) (Or.inl ⟨by rfl, ?_⟩) (by assumption) ?_
          rotate_left
          · (intro wS hS; have a0 := cell_below hS a0; have a1 := cell_below hS a1; have b0 := cell_below hS b0; have b1 := cell_below hS b1; go_simp <;> with_reducible rfl)
          try simp only [Act.put, List.setIfInBounds_toArray, List.set_cons_zero, List.set_cons_succ]
          refine wpAnyH_ready (rs := [8]) (by kernel_rfl) (by simp) ?_
          refine AllReadyH.cons (o := { dst := some 58, op := Op.buildSlice 57 1 #[(0, Operand.tmp 57)], type := 57, pos := "law.go:43", after := #[{ on := 7, ground := Ground.data }, { on := 6, ground := Ground.guard }], guard := some (6, true) }) rfl (fun K hK => ?_) AllReadyH.nil
          go_simp
          refine (fun (h : (fun W => Below (wc).heap.size (wc) W) _) => hK.out _ _ h (fun _ => ?_)) (Below.alloc hS (Below.size hS) _)
          replace hS := h
          clear h
          clear hK K
          try simp only [Act.put, List.setIfInBounds_toArray, List.set_cons_zero, List.set_cons_succ]
          refine wpAnyH_ready (rs := [9]) (by kernel_rfl) (by simp) ?_
          refine AllReadyH.cons (o := { dst := some 59, op := Op.call { callee := Callee.value (Operand.func 15), args := #[Operand.tmp 58], argTypes := #[57] }, type := 24, pos := "law.go:43", after := #[{ on := 8, ground := Ground.data }, { on := 6, ground := Ground.chain }, { on := 6, ground := Ground.guard }], guard := some (6, true) }) rfl (fun K hK => ?_) AllReadyH.nil
          go_simp
          refine (KB _).out.mono ?_
          rintro e w109 ⟨rfl, hb⟩
          replace hS : (fun W => Below (wc).heap.size (wc) W) w109 := below_then hS hb (Below.size hS)
          refine hK.out _ _ hS (fun _ => ?_)
          clear hK K hb
          try simp only [Act.put, List.setIfInBounds_toArray, List.set_cons_zero, List.set_cons_succ]
          refine wpAnyH_take (i := 11) (oi := { dst := some 61, op := Op.binOp BinOp.eql 24 (Operand.tmp 59) (Operand.tmp 60) 24, type := 4, pos := "law.go:43", after := #[{ on := 9, ground := Ground.data }, { on := 10, ground := Ground.data }, { on := 6, ground := Ground.guard }], guard := some (6, true) }) (v := ?_) rfl (by kernel_rfl) (by kernel_rfl) (by kernel_rfl) (fun _ _ _ h => h) (Or.inl ⟨by rfl, ?_⟩) (by assumption) ?_
          rotate_left
          · (intro wS hS; go_simp <;> with_reducible rfl)
          try simp only [Act.put, List.setIfInBounds_toArray, List.set_cons_zero, List.set_cons_succ]
          refine wpAnyH_take (i := 12) (oi := { dst := some 62, op := Op.pick (Operand.tmp 56) (Operand.tmp 61) (Operand.const (Value.bool false)), type := 4, pos := "law.go:43", after := #[{ on := 6, ground := Ground.data }, { on := 11, ground := Ground.data }], guard := none }) (v := ?_) rfl (by kernel_rfl) (by kernel_rfl) (by kernel_rfl) (fun _ _ _ h => h) (Or.inl ⟨by rfl, ?_⟩) (by assumption) ?_
          rotate_left
          · (intro wS hS; go_simp <;> with_reducible rfl)
          try simp only [Act.put, List.setIfInBounds_toArray, List.set_cons_zero, List.set_cons_succ]
          refine wpAnyH_take (i := 13) (oi := { dst := some 63, op := Op.move (Operand.tmp 62), type := 4, pos := "law.go:43", after := #[{ on := 12, ground := Ground.data }, { on := 9, ground := Ground.chain }], guard := none }) (v := ?_) rfl (by kernel_rfl) (by kernel_rfl) (by kernel_rfl) (fun _ _ _ h => h) (Or.inl ⟨by rfl, ?_⟩) (by assumption) ?_
          rotate_left
          · (intro wS hS; go_simp <;> with_reducible rfl)
          try simp only [Act.put, List.setIfInBounds_toArray, List.set_cons_zero, List.set_cons_succ]
          refine wpAnyH_take (i := 14) (oi := { dst := some 64, op := Op.load 24 (Operand.tmp 3), type := 24, pos := "law.go:43", after := #[{ on := 13, ground := Ground.guard }], guard := some (13, true) }) (v := ?_) rfl (by kernel_rfl) (by kernel_rfl) (by kernel_rfl) (fun _ _ _ h => h) (Or.inl ⟨by rfl, ?_⟩) (by assumption) ?_
          rotate_left
          · (intro wS hS; have a0 := cell_below hS a0; have a1 := cell_below hS a1; have b0 := cell_below hS b0; have b1 := cell_below hS b1; go_simp <;> with_reducible rfl)
          try simp only [Act.put, List.setIfInBounds_toArray, List.set_cons_zero, List.set_cons_succ]
          refine wpAnyH_take (i := 15) (oi := { dst := some 65, op := Op.load 24 (Operand.tmp 4), type := 24, pos := "law.go:43", after := #[{ on := 13, ground := Ground.guard }], guard := some (13, true) }) (v := ?_) rfl (by kernel_rfl) (by kernel_rfl) (by kernel_rfl) (fun _ _ _ h => h) (Or.inl ⟨by rfl, ?_⟩) (by assumption) ?_
          rotate_left
          · (intro wS hS; have a0 := cell_below hS a0; have a1 := cell_below hS a1; have b0 := cell_below hS b0; have b1 := cell_below hS b1; go_simp <;> with_reducible rfl)
          try simp only [Act.put, List.setIfInBounds_toArray, List.set_cons_zero, List.set_cons_succ]
          refine wpAnyH_take (i := 22) (oi := { dst := some 72, op := Op.load 24 (Operand.tmp 3), type := 24, pos := "law.go:43", after := #[{ on := 13, ground := Ground.guard }], guard := some (13, true) }) (v := ?_) rfl (by kernel_rfl) (by kernel_rfl) (by kernel_rfl) (fun _ _ _ h => h) (Or.inl ⟨by rfl, ?_⟩) (by assumption) ?_
          rotate_left
          · (intro wS hS; have a0 := cell_below hS a0; have a1 := cell_below hS a1; have b0 := cell_below hS b0; have b1 := cell_below hS b1; go_simp <;> with_reducible rfl)
          try simp only [Act.put, List.setIfInBounds_toArray, List.set_cons_zero, List.set_cons_succ]
          refine wpAnyH_take (i := 23) (oi := { dst := some 73, op := Op.load 24 (Operand.tmp 4), type := 24, pos := "law.go:43", after := #[{ on := 13, ground := Ground.guard }], guard := some (13, true) }) (v := ?_) rfl (by kernel_rfl) (by kernel_rfl) (by kernel_rfl) (fun _ _ _ h => h) (Or.inl ⟨by rfl, ?_⟩) (by assumption) ?_
          rotate_left
          · (intro wS hS; have a0 := cell_below hS a0; have a1 := cell_below hS a1; have b0 := cell_below hS b0; have b1 := cell_below hS b1; go_simp <;> with_reducible rfl)
          try simp only [Act.put, List.setIfInBounds_toArray, List.set_cons_zero, List.set_cons_succ]
          refine wpAnyH_take (i := 24) (oi := { dst := some 74, op := Op.binOp BinOp.neq 24 (Operand.tmp 72) (Operand.tmp 73) 24, type := 4, pos := "law.go:43", after := #[{ on := 22, ground := Ground.data }, { on := 23, ground := Ground.data }, { on := 13, ground := Ground.guard }], guard := some (13, true) }) (v := ?_) rfl (by kernel_rfl) (by kernel_rfl) (by kernel_rfl) (fun _ _ _ h => h) (Or.inl ⟨by rfl, ?_⟩) (by assumption) ?_
          rotate_left
          · (intro wS hS; go_simp <;> with_reducible rfl)
          try simp only [Act.put, List.setIfInBounds_toArray, List.set_cons_zero, List.set_cons_succ]
          refine wpAnyH_ready (rs := [16]) (by kernel_rfl) (by simp) ?_
          refine AllReadyH.cons (o := { dst := some 66, op := Op.call { callee := Callee.value (Operand.func 16), args := #[Operand.tmp 64, Operand.tmp 65], argTypes := #[24, 24] }, type := 4, pos := "law.go:43", after := #[{ on := 14, ground := Ground.data }, { on := 15, ground := Ground.data }, { on := 13, ground := Ground.chain }, { on := 13, ground := Ground.guard }], guard := some (13, true) }) rfl (fun K hK => ?_) AllReadyH.nil
          go_simp
          refine (KL _).out.mono ?_
          rintro e w116 ⟨rfl, hb⟩
          replace hS : (fun W => Below (wc).heap.size (wc) W) w116 := below_then hS hb (Below.size hS)
          refine hK.out _ _ hS (fun _ => ?_)
          clear hK K hb
          try simp only [Act.put, List.setIfInBounds_toArray, List.set_cons_zero, List.set_cons_succ]
          refine wpAnyH_take (i := 17) (oi := { dst := some 67, op := Op.move (Operand.tmp 66), type := 4, pos := "law.go:43", after := #[{ on := 16, ground := Ground.data }, { on := 16, ground := Ground.chain }, { on := 13, ground := Ground.guard }], guard := some (13, true) }) (v := ?_) rfl (by kernel_rfl) (by kernel_rfl) (by kernel_rfl) (fun _ _ _ h => h) (Or.inl ⟨by rfl, ?_⟩) (by assumption) ?_
          rotate_left
          · (intro wS hS; go_simp <;> with_reducible rfl)
          try simp only [Act.put, List.setIfInBounds_toArray, List.set_cons_zero, List.set_cons_succ]
          refine wpAnyH_take (i := 18) (oi := { dst := some 68, op := Op.load 24 (Operand.tmp 4), type := 24, pos := "law.go:43", after := #[{ on := 17, ground := Ground.guard }], guard := some (17, false) }) (v := ?_) rfl (by kernel_rfl) (by kernel_rfl) (by kernel_rfl) (fun _ _ _ h => h) (Or.inl ⟨by rfl, ?_⟩) (by assumption) ?_
          rotate_left
          · (intro wS hS; have a0 := cell_below hS a0; have a1 := cell_below hS a1; have b0 := cell_below hS b0; have b1 := cell_below hS b1; go_simp <;> with_reducible rfl)
          try simp only [Act.put, List.setIfInBounds_toArray, List.set_cons_zero, List.set_cons_succ]
          refine wpAnyH_take (i := 19) (oi := { dst := some 69, op := Op.load 24 (Operand.tmp 3), type := 24, pos := "law.go:43", after := #[{ on := 17, ground := Ground.guard }], guard := some (17, false) }) (v := ?_) rfl (by kernel_rfl) (by kernel_rfl) (by kernel_rfl) (fun _ _ _ h => h) (Or.inl ⟨by rfl, ?_⟩) (by assumption) ?_
          rotate_left
          · (intro wS hS; have a0 := cell_below hS a0; have a1 := cell_below hS a1; have b0 := cell_below hS b0; have b1 := cell_below hS b1; go_simp <;> with_reducible rfl)
          try simp only [Act.put, List.setIfInBounds_toArray, List.set_cons_zero, List.set_cons_succ]
          refine wpAnyH_ready (rs := [20]) (by kernel_rfl) (by simp) ?_
          refine AllReadyH.cons (o := { dst := some 70, op := Op.call { callee := Callee.value (Operand.func 16), args := #[Operand.tmp 68, Operand.tmp 69], argTypes := #[24, 24] }, type := 4, pos := "law.go:43", after := #[{ on := 18, ground := Ground.data }, { on := 19, ground := Ground.data }, { on := 17, ground := Ground.chain }, { on := 17, ground := Ground.guard }], guard := some (17, false) }) rfl (fun K hK => ?_) AllReadyH.nil
          go_simp
          refine (KM _).out.mono ?_
          rintro e w120 ⟨rfl, hb⟩
          replace hS : (fun W => Below (wc).heap.size (wc) W) w120 := below_then hS hb (Below.size hS)
          refine hK.out _ _ hS (fun _ => ?_)
          clear hK K hb
          try simp only [Act.put, List.setIfInBounds_toArray, List.set_cons_zero, List.set_cons_succ]
          refine wpAnyH_take (i := 21) (oi := { dst := some 71, op := Op.pick (Operand.tmp 67) (Operand.const (Value.bool true)) (Operand.tmp 70), type := 4, pos := "law.go:43", after := #[{ on := 17, ground := Ground.data }, { on := 20, ground := Ground.data }, { on := 13, ground := Ground.guard }], guard := some (13, true) }) (v := ?_) rfl (by kernel_rfl) (by kernel_rfl) (by kernel_rfl) (fun _ _ _ h => h) (Or.inl ⟨by rfl, ?_⟩) (by assumption) ?_
          rotate_left
          · (intro wS hS; go_simp <;> with_reducible rfl)
          try simp only [Act.put, List.setIfInBounds_toArray, List.set_cons_zero, List.set_cons_succ]
          refine wpAnyH_take (i := 25) (oi := { dst := some 75, op := Op.binOp BinOp.eql 4 (Operand.tmp 71) (Operand.tmp 74) 4, type := 4, pos := "law.go:43", after := #[{ on := 21, ground := Ground.data }, { on := 24, ground := Ground.data }, { on := 13, ground := Ground.guard }], guard := some (13, true) }) (v := ?_) rfl (by kernel_rfl) (by kernel_rfl) (by kernel_rfl) (fun _ _ _ h => h) (Or.inl ⟨by rfl, ?_⟩) (by assumption) ?_
          rotate_left
          · (intro wS hS; go_simp <;> with_reducible rfl)
          try simp only [Act.put, List.setIfInBounds_toArray, List.set_cons_zero, List.set_cons_succ]
          refine wpAnyH_take (i := 26) (oi := { dst := some 76, op := Op.pick (Operand.tmp 63) (Operand.tmp 75) (Operand.const (Value.bool false)), type := 4, pos := "law.go:43", after := #[{ on := 13, ground := Ground.data }, { on := 25, ground := Ground.data }], guard := none }) (v := ?_) rfl (by kernel_rfl) (by kernel_rfl) (by kernel_rfl) (fun _ _ _ h => h) (Or.inl ⟨by rfl, ?_⟩) (by assumption) ?_
          rotate_left
          · (intro wS hS; go_simp <;> with_reducible rfl)
          try simp only [Act.put, List.setIfInBounds_toArray, List.set_cons_zero, List.set_cons_succ]
          refine wpAnyH_take (i := 27) (oi := { dst := some 6, op := Op.assign (Operand.tmp 76), type := 4, pos := "law.go:43", after := #[{ on := 26, ground := Ground.data }, { on := 20, ground := Ground.chain }, { on := 0, ground := Ground.phase }, { on := 1, ground := Ground.phase }, { on := 2, ground := Ground.phase }, { on := 3, ground := Ground.phase }, { on := 4, ground := Ground.phase }, { on := 5, ground := Ground.phase }, { on := 6, ground := Ground.phase }, { on := 7, ground := Ground.phase }, { on := 8, ground := Ground.phase }, { on := 9, ground := Ground.phase }, { on := 10, ground := Ground.phase }, { on := 11, ground := Ground.phase }, { on := 12, ground := Ground.phase }, { on := 13, ground := Ground.phase }, { on := 14, ground := Ground.phase }, { on := 15, ground := Ground.phase }, { on := 16, ground := Ground.phase }, { on := 17, ground := Ground.phase }, { on := 18, ground := Ground.phase }, { on := 19, ground := Ground.phase }, { on := 20, ground := Ground.phase }, { on := 21, ground := Ground.phase }, { on := 22, ground := Ground.phase }, { on := 23, ground := Ground.phase }, { on := 24, ground := Ground.phase }, { on := 25, ground := Ground.phase }, { on := 26, ground := Ground.phase }], guard := none }) (v := ?_) rfl (by kernel_rfl) (by kernel_rfl) (by kernel_rfl) (fun _ _ _ h => h) (Or.inl ⟨by rfl, ?_⟩) (by assumption) ?_
          rotate_left
          · (intro wS hS; go_simp <;> with_reducible rfl)
          try simp only [Act.put, List.setIfInBounds_toArray, List.set_cons_zero, List.set_cons_succ]
          refine wpAnyH_done (by kernel_rfl) ?_ _
          go_wp2_with fail
          go_ret
          exact ⟨ret_bool (by simp), hB.trans (below_of hS hB.size)⟩
end Go.Proofs.Ytieigjlbjiielaa
