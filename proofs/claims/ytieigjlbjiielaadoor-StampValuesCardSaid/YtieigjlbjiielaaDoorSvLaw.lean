/- The law StampValues, walked. No condition but the kinds' bounds. -/
import Derived.Test.YtieigjlbjiielaaDoorSv2
namespace Go.Proofs.YtieigjlbjiielaaDoor
open Go.RowKit

set_option maxRecDepth 100000 in
set_option maxHeartbeats 4000000 in
theorem stampvalues_law (t q : Nat) {v : VT} {cs : List Value} (w : World) (ht : t < 18446744073709551616) (hq : q < 18446744073709551616) (h : VR w v cs) : Calls Tryd.prog 3 #[stp t q, .agg cs.toArray] w fun e w' => e = .returned (.bool true) ∧ Below w.heap.size w w' := by
  have KS := fun W hb => Lib.hid (size_any h W hb)
  have KA := fun W hb => Lib.hid (any_any h W hb)
  have HV := Lib.hid h
  obtain ⟨A, c, all, rfl, hr, hv⟩ := vr_cells h
  have HR := Lib.hid hr
  have HVV := Lib.hid hv
  have HT := Lib.hid ht
  have HQ := Lib.hid hq
  clear h hr hv ht hq
  obtain ⟨kd, hkd⟩ : ∃ k, k = v.kind := ⟨_, rfl⟩
  obtain ⟨ln, hln⟩ : ∃ k, k = v.lst.length := ⟨_, rfl⟩
  obtain ⟨nm, hnm⟩ : ∃ k, k = v.num := ⟨_, rfl⟩
  obtain ⟨sr, hsr⟩ : ∃ k, k = v.str := ⟨_, rfl⟩
  simp only [← hkd, ← hln, ← hnm, ← hsr] at KS KA ⊢
  have HKD := Lib.hid hkd
  have HLN := Lib.hid hln
  clear hkd hln hnm hsr
  obtain ⟨hB, hc, hd⟩ := two_cells w #[.int .u64 (t : Int), .int .u64 (q : Int)] #[.int .i64 kd, .int .u64 (nm : Int), .string ⟨sr.toArray⟩, .slice A ln c] 24 27
  have s0 := hc 0 _ rfl
  have s1 := hc 1 _ rfl
  have c0 := hd 0 _ rfl
  have c1 := hd 1 _ rfl
  have c2 := hd 2 _ rfl
  have c3 := hd 3 _ rfl
  clear hc hd
  go_enter Tryd.func3, Tryd.ntmps3
  go_upto_region 1 with fail
  generalize (w.alloc (.cells #[.int .u64 (t : Int), .int .u64 (q : Int)] 24)).alloc (.cells #[.int .i64 kd, .int .u64 (nm : Int), .string ⟨sr.toArray⟩, .slice A ln c] 27) = w0 at *
  go_wp2_with fail
  refine (KS _ hB).out.mono ?_
  rintro e w1 ⟨⟨x, y, rfl⟩, hb⟩
  replace hB := below_trans hB hb
  replace c0 := cell_below hb c0
  replace c1 := cell_below hb c1
  replace c2 := cell_below hb c2
  replace c3 := cell_below hb c3
  replace s0 := cell_below hb s0
  replace s1 := cell_below hb s1
  clear hb KS
  by_cases hd : 10 < x
  · go_wp2_with fail
    refine (awake08_any _).mono ?_
    rintro e w2 ⟨rfl, hb⟩
    go_wp2_with fail
    go_ret
    exact ⟨rfl, below_trans hB hb⟩
  by_cases hn : 100 < y
  · go_wp2_with fail
    refine (awake08_any _).mono ?_
    rintro e w2 ⟨rfl, hb⟩
    go_wp2_with fail
    go_ret
    exact ⟨rfl, below_trans hB hb⟩
  go_wp2_with fail
  refine (svalue_any t q _).mono ?_
  rintro e w2 ⟨A2, rfl, hx, hb⟩
  replace hB := below_trans hB hb
  replace c0 := cell_below hb c0
  replace c1 := cell_below hb c1
  replace c2 := cell_below hb c2
  replace c3 := cell_below hb c3
  replace s0 := cell_below hb s0
  replace s1 := cell_below hb s1
  clear hb hd hn
  go_wp2_with fail
  refine (sof_any t q A2 2 _ hx).mono ?_
  rintro e w3 ⟨rfl, hb⟩
  replace hx := hx.below hb
  replace hB := below_trans hB hb
  replace c0 := cell_below hb c0
  replace c1 := cell_below hb c1
  replace c2 := cell_below hb c2
  replace c3 := cell_below hb c3
  replace s0 := cell_below hb s0
  replace s1 := cell_below hb s1
  clear hb
  obtain ⟨hb, hca⟩ := one_cells w3 #[.int .u64 (t : Int), .int .u64 (q : Int)] 24
  have b0 := hca 0 _ rfl
  have b1 := hca 1 _ rfl
  replace hx := hx.below hb
  replace hB := below_trans hB hb
  replace c0 := cell_below hb c0
  replace c1 := cell_below hb c1
  replace c2 := cell_below hb c2
  replace c3 := cell_below hb c3
  replace s0 := cell_below hb s0
  replace s1 := cell_below hb s1
  clear hb hca
  go_upto_region 6 with fail
  generalize w3.alloc (.cells #[.int .u64 (t : Int), .int .u64 (q : Int)] 24) = w4 at *
  have hx2 := cells_rd' (w := w4) (e := 20) (cs := #[.iface 22 (.int .u64 t), .iface 22 (.int .u64 q)]) rfl (show 2 ≤ maxLen by decide)
  obtain ⟨hb4, -⟩ := one_cells w4 #[.iface 22 (.int .u64 t), .iface 22 (.int .u64 q)] 20
  replace hx := hx.below hb4
  have KM := Lib.hid (isame_any (w4.alloc (.cells #[.iface 22 (.int .u64 t), .iface 22 (.int .u64 q)] 20)) _ _ _ (putok_two _ A2 2 t q HT.out HQ.out hx) (putok_two _ (some ⟨w4.heap.size, 0, none⟩) 2 t q HT.out HQ.out hx2))
  clear hx hx2
  go_wp2_with fail
  refine KM.out.mono ?_
  rintro e w5 ⟨rfl, hb5⟩
  have hb := below_trans hb4 hb5
  clear hb4 hb5
  replace hB := below_trans hB hb
  replace c0 := cell_below hb c0
  replace c1 := cell_below hb c1
  replace c2 := cell_below hb c2
  replace c3 := cell_below hb c3
  replace s0 := cell_below hb s0
  replace s1 := cell_below hb s1
  replace b0 := cell_below hb b0
  replace b1 := cell_below hb b1
  clear hb KM
  go_wp2_with fail
  refine (KA _ hB).out.mono ?_
  rintro e w6 ⟨u, rfl, hu, hb⟩
  replace hB := below_trans hB hb
  replace c0 := cell_below hb c0
  replace c1 := cell_below hb c1
  replace c2 := cell_below hb c2
  replace c3 := cell_below hb c3
  clear hb KA s0 s1 b0 b1
  by_cases hk : kd = 4
  · by_cases hk2 : ln = 2
    · obtain ⟨a, b, hl⟩ : ∃ a b, v.lst = [a, b] := by
        have h2 := HLN.out.symm.trans hk2
        match h : v.lst, h2 with
        | [a, b], _ => exact ⟨a, b, rfl⟩
      obtain ⟨ad, c1', c2', A1, A3, all1, all2, rfl, -, -, ⟨e0, e1⟩, f0, f1, -, -⟩ := vr_two hl HR.out HVV.out
      replace e0 := cell_below hB e0
      replace e1 := cell_below hB e1
      replace f0 := cell_below hB f0
      replace f1 := cell_below hB f1
      have h4 : v.kind = 4 := HKD.out.symm.trans hk
      subst hk
      subst hk2
      by_cases ka : a.kind = 0
      · by_cases kb : b.kind = 0
        · have KO := Lib.hid (stof_yes hu h4 hl ka kb)
          rw [ka] at e0
          rw [kb] at f0
          clear hu h4 hl ka kb HV HR HVV HKD HLN
          generalize a.num = an at *
          generalize b.num = bn at *
          go_wp2_with fail
          refine KO.out.mono ?_
          rintro e w7 ⟨rfl, hb⟩
          replace hB := below_trans hB hb
          replace c0 := cell_below hb c0
          replace c1 := cell_below hb c1
          replace c2 := cell_below hb c2
          replace c3 := cell_below hb c3
          replace e0 := cell_below hb e0
          replace e1 := cell_below hb e1
          replace f0 := cell_below hb f0
          replace f1 := cell_below hb f1
          clear hb KO
          obtain ⟨hb, hca⟩ := one_cells w7 #[.int .u64 (an : Int), .int .u64 (bn : Int)] 24
          have x0 := hca 0 _ rfl
          have x1 := hca 1 _ rfl
          replace hB := below_trans hB hb
          replace c0 := cell_below hb c0
          replace c1 := cell_below hb c1
          replace c2 := cell_below hb c2
          replace c3 := cell_below hb c3
          replace e0 := cell_below hb e0
          replace e1 := cell_below hb e1
          replace f0 := cell_below hb f0
          replace f1 := cell_below hb f1
          clear hb hca
          go_upto_region 9 with fail
          generalize w7.alloc (.cells #[.int .u64 (an : Int), .int .u64 (bn : Int)] 24) = w8 at *
          go_wp2_with fail
          refine wp_region_held (S := fun W => Below (w8).heap.size (w8) W) (by kernel_rfl) ?_
          change wpAnyH _ _ _ _ _ _ _ _ (w8).drew
          have hS : (fun W => Below (w8).heap.size (w8) W) (w8).drew := (Below.refl _ _).drew
          refine wpAnyH_ready (rs := [0]) (by kernel_rfl) (by simp) ?_
          refine AllReadyH.cons (o := { dst := some 82, op := Op.call { callee := Callee.value (Operand.func 6), args := #[], argTypes := #[] }, type := 4, pos := "law.go:32", after := #[], guard := none }) rfl (fun K hK => ?_) AllReadyH.nil
          go_simp
          refine (awake08_any _).mono ?_
          rintro e w100 ⟨rfl, hb⟩
          replace hS : (fun W => Below (w8).heap.size (w8) W) w100 := below_then hS hb (Below.size hS)
          refine hK.out _ _ hS (fun _ => ?_)
          clear hK K hb
          try simp only [Act.put, List.setIfInBounds_toArray, List.set_cons_zero, List.set_cons_succ]
          refine wpAnyH_take (i := 1) (oi := { dst := some 83, op := Op.move (Operand.tmp 82), type := 4, pos := "law.go:32", after := #[{ on := 0, ground := Ground.data }, { on := 0, ground := Ground.chain }], guard := none }) (v := ?_) rfl (by kernel_rfl) (by kernel_rfl) (by kernel_rfl) (fun _ _ _ h => h) (Or.inl ⟨by rfl, ?_⟩) (by assumption) ?_
          rotate_left
          · (intro wS hS; go_simp <;> with_reducible rfl)
          try simp only [Act.put, List.setIfInBounds_toArray, List.set_cons_zero, List.set_cons_succ]
          refine wpAnyH_take (i := 2) (oi := { dst := some 84, op := Op.load 24 (Operand.tmp 10), type := 24, pos := "law.go:32", after := #[{ on := 1, ground := Ground.guard }], guard := some (1, true) }) (v := ?_) rfl (by kernel_rfl) (by kernel_rfl) (by kernel_rfl) (fun _ _ _ h => h) (Or.inl ⟨by rfl, ?_⟩) (by assumption) ?_
          rotate_left
          · (intro wS hS; have c3 := cell_below hS c3; have x0 := cell_below hS x0; have x1 := cell_below hS x1; have e0 := cell_below hS e0; have e1 := cell_below hS e1; have f0 := cell_below hS f0; have f1 := cell_below hS f1; go_simp <;> with_reducible rfl)
          try simp only [Act.put, List.setIfInBounds_toArray, List.set_cons_zero, List.set_cons_succ]
          refine wpAnyH_take (i := 3) (oi := { dst := some 85, op := Op.fieldAddr 27 (Operand.tmp 3) 3, type := 0, pos := "law.go:32", after := #[{ on := 1, ground := Ground.guard }], guard := some (1, true) }) (v := ?_) rfl (by kernel_rfl) (by kernel_rfl) (by kernel_rfl) (fun _ _ _ h => h) (Or.inl ⟨by rfl, ?_⟩) (by assumption) ?_
          rotate_left
          · (intro wS hS; go_simp <;> with_reducible rfl)
          try simp only [Act.put, List.setIfInBounds_toArray, List.set_cons_zero, List.set_cons_succ]
          refine wpAnyH_take (i := 4) (oi := { dst := some 86, op := Op.load 25 (Operand.tmp 85), type := 25, pos := "law.go:32", after := #[{ on := 3, ground := Ground.data }, { on := 1, ground := Ground.guard }], guard := some (1, true) }) (v := ?_) rfl (by kernel_rfl) (by kernel_rfl) (by kernel_rfl) (fun _ _ _ h => h) (Or.inl ⟨by rfl, ?_⟩) (by assumption) ?_
          rotate_left
          · (intro wS hS; have c3 := cell_below hS c3; have x0 := cell_below hS x0; have x1 := cell_below hS x1; have e0 := cell_below hS e0; have e1 := cell_below hS e1; have f0 := cell_below hS f0; have f1 := cell_below hS f1; go_simp <;> with_reducible rfl)
          try simp only [Act.put, List.setIfInBounds_toArray, List.set_cons_zero, List.set_cons_succ]
          refine wpAnyH_take (i := 5) (oi := { dst := some 87, op := Op.indexAddr 25 (Operand.tmp 86) (Operand.const (Value.int IntKind.i64 0)), type := 0, pos := "law.go:32", after := #[{ on := 4, ground := Ground.data }, { on := 1, ground := Ground.guard }], guard := some (1, true) }) (v := ?_) rfl (by kernel_rfl) (by kernel_rfl) (by kernel_rfl) (fun _ _ _ h => h) (Or.inl ⟨by rfl, ?_⟩) (by assumption) ?_
          rotate_left
          · (intro wS hS; go_simp <;> with_reducible rfl)
          try simp only [Act.put, List.setIfInBounds_toArray, List.set_cons_zero, List.set_cons_succ]
          refine wpAnyH_take (i := 6) (oi := { dst := some 88, op := Op.fieldAddr 27 (Operand.tmp 87) 1, type := 0, pos := "law.go:32", after := #[{ on := 5, ground := Ground.data }, { on := 1, ground := Ground.guard }], guard := some (1, true) }) (v := ?_) rfl (by kernel_rfl) (by kernel_rfl) (by kernel_rfl) (fun _ _ _ h => h) (Or.inl ⟨by rfl, ?_⟩) (by assumption) ?_
          rotate_left
          · (intro wS hS; go_simp <;> with_reducible rfl)
          try simp only [Act.put, List.setIfInBounds_toArray, List.set_cons_zero, List.set_cons_succ]
          refine wpAnyH_take (i := 7) (oi := { dst := some 89, op := Op.load 22 (Operand.tmp 88), type := 22, pos := "law.go:32", after := #[{ on := 6, ground := Ground.data }, { on := 1, ground := Ground.guard }], guard := some (1, true) }) (v := ?_) rfl (by kernel_rfl) (by kernel_rfl) (by kernel_rfl) (fun _ _ _ h => h) (Or.inl ⟨by rfl, ?_⟩) (by assumption) ?_
          rotate_left
          · (intro wS hS; have c3 := cell_below hS c3; have x0 := cell_below hS x0; have x1 := cell_below hS x1; have e0 := cell_below hS e0; have e1 := cell_below hS e1; have f0 := cell_below hS f0; have f1 := cell_below hS f1; go_simp <;> with_reducible rfl)
          try simp only [Act.put, List.setIfInBounds_toArray, List.set_cons_zero, List.set_cons_succ]
          refine wpAnyH_take (i := 8) (oi := { dst := some 90, op := Op.fieldAddr 27 (Operand.tmp 3) 3, type := 0, pos := "law.go:32", after := #[{ on := 1, ground := Ground.guard }], guard := some (1, true) }) (v := ?_) rfl (by kernel_rfl) (by kernel_rfl) (by kernel_rfl) (fun _ _ _ h => h) (Or.inl ⟨by rfl, ?_⟩) (by assumption) ?_
          rotate_left
          · (intro wS hS; go_simp <;> with_reducible rfl)
          try simp only [Act.put, List.setIfInBounds_toArray, List.set_cons_zero, List.set_cons_succ]
          refine wpAnyH_take (i := 9) (oi := { dst := some 91, op := Op.load 25 (Operand.tmp 90), type := 25, pos := "law.go:32", after := #[{ on := 8, ground := Ground.data }, { on := 1, ground := Ground.guard }], guard := some (1, true) }) (v := ?_) rfl (by kernel_rfl) (by kernel_rfl) (by kernel_rfl) (fun _ _ _ h => h) (Or.inl ⟨by rfl, ?_⟩) (by assumption) ?_
          rotate_left
          · (intro wS hS; have c3 := cell_below hS c3; have x0 := cell_below hS x0; have x1 := cell_below hS x1; have e0 := cell_below hS e0; have e1 := cell_below hS e1; have f0 := cell_below hS f0; have f1 := cell_below hS f1; go_simp <;> with_reducible rfl)
          try simp only [Act.put, List.setIfInBounds_toArray, List.set_cons_zero, List.set_cons_succ]
          refine wpAnyH_take (i := 10) (oi := { dst := some 92, op := Op.indexAddr 25 (Operand.tmp 91) (Operand.const (Value.int IntKind.i64 1)), type := 0, pos := "law.go:32", after := #[{ on := 9, ground := Ground.data }, { on := 1, ground := Ground.guard }], guard := some (1, true) }) (v := ?_) rfl (by kernel_rfl) (by kernel_rfl) (by kernel_rfl) (fun _ _ _ h => h) (Or.inl ⟨by rfl, ?_⟩) (by assumption) ?_
          rotate_left
          · (intro wS hS; go_simp <;> with_reducible rfl)
          try simp only [Act.put, List.setIfInBounds_toArray, List.set_cons_zero, List.set_cons_succ]
          refine wpAnyH_take (i := 11) (oi := { dst := some 93, op := Op.fieldAddr 27 (Operand.tmp 92) 1, type := 0, pos := "law.go:32", after := #[{ on := 10, ground := Ground.data }, { on := 1, ground := Ground.guard }], guard := some (1, true) }) (v := ?_) rfl (by kernel_rfl) (by kernel_rfl) (by kernel_rfl) (fun _ _ _ h => h) (Or.inl ⟨by rfl, ?_⟩) (by assumption) ?_
          rotate_left
          · (intro wS hS; go_simp <;> with_reducible rfl)
          try simp only [Act.put, List.setIfInBounds_toArray, List.set_cons_zero, List.set_cons_succ]
          refine wpAnyH_take (i := 12) (oi := { dst := some 94, op := Op.load 22 (Operand.tmp 93), type := 22, pos := "law.go:32", after := #[{ on := 11, ground := Ground.data }, { on := 1, ground := Ground.guard }], guard := some (1, true) }) (v := ?_) rfl (by kernel_rfl) (by kernel_rfl) (by kernel_rfl) (fun _ _ _ h => h) (Or.inl ⟨by rfl, ?_⟩) (by assumption) ?_
          rotate_left
          · (intro wS hS; have c3 := cell_below hS c3; have x0 := cell_below hS x0; have x1 := cell_below hS x1; have e0 := cell_below hS e0; have e1 := cell_below hS e1; have f0 := cell_below hS f0; have f1 := cell_below hS f1; go_simp <;> with_reducible rfl)
          try simp only [Act.put, List.setIfInBounds_toArray, List.set_cons_zero, List.set_cons_succ]
          refine wpAnyH_take (i := 13) (oi := { dst := some 95, op := Op.build 24 #[(0, Operand.tmp 89), (1, Operand.tmp 94)], type := 24, pos := "law.go:32", after := #[{ on := 7, ground := Ground.data }, { on := 12, ground := Ground.data }, { on := 1, ground := Ground.guard }], guard := some (1, true) }) (v := ?_) rfl (by kernel_rfl) (by kernel_rfl) (by kernel_rfl) (fun _ _ _ h => h) (Or.inl ⟨by rfl, ?_⟩) (by assumption) ?_
          rotate_left
          · (intro wS hS; go_simp <;> with_reducible rfl)
          try simp only [Act.put, List.setIfInBounds_toArray, List.set_cons_zero, List.set_cons_succ]
          refine wpAnyH_take (i := 14) (oi := { dst := some 96, op := Op.binOp BinOp.eql 24 (Operand.tmp 84) (Operand.tmp 95) 24, type := 4, pos := "law.go:32", after := #[{ on := 2, ground := Ground.data }, { on := 13, ground := Ground.data }, { on := 1, ground := Ground.guard }], guard := some (1, true) }) (v := ?_) rfl (by kernel_rfl) (by kernel_rfl) (by kernel_rfl) (fun _ _ _ h => h) (Or.inl ⟨by rfl, ?_⟩) (by assumption) ?_
          rotate_left
          · (intro wS hS; go_simp <;> with_reducible rfl)
          try simp only [Act.put, List.setIfInBounds_toArray, List.set_cons_zero, List.set_cons_succ]
          refine wpAnyH_take (i := 15) (oi := { dst := some 97, op := Op.pick (Operand.tmp 83) (Operand.tmp 96) (Operand.const (Value.bool false)), type := 4, pos := "law.go:32", after := #[{ on := 1, ground := Ground.data }, { on := 14, ground := Ground.data }], guard := none }) (v := ?_) rfl (by kernel_rfl) (by kernel_rfl) (by kernel_rfl) (fun _ _ _ h => h) (Or.inl ⟨by rfl, ?_⟩) (by assumption) ?_
          rotate_left
          · (intro wS hS; go_simp <;> with_reducible rfl)
          try simp only [Act.put, List.setIfInBounds_toArray, List.set_cons_zero, List.set_cons_succ]
          refine wpAnyH_take (i := 16) (oi := { dst := some 98, op := Op.move (Operand.tmp 97), type := 4, pos := "law.go:32", after := #[{ on := 15, ground := Ground.data }, { on := 1, ground := Ground.chain }], guard := none }) (v := ?_) rfl (by kernel_rfl) (by kernel_rfl) (by kernel_rfl) (fun _ _ _ h => h) (Or.inl ⟨by rfl, ?_⟩) (by assumption) ?_
          rotate_left
          · (intro wS hS; go_simp <;> with_reducible rfl)
          try simp only [Act.put, List.setIfInBounds_toArray, List.set_cons_zero, List.set_cons_succ]
          refine wpAnyH_take (i := 17) (oi := { dst := some 99, op := Op.move (Operand.tmp 11), type := 32, pos := "law.go:32", after := #[{ on := 16, ground := Ground.guard }], guard := some (16, true) }) (v := ?_) rfl (by kernel_rfl) (by kernel_rfl) (by kernel_rfl) (fun _ _ _ h => h) (Or.inl ⟨by rfl, ?_⟩) (by assumption) ?_
          rotate_left
          · (intro wS hS; go_simp <;> with_reducible rfl)
          try simp only [Act.put, List.setIfInBounds_toArray, List.set_cons_zero, List.set_cons_succ]
          refine wpAnyH_take (i := 18) (oi := { dst := some 100, op := Op.binOp BinOp.eql 32 (Operand.tmp 99) (Operand.const (Value.int IntKind.i64 0)) 32, type := 4, pos := "law.go:32", after := #[{ on := 17, ground := Ground.data }, { on := 16, ground := Ground.guard }], guard := some (16, true) }) (v := ?_) rfl (by kernel_rfl) (by kernel_rfl) (by kernel_rfl) (fun _ _ _ h => h) (Or.inl ⟨by rfl, ?_⟩) (by assumption) ?_
          rotate_left
          · (intro wS hS; go_simp <;> with_reducible rfl)
          try simp only [Act.put, List.setIfInBounds_toArray, List.set_cons_zero, List.set_cons_succ]
          refine wpAnyH_take (i := 19) (oi := { dst := some 101, op := Op.pick (Operand.tmp 98) (Operand.tmp 100) (Operand.const (Value.bool false)), type := 4, pos := "law.go:32", after := #[{ on := 16, ground := Ground.data }, { on := 18, ground := Ground.data }], guard := none }) (v := ?_) rfl (by kernel_rfl) (by kernel_rfl) (by kernel_rfl) (fun _ _ _ h => h) (Or.inl ⟨by rfl, ?_⟩) (by assumption) ?_
          rotate_left
          · (intro wS hS; go_simp <;> with_reducible rfl)
          try simp only [Act.put, List.setIfInBounds_toArray, List.set_cons_zero, List.set_cons_succ]
          refine wpAnyH_take (i := 20) (oi := { dst := some 4, op := Op.assign (Operand.tmp 101), type := 4, pos := "law.go:32", after := #[{ on := 19, ground := Ground.data }, { on := 16, ground := Ground.chain }, { on := 0, ground := Ground.phase }, { on := 1, ground := Ground.phase }, { on := 2, ground := Ground.phase }, { on := 3, ground := Ground.phase }, { on := 4, ground := Ground.phase }, { on := 5, ground := Ground.phase }, { on := 6, ground := Ground.phase }, { on := 7, ground := Ground.phase }, { on := 8, ground := Ground.phase }, { on := 9, ground := Ground.phase }, { on := 10, ground := Ground.phase }, { on := 11, ground := Ground.phase }, { on := 12, ground := Ground.phase }, { on := 13, ground := Ground.phase }, { on := 14, ground := Ground.phase }, { on := 15, ground := Ground.phase }, { on := 16, ground := Ground.phase }, { on := 17, ground := Ground.phase }, { on := 18, ground := Ground.phase }, { on := 19, ground := Ground.phase }], guard := none }) (v := ?_) rfl (by kernel_rfl) (by kernel_rfl) (by kernel_rfl) (fun _ _ _ h => h) (Or.inl ⟨by rfl, ?_⟩) (by assumption) ?_
          rotate_left
          · (intro wS hS; go_simp <;> with_reducible rfl)
          try simp only [Act.put, List.setIfInBounds_toArray, List.set_cons_zero, List.set_cons_succ]
          refine wpAnyH_done (by kernel_rfl) ?_ _
          replace hB := hB.trans (below_of hS hB.size)
          clear hS
          go_wp2_with fail
          go_ret
          exact ⟨rfl, hB⟩
        · have KO := Lib.hid (stof_no hu (fun hh => by
            obtain ⟨-, a', b', hl', -, kb'⟩ := hh
            rw [hl] at hl'
            obtain ⟨rfl, rfl⟩ : a = a' ∧ b = b' := by simpa using hl'
            exact kb kb'))
          rw [ka] at e0
          have g1 : (b.kind == 0) = false := by rw [beq_eq_false_iff_ne]; exact kb
          clear hu h4 hl ka kb HV HR HVV HKD HLN
          generalize b.kind = bk at *
          go_wp2_with fail
          refine KO.out.mono ?_
          rintro e w7 ⟨rfl, hb⟩
          replace hB := below_trans hB hb
          replace c0 := cell_below hb c0
          replace c1 := cell_below hb c1
          replace c2 := cell_below hb c2
          replace c3 := cell_below hb c3
          replace e0 := cell_below hb e0
          replace f0 := cell_below hb f0
          clear hb KO
          obtain ⟨hb, hca⟩ := one_cells w7 #[.int .u64 0, .int .u64 0] 24
          have x0 := hca 0 _ rfl
          have x1 := hca 1 _ rfl
          replace hB := below_trans hB hb
          replace c0 := cell_below hb c0
          replace c1 := cell_below hb c1
          replace c2 := cell_below hb c2
          replace c3 := cell_below hb c3
          replace e0 := cell_below hb e0
          replace f0 := cell_below hb f0
          clear hb hca
          go_upto_region 9 with fail
          generalize w7.alloc (.cells #[.int .u64 0, .int .u64 0] 24) = w8 at *
          go_wp2_with fail
          refine (awake08_any _).mono ?_
          rintro e w9 ⟨rfl, hb⟩
          replace hB := below_trans hB hb
          replace x0 := cell_below hb x0
          replace x1 := cell_below hb x1
          clear hb
          go_wp2_with fail
          go_ret
          exact ⟨rfl, hB⟩
      · have KO := Lib.hid (stof_no hu (fun hh => by
          obtain ⟨-, a', b', hl', ka', -⟩ := hh
          rw [hl] at hl'
          obtain ⟨rfl, rfl⟩ : a = a' ∧ b = b' := by simpa using hl'
          exact ka ka'))
        have g1 : (a.kind == 0) = false := by rw [beq_eq_false_iff_ne]; exact ka
        clear hu h4 hl ka HV HR HVV HKD HLN f0 f1 e1
        generalize a.kind = bk at *
        go_wp2_with fail
        refine KO.out.mono ?_
        rintro e w7 ⟨rfl, hb⟩
        replace hB := below_trans hB hb
        replace c0 := cell_below hb c0
        replace c1 := cell_below hb c1
        replace c2 := cell_below hb c2
        replace c3 := cell_below hb c3
        replace e0 := cell_below hb e0
        clear hb KO
        obtain ⟨hb, hca⟩ := one_cells w7 #[.int .u64 0, .int .u64 0] 24
        have x0 := hca 0 _ rfl
        have x1 := hca 1 _ rfl
        replace hB := below_trans hB hb
        replace c0 := cell_below hb c0
        replace c1 := cell_below hb c1
        replace c2 := cell_below hb c2
        replace c3 := cell_below hb c3
        replace e0 := cell_below hb e0
        clear hb hca
        go_upto_region 9 with fail
        generalize w7.alloc (.cells #[.int .u64 0, .int .u64 0] 24) = w8 at *
        go_wp2_with fail
        refine (awake08_any _).mono ?_
        rintro e w9 ⟨rfl, hb⟩
        replace hB := below_trans hB hb
        replace x0 := cell_below hb x0
        replace x1 := cell_below hb x1
        clear hb
        go_wp2_with fail
        go_ret
        exact ⟨rfl, hB⟩
    · have KO := Lib.hid (stof_no hu (fun hh => by
        obtain ⟨-, a', b', hl', -, -⟩ := hh
        have := HLN.out
        rw [hl'] at this
        exact hk2 this))
      have g1 : ((ln : Int) == 2) = false := by rw [beq_eq_false_iff_ne]; omega
      subst hk
      clear hu HV HR HVV HKD HLN hk2
      go_wp2_with fail
      refine KO.out.mono ?_
      rintro e w7 ⟨rfl, hb⟩
      replace hB := below_trans hB hb
      replace c0 := cell_below hb c0
      replace c1 := cell_below hb c1
      replace c2 := cell_below hb c2
      replace c3 := cell_below hb c3
      clear hb KO
      obtain ⟨hb, hca⟩ := one_cells w7 #[.int .u64 0, .int .u64 0] 24
      have x0 := hca 0 _ rfl
      have x1 := hca 1 _ rfl
      replace hB := below_trans hB hb
      replace c0 := cell_below hb c0
      replace c1 := cell_below hb c1
      replace c2 := cell_below hb c2
      replace c3 := cell_below hb c3
      clear hb hca
      go_upto_region 9 with fail
      generalize w7.alloc (.cells #[.int .u64 0, .int .u64 0] 24) = w8 at *
      go_wp2_with fail
      refine (awake08_any _).mono ?_
      rintro e w9 ⟨rfl, hb⟩
      replace hB := below_trans hB hb
      replace x0 := cell_below hb x0
      replace x1 := cell_below hb x1
      clear hb
      go_wp2_with fail
      go_ret
      exact ⟨rfl, hB⟩
  · have KO := Lib.hid (stof_no hu (fun hh => hk (HKD.out.trans hh.1)))
    have g1 : (kd == 4) = false := by rw [beq_eq_false_iff_ne]; exact hk
    clear hu HV HR HVV HKD HLN hk
    go_wp2_with fail
    refine KO.out.mono ?_
    rintro e w7 ⟨rfl, hb⟩
    replace hB := below_trans hB hb
    replace c0 := cell_below hb c0
    replace c1 := cell_below hb c1
    replace c2 := cell_below hb c2
    replace c3 := cell_below hb c3
    clear hb KO
    obtain ⟨hb, hca⟩ := one_cells w7 #[.int .u64 0, .int .u64 0] 24
    have x0 := hca 0 _ rfl
    have x1 := hca 1 _ rfl
    replace hB := below_trans hB hb
    replace c0 := cell_below hb c0
    replace c1 := cell_below hb c1
    replace c2 := cell_below hb c2
    replace c3 := cell_below hb c3
    clear hb hca
    go_upto_region 9 with fail
    generalize w7.alloc (.cells #[.int .u64 0, .int .u64 0] 24) = w8 at *
    go_wp2_with fail
    refine (awake08_any _).mono ?_
    rintro e w9 ⟨rfl, hb⟩
    replace hB := below_trans hB hb
    replace x0 := cell_below hb x0
    replace x1 := cell_below hb x1
    clear hb
    go_wp2_with fail
    go_ret
    exact ⟨rfl, hB⟩
end Go.Proofs.YtieigjlbjiielaaDoor
