/- Contract of the reference's Text of a reply. No condition but lengths' bounds. -/
import Derived.Test.YtefipigdkdopcaaRep9
import Derived.Test.YtefipigdkdopcaaFrame6P
import Derived.Test.YtefipigdkdopcaaR35
import Derived.Deep.DeepCutAuto
namespace Go.Proofs.Ytefipigdkdopcaa
open Go.RowKit

abbrev jt (ws : List (List UInt8)) : List UInt8 := Lib.joinTail [32] ws
theorem jt_append (a b : List (List UInt8)) : jt (a ++ b) = jt a ++ jt b := by simp [Lib.joinTail]
theorem jt_fr (f : Fr) : jt (frW f) = [32, 102, 114, 97, 109, 101, 32] ++ hexS (frB f) := by simp [Lib.joinTail, frW]
theorem jt_pr (x : Nat × Nat) : jt (prW x) = [32, 108, 111, 115, 116, 32] ++ digs x.1 ++ [32] ++ digs x.2 := by simp [Lib.joinTail, prW]
theorem jt_in (v : Int) : jt (inW v) = [32, 99, 111, 117, 110, 116, 32] ++ digs v.toNat := by simp [Lib.joinTail, inW]
theorem textR_jt (e : Int) (n : Nat) (fs : List Fr) (ls : List (Nat × Nat)) (cs : List Int) : textR e n fs ls cs = (digs e.toNat ++ [32] ++ digs n) ++ (jt (fs.flatMap frW) ++ (jt (ls.flatMap prW) ++ (jt (cs.flatMap inW) ++ [10]))) := by
  unfold textR wordsT restW
  have h1 : jt [digs n] = [32] ++ digs n := by simp [Lib.joinTail]
  have h2 : Lib.join ([digs e.toNat, digs n] ++ (fs.flatMap frW ++ ls.flatMap prW ++ cs.flatMap inW)) [32] = digs e.toNat ++ jt ([digs n] ++ (fs.flatMap frW ++ ls.flatMap prW ++ cs.flatMap inW)) := by
    rw [List.cons_append, Lib.join_cons]
  rw [h2, jt_append, jt_append, jt_append, h1]
  simp only [List.append_assoc]
theorem drop_flat {α : Type} (g : α → List (List UInt8)) (l : List α) (j : Nat) (h : j < l.length) : jt ((l.drop j).flatMap g) = jt (g l[j]) ++ jt ((l.drop (j + 1)).flatMap g) := by
  rw [List.drop_eq_getElem_cons h, List.flatMap_cons, jt_append]

set_option maxRecDepth 100000 in
set_option maxHeartbeats 8000000 in
theorem reftext36_any (e : Int) (n : Nat) (fs : List Fr) (ls : List (Nat × Nat)) (cs : List Int) (A : Option Addr) (a1 a2 : Nat) (B : Option Addr) (b1 b2 : Nat) (C : Option Addr) (c1 c2 : Nat) (w : World)
    (hf : Rd w A a1 a2 5 (frCs fs)) (hl : Rd w B b1 b2 2 (prCs ls)) (hc : Rd w C c1 c2 1 (inCs cs)) (hg : GoodR e n fs ls cs) :
    Calls Try.prog 28 #[rpl e n A a1 a2 B b1 b2 C c1 c2] w fun x w' => x = .returned (.string ⟨(textR e n fs ls cs).toArray⟩) ∧ Below w.heap.size w w' := by
  have hfl := hf.flen
  have hll := hl.plen
  have hcl := hc.ilen
  have hn1 := hg.nf
  have hn2 := hg.nl
  have hn3 := hg.nc
  obtain ⟨hB, hca⟩ := one_cells w (rplCs e n A a1 a2 B b1 b2 C c1 c2) 47
  have p0 := hca 0 (.int .i64 e) rfl
  have p1 := hca 1 (.int .u64 (n : Int)) rfl
  have p2 := hca 2 (.slice A a1 a2) rfl
  have p3 := hca 3 (.slice B b1 b2) rfl
  have p4 := hca 4 (.slice C c1 c2) rfl
  replace hf := hf.below hB
  replace hl := hl.below hB
  replace hc := hc.below hB
  have htl := textR_bound hg
  have HT := Lib.hid (textR_jt e n fs ls cs)
  have he0 := hg.e0
  have he1 := hg.e1
  have hnn := hg.hn
  have HG := Lib.hid hg
  clear hca hg
  obtain ⟨E, rfl⟩ : ∃ E : Nat, e = E := ⟨e.toNat, by omega⟩
  rw [Int.toNat_natCast] at HT
  have KD0 := fun W => Lib.hid (digits7_any E W (by omega))
  have KD1 := fun W => Lib.hid (digits7_any n W (by omega))
  generalize textR E n fs ls cs = tx at *
  have hdl := HT.out
  have hd1 : (digs E).length + 1 + (digs n).length ≤ 90001 := by
    have := congrArg List.length hdl
    simp only [List.length_append, List.length_cons, List.length_nil] at this
    omega
  clear hdl
  go_enter Try.func28, Try.ntmps28
  go_wp2_with fail
  generalize w.alloc (.cells (rplCs E n A a1 a2 B b1 b2 C c1 c2) 47) = w1 at *
  have hwE : IntKind.u64.wrap (E : Int) = E := by rw [wrap_u64]; omega
  have l1 : ¬ (9223372036854775807 < (digs E).length + 1) := by omega
  have l2 : ¬ (9223372036854775807 < (digs E).length + 1 + (digs n).length) := by omega
  go_upto_region 1 with fail
  refine wp_region_held (S := fun W => Below (w1).heap.size (w1) W) (by kernel_rfl) ?_
  change wpAnyH _ _ _ _ _ _ _ _ (w1).drew
  have hS : (fun W => Below (w1).heap.size (w1) W) (w1).drew := (Below.refl _ _).drew
  refine wpAnyH_take (i := 0) (oi := { dst := some 7, op := Op.fieldAddr 47 (Operand.tmp 1) 0, type := 0, pos := "ref.go:47", after := #[], guard := none }) (v := ?_) rfl (by kernel_rfl) (by kernel_rfl) (by kernel_rfl) (fun _ _ _ h => h) (Or.inl ⟨by rfl, ?_⟩) (by assumption) ?_
  rotate_left
  · (intro wS hS; go_simp <;> with_reducible rfl)
  try simp only [Act.put, List.setIfInBounds_toArray, List.set_cons_zero, List.set_cons_succ]
  refine wpAnyH_take (i := 1) (oi := { dst := some 8, op := Op.load 25 (Operand.tmp 7), type := 25, pos := "ref.go:47", after := #[{ on := 0, ground := Ground.data }], guard := none }) (v := ?_) rfl (by kernel_rfl) (by kernel_rfl) (by kernel_rfl) (fun _ _ _ h => h) (Or.inl ⟨by rfl, ?_⟩) (by assumption) ?_
  rotate_left
  · (intro wS hS; have p0 := cell_below hS p0; have p1 := cell_below hS p1; go_simp <;> with_reducible rfl)
  try simp only [Act.put, List.setIfInBounds_toArray, List.set_cons_zero, List.set_cons_succ]
  refine wpAnyH_take (i := 2) (oi := { dst := some 9, op := Op.convert 25 22 (Operand.tmp 8), type := 22, pos := "ref.go:47", after := #[{ on := 1, ground := Ground.data }], guard := none }) (v := ?_) rfl (by kernel_rfl) (by kernel_rfl) (by kernel_rfl) (fun _ _ _ h => h) (Or.inl ⟨by rfl, ?_⟩) (by assumption) ?_
  rotate_left
  · (intro wS hS; go_simp <;> with_reducible rfl)
  try simp only [Act.put, List.setIfInBounds_toArray, List.set_cons_zero, List.set_cons_succ]
  refine wpAnyH_take (i := 5) (oi := { dst := some 12, op := Op.fieldAddr 47 (Operand.tmp 1) 1, type := 0, pos := "ref.go:47", after := #[], guard := none }) (v := ?_) rfl (by kernel_rfl) (by kernel_rfl) (by kernel_rfl) (fun _ _ _ h => h) (Or.inl ⟨by rfl, ?_⟩) (by assumption) ?_
  rotate_left
  · (intro wS hS; go_simp <;> with_reducible rfl)
  try simp only [Act.put, List.setIfInBounds_toArray, List.set_cons_zero, List.set_cons_succ]
  refine wpAnyH_take (i := 6) (oi := { dst := some 13, op := Op.load 22 (Operand.tmp 12), type := 22, pos := "ref.go:47", after := #[{ on := 5, ground := Ground.data }], guard := none }) (v := ?_) rfl (by kernel_rfl) (by kernel_rfl) (by kernel_rfl) (fun _ _ _ h => h) (Or.inl ⟨by rfl, ?_⟩) (by assumption) ?_
  rotate_left
  · (intro wS hS; have p0 := cell_below hS p0; have p1 := cell_below hS p1; go_simp <;> with_reducible rfl)
  try simp only [Act.put, List.setIfInBounds_toArray, List.set_cons_zero, List.set_cons_succ]
  refine wpAnyH_ready (rs := [3]) (by kernel_rfl) (by simp) ?_
  refine AllReadyH.cons (o := { dst := some 10, op := Op.call { callee := Callee.value (Operand.func 60), args := #[Operand.tmp 9], argTypes := #[22] }, type := 9, pos := "ref.go:47", after := #[{ on := 2, ground := Ground.data }], guard := none }) rfl (fun K hK => ?_) AllReadyH.nil
  go_simp
  refine (KD0 _).out.mono ?_
  rintro e w103 ⟨rfl, rfl⟩
  refine hK.out _ _ hS (fun _ => ?_)
  clear hK K
  try simp only [Act.put, List.setIfInBounds_toArray, List.set_cons_zero, List.set_cons_succ]
  refine wpAnyH_take (i := 4) (oi := { dst := some 11, op := Op.binOp BinOp.add 9 (Operand.tmp 10) (Operand.const (Value.string { data := #[32] })) 9, type := 9, pos := "ref.go:47", after := #[{ on := 3, ground := Ground.data }], guard := none }) (v := ?_) rfl (by kernel_rfl) (by kernel_rfl) (by kernel_rfl) (fun _ _ _ h => h) (Or.inl ⟨by rfl, ?_⟩) (by assumption) ?_
  rotate_left
  · (intro wS hS; go_simp <;> with_reducible rfl)
  try simp only [Act.put, List.setIfInBounds_toArray, List.set_cons_zero, List.set_cons_succ]
  refine wpAnyH_ready (rs := [7]) (by kernel_rfl) (by simp) ?_
  refine AllReadyH.cons (o := { dst := some 14, op := Op.call { callee := Callee.value (Operand.func 60), args := #[Operand.tmp 13], argTypes := #[22] }, type := 9, pos := "ref.go:47", after := #[{ on := 6, ground := Ground.data }, { on := 3, ground := Ground.chain }], guard := none }) rfl (fun K hK => ?_) AllReadyH.nil
  go_simp
  refine (KD1 _).out.mono ?_
  rintro e w107 ⟨rfl, rfl⟩
  refine hK.out _ _ hS (fun _ => ?_)
  clear hK K
  try simp only [Act.put, List.setIfInBounds_toArray, List.set_cons_zero, List.set_cons_succ]
  refine wpAnyH_take (i := 8) (oi := { dst := some 15, op := Op.binOp BinOp.add 9 (Operand.tmp 11) (Operand.tmp 14) 9, type := 9, pos := "ref.go:47", after := #[{ on := 4, ground := Ground.data }, { on := 7, ground := Ground.data }], guard := none }) (v := ?_) rfl (by kernel_rfl) (by kernel_rfl) (by kernel_rfl) (fun _ _ _ h => h) (Or.inl ⟨by rfl, ?_⟩) (by assumption) ?_
  rotate_left
  · (intro wS hS; go_simp <;> with_reducible rfl)
  try simp only [Act.put, List.setIfInBounds_toArray, List.set_cons_zero, List.set_cons_succ]
  refine wpAnyH_take (i := 9) (oi := { dst := some 3, op := Op.assign (Operand.tmp 15), type := 9, pos := "ref.go:47", after := #[{ on := 8, ground := Ground.data }, { on := 7, ground := Ground.chain }, { on := 0, ground := Ground.phase }, { on := 1, ground := Ground.phase }, { on := 2, ground := Ground.phase }, { on := 3, ground := Ground.phase }, { on := 4, ground := Ground.phase }, { on := 5, ground := Ground.phase }, { on := 6, ground := Ground.phase }, { on := 7, ground := Ground.phase }, { on := 8, ground := Ground.phase }], guard := none }) (v := ?_) rfl (by kernel_rfl) (by kernel_rfl) (by kernel_rfl) (fun _ _ _ h => h) (Or.inl ⟨by rfl, ?_⟩) (by assumption) ?_
  rotate_left
  · (intro wS hS; go_simp <;> with_reducible rfl)
  try simp only [Act.put, List.setIfInBounds_toArray, List.set_cons_zero, List.set_cons_succ]
  refine wpAnyH_done (by kernel_rfl) ?_ _
  go_wp2_with fail
  clear l1 l2 KD0 KD1 p0 p1
  have hcm := hl.cm
  have hcm2 := hc.cm
  have hcm3 := hf.cm
  unfold maxLen at hcm hcm2 hcm3
  go_loopw [3, 4] (fun v i wr => ∃ (j : Nat) (acc : List UInt8), v = .string ⟨acc.toArray⟩ ∧ j ≤ a1 ∧ i = .int .i64 j ∧ Hid (tx = acc ++ (jt ((fs.drop j).flatMap frW) ++ (jt (ls.flatMap prW) ++ (jt (cs.flatMap inW) ++ [10])))) ∧ Below w1.heap.size w1 wr) (fun _ i _ => a1 - (intOf i).toNat)
  case atStart => exact ⟨0, digs E ++ [32] ++ digs n, by rw [← cat_bytes, ← cat_bytes], by omega, rfl, HT, hS⟩
  case round =>
    obtain ⟨j, acc, rfl, hj, rfl, HX, hBr⟩ := hrel
    clear HT
    have k2 := cell_below hBr p2
    by_cases hlt : j < a1
    · obtain ⟨ad, rfl⟩ := hf.some_of_pos (by omega)
      obtain ⟨e0, e1, e2, e3, e4⟩ := (hf.below hBr).frame j (by omega)
      have HX2 := HX.out
      rw [drop_flat frW fs j (by omega), jt_fr] at HX2
      have hm := HG.out.hf fs[j] (List.getElem_mem _)
      have hq1 : (j : Int) < a1 := by omega
      clear hf hl hc
      generalize fs[j] = f at *
      obtain ⟨nu, id, oi, ti, d⟩ := f
      obtain ⟨o, t, ho1, ht1, hmy⟩ := may1_nat hm
      dsimp only at ho1 ht1 hmy e0 e1 e2 e3 e4
      subst ho1
      subst ht1
      have hfb := frB_length (nu, id, (o : Int), (t : Int), d)
      have hdl := may1_len hm
      dsimp only at hdl hfb
      have KP := fun W => Lib.hid (refput32_any nu id o t d W hmy)
      rw [show frmP nu id o t d = frB (nu, id, (o : Int), (t : Int), d) from rfl] at KP
      have KH := fun W => Lib.hid (refhex_any (frB (nu, id, (o : Int), (t : Int), d)) W (by omega))
      generalize frB (nu, id, (o : Int), (t : Int), d) = fb at *
      have HX3 : Hid (tx = (acc ++ [32, 102, 114, 97, 109, 101, 32] ++ hexS fb) ++ (jt ((fs.drop (j + 1)).flatMap frW) ++ (jt (ls.flatMap prW) ++ (jt (cs.flatMap inW) ++ [10])))) := by
        show _ = _
        rw [HX2]; simp only [List.append_assoc]
      have hal : acc.length + 7 + (hexS fb).length ≤ 90001 := by
        have := congrArg List.length HX3.out
        simp only [List.length_append, List.length_cons, List.length_nil] at this
        omega
      clear HX HX2 hm hmy hfb hdl
      generalize hexS fb = hx at *
      go_wp2_with fail
      refine (KP _).out.mono ?_
      rintro x w3 ⟨rfl, hb⟩
      replace hBr := below_trans hBr hb
      clear hb KP k2 e0 e1 e2 e3 e4
      go_wp2_with fail
      refine (KH _).out.mono ?_
      rintro x w4 ⟨rfl, hb⟩
      replace hBr := below_trans hBr hb
      clear hb KH
      go_wp2_with fail
      go_roundw
      case rel => exact ⟨j + 1, acc ++ [32, 102, 114, 97, 109, 101, 32] ++ hx, by rw [← cat_bytes, ← cat_bytes], by omega, by go_num, HX3, hBr⟩
      case measure => simp [intOf]; omega
    · obtain rfl : j = a1 := by omega
      have hj0 : jt ((fs.drop j).flatMap frW) = [] := by rw [List.drop_eq_nil_of_le (by omega)]; rfl
      rw [hj0, List.nil_append] at HX
      have hjn : ¬ (j : Int) < (j : Int) := by omega
      have k3 := cell_below hBr p3
      clear hf hj0
      go_wp2_with fail
      clear k2 k3 hjn
      go_loopw [3, 5] (fun v i wr => ∃ (k : Nat) (acc : List UInt8), v = .string ⟨acc.toArray⟩ ∧ k ≤ b1 ∧ i = .int .i64 k ∧ Hid (tx = acc ++ (jt ((ls.drop k).flatMap prW) ++ (jt (cs.flatMap inW) ++ [10]))) ∧ Below w1.heap.size w1 wr) (fun _ i _ => b1 - (intOf i).toNat)
      case atStart => exact ⟨0, acc, rfl, by omega, rfl, HX, hBr⟩
      case round =>
        clear HX hBr
        obtain ⟨k, acc, rfl, hk, rfl, HX, hBr⟩ := hrel
        have k3 := cell_below hBr p3
        by_cases hlt : k < b1
        · obtain ⟨ad, rfl⟩ := hl.some_of_pos (by omega)
          obtain ⟨e0, e1⟩ := (hl.below hBr).pair k (by omega)
          have HX2 := HX.out
          rw [drop_flat prW ls k (by omega), jt_pr] at HX2
          have hxy := HG.out.hl ls[k] (List.getElem_mem _)
          have hq1 : (k : Int) < b1 := by omega
          clear hl hc
          generalize ls[k] = f at *
          obtain ⟨x, y⟩ := f
          dsimp only at e0 e1 hxy HX2
          have KX := fun W => Lib.hid (digits7_any x W (by omega))
          have KY := fun W => Lib.hid (digits7_any y W (by omega))
          have HX3 : Hid (tx = (acc ++ [32, 108, 111, 115, 116, 32] ++ digs x ++ [32] ++ digs y) ++ (jt ((ls.drop (k + 1)).flatMap prW) ++ (jt (cs.flatMap inW) ++ [10]))) := by
            show _ = _
            rw [HX2]; simp only [List.append_assoc]
          have hal : acc.length + 6 + (digs x).length + 1 + (digs y).length ≤ 90001 := by
            have := congrArg List.length HX3.out
            simp only [List.length_append, List.length_cons, List.length_nil] at this
            omega
          clear HX HX2 hxy
          generalize digs x = dx at *
          generalize digs y = dy at *
          have l1 : ¬ (9223372036854775807 < acc.length + 6) := by omega
          have l2 : ¬ (9223372036854775807 < acc.length + 6 + dx.length) := by omega
          have l3 : ¬ (9223372036854775807 < acc.length + 6 + dx.length + 1) := by omega
          have l4 : ¬ (9223372036854775807 < acc.length + 6 + dx.length + 1 + dy.length) := by omega
          have m1 : ((b1 : Int) ≤ k) = False := by rw [eq_iff_iff, iff_false]; omega
          go_upto_region 9 with fail
          refine wp_region_held (S := fun W => Below (wr).heap.size (wr) W) (by kernel_rfl) ?_
          change wpAnyH _ _ _ _ _ _ _ _ (wr).drew
          have hS : (fun W => Below (wr).heap.size (wr) W) (wr).drew := (Below.refl _ _).drew
          refine wpAnyH_take (i := 0) (oi := { dst := some 40, op := Op.move (Operand.tmp 3), type := 9, pos := "ref.go:52", after := #[], guard := none }) (v := ?_) rfl (by kernel_rfl) (by kernel_rfl) (by kernel_rfl) (fun _ _ _ h => h) (Or.inl ⟨by rfl, ?_⟩) (by assumption) ?_
          rotate_left
          · (intro wS hS; go_simp <;> with_reducible rfl)
          try simp only [Act.put, List.setIfInBounds_toArray, List.set_cons_zero, List.set_cons_succ]
          refine wpAnyH_take (i := 1) (oi := { dst := some 41, op := Op.binOp BinOp.add 9 (Operand.tmp 40) (Operand.const (Value.string { data := #[32, 108, 111, 115, 116, 32] })) 9, type := 9, pos := "ref.go:52", after := #[{ on := 0, ground := Ground.data }], guard := none }) (v := ?_) rfl (by kernel_rfl) (by kernel_rfl) (by kernel_rfl) (fun _ _ _ h => h) (Or.inl ⟨by rfl, ?_⟩) (by assumption) ?_
          rotate_left
          · (intro wS hS; go_simp <;> with_reducible rfl)
          try simp only [Act.put, List.setIfInBounds_toArray, List.set_cons_zero, List.set_cons_succ]
          refine wpAnyH_take (i := 2) (oi := { dst := some 42, op := Op.fieldAddr 47 (Operand.tmp 1) 3, type := 0, pos := "ref.go:52", after := #[], guard := none }) (v := ?_) rfl (by kernel_rfl) (by kernel_rfl) (by kernel_rfl) (fun _ _ _ h => h) (Or.inl ⟨by rfl, ?_⟩) (by assumption) ?_
          rotate_left
          · (intro wS hS; go_simp <;> with_reducible rfl)
          try simp only [Act.put, List.setIfInBounds_toArray, List.set_cons_zero, List.set_cons_succ]
          refine wpAnyH_take (i := 3) (oi := { dst := some 43, op := Op.load 44 (Operand.tmp 42), type := 44, pos := "ref.go:52", after := #[{ on := 2, ground := Ground.data }], guard := none }) (v := ?_) rfl (by kernel_rfl) (by kernel_rfl) (by kernel_rfl) (fun _ _ _ h => h) (Or.inl ⟨by rfl, ?_⟩) (by assumption) ?_
          rotate_left
          · (intro wS hS; have k3 := cell_below hS k3; have e0 := cell_below hS e0; have e1 := cell_below hS e1; go_simp <;> with_reducible rfl)
          try simp only [Act.put, List.setIfInBounds_toArray, List.set_cons_zero, List.set_cons_succ]
          refine wpAnyH_take (i := 4) (oi := { dst := some 44, op := Op.move (Operand.tmp 5), type := 3, pos := "ref.go:52", after := #[], guard := none }) (v := ?_) rfl (by kernel_rfl) (by kernel_rfl) (by kernel_rfl) (fun _ _ _ h => h) (Or.inl ⟨by rfl, ?_⟩) (by assumption) ?_
          rotate_left
          · (intro wS hS; go_simp <;> with_reducible rfl)
          try simp only [Act.put, List.setIfInBounds_toArray, List.set_cons_zero, List.set_cons_succ]
          refine wpAnyH_take (i := 5) (oi := { dst := some 45, op := Op.indexAddr 44 (Operand.tmp 43) (Operand.tmp 44), type := 0, pos := "ref.go:52", after := #[{ on := 3, ground := Ground.data }, { on := 4, ground := Ground.data }], guard := none }) (v := ?_) rfl (by kernel_rfl) (by kernel_rfl) (by kernel_rfl) (fun _ _ _ h => h) (Or.inl ⟨by rfl, ?_⟩) (by assumption) ?_
          rotate_left
          · (intro wS hS; go_simp <;> with_reducible rfl)
          try simp only [Act.put, List.setIfInBounds_toArray, List.set_cons_zero, List.set_cons_succ]
          refine wpAnyH_take (i := 6) (oi := { dst := some 46, op := Op.indexAddr 109 (Operand.tmp 45) (Operand.const (Value.int IntKind.i64 0)), type := 0, pos := "ref.go:52", after := #[{ on := 5, ground := Ground.data }], guard := none }) (v := ?_) rfl (by kernel_rfl) (by kernel_rfl) (by kernel_rfl) (fun _ _ _ h => h) (Or.inl ⟨by rfl, ?_⟩) (by assumption) ?_
          rotate_left
          · (intro wS hS; go_simp <;> with_reducible rfl)
          try simp only [Act.put, List.setIfInBounds_toArray, List.set_cons_zero, List.set_cons_succ]
          refine wpAnyH_take (i := 7) (oi := { dst := some 47, op := Op.load 22 (Operand.tmp 46), type := 22, pos := "ref.go:52", after := #[{ on := 6, ground := Ground.data }], guard := none }) (v := ?_) rfl (by kernel_rfl) (by kernel_rfl) (by kernel_rfl) (fun _ _ _ h => h) (Or.inl ⟨by rfl, ?_⟩) (by assumption) ?_
          rotate_left
          · (intro wS hS; have k3 := cell_below hS k3; have e0 := cell_below hS e0; have e1 := cell_below hS e1; go_simp <;> with_reducible rfl)
          try simp only [Act.put, List.setIfInBounds_toArray, List.set_cons_zero, List.set_cons_succ]
          refine wpAnyH_take (i := 11) (oi := { dst := some 51, op := Op.fieldAddr 47 (Operand.tmp 1) 3, type := 0, pos := "ref.go:52", after := #[], guard := none }) (v := ?_) rfl (by kernel_rfl) (by kernel_rfl) (by kernel_rfl) (fun _ _ _ h => h) (Or.inl ⟨by rfl, ?_⟩) (by assumption) ?_
          rotate_left
          · (intro wS hS; go_simp <;> with_reducible rfl)
          try simp only [Act.put, List.setIfInBounds_toArray, List.set_cons_zero, List.set_cons_succ]
          refine wpAnyH_take (i := 12) (oi := { dst := some 52, op := Op.load 44 (Operand.tmp 51), type := 44, pos := "ref.go:52", after := #[{ on := 11, ground := Ground.data }], guard := none }) (v := ?_) rfl (by kernel_rfl) (by kernel_rfl) (by kernel_rfl) (fun _ _ _ h => h) (Or.inl ⟨by rfl, ?_⟩) (by assumption) ?_
          rotate_left
          · (intro wS hS; have k3 := cell_below hS k3; have e0 := cell_below hS e0; have e1 := cell_below hS e1; go_simp <;> with_reducible rfl)
          try simp only [Act.put, List.setIfInBounds_toArray, List.set_cons_zero, List.set_cons_succ]
          refine wpAnyH_take (i := 13) (oi := { dst := some 53, op := Op.move (Operand.tmp 5), type := 3, pos := "ref.go:52", after := #[], guard := none }) (v := ?_) rfl (by kernel_rfl) (by kernel_rfl) (by kernel_rfl) (fun _ _ _ h => h) (Or.inl ⟨by rfl, ?_⟩) (by assumption) ?_
          rotate_left
          · (intro wS hS; go_simp <;> with_reducible rfl)
          try simp only [Act.put, List.setIfInBounds_toArray, List.set_cons_zero, List.set_cons_succ]
          refine wpAnyH_take (i := 14) (oi := { dst := some 54, op := Op.indexAddr 44 (Operand.tmp 52) (Operand.tmp 53), type := 0, pos := "ref.go:52", after := #[{ on := 12, ground := Ground.data }, { on := 13, ground := Ground.data }], guard := none }) (v := ?_) rfl (by kernel_rfl) (by kernel_rfl) (by kernel_rfl) (fun _ _ _ h => h) (Or.inl ⟨by rfl, ?_⟩) (by assumption) ?_
          rotate_left
          · (intro wS hS; go_simp <;> with_reducible rfl)
          try simp only [Act.put, List.setIfInBounds_toArray, List.set_cons_zero, List.set_cons_succ]
          refine wpAnyH_take (i := 15) (oi := { dst := some 55, op := Op.indexAddr 109 (Operand.tmp 54) (Operand.const (Value.int IntKind.i64 1)), type := 0, pos := "ref.go:52", after := #[{ on := 14, ground := Ground.data }], guard := none }) (v := ?_) rfl (by kernel_rfl) (by kernel_rfl) (by kernel_rfl) (fun _ _ _ h => h) (Or.inl ⟨by rfl, ?_⟩) (by assumption) ?_
          rotate_left
          · (intro wS hS; go_simp <;> with_reducible rfl)
          try simp only [Act.put, List.setIfInBounds_toArray, List.set_cons_zero, List.set_cons_succ]
          refine wpAnyH_take (i := 16) (oi := { dst := some 56, op := Op.load 22 (Operand.tmp 55), type := 22, pos := "ref.go:52", after := #[{ on := 15, ground := Ground.data }], guard := none }) (v := ?_) rfl (by kernel_rfl) (by kernel_rfl) (by kernel_rfl) (fun _ _ _ h => h) (Or.inl ⟨by rfl, ?_⟩) (by assumption) ?_
          rotate_left
          · (intro wS hS; have k3 := cell_below hS k3; have e0 := cell_below hS e0; have e1 := cell_below hS e1; go_simp <;> with_reducible rfl)
          try simp only [Act.put, List.setIfInBounds_toArray, List.set_cons_zero, List.set_cons_succ]
          refine wpAnyH_ready (rs := [8]) (by kernel_rfl) (by simp) ?_
          refine AllReadyH.cons (o := { dst := some 48, op := Op.call { callee := Callee.value (Operand.func 60), args := #[Operand.tmp 47], argTypes := #[22] }, type := 9, pos := "ref.go:52", after := #[{ on := 7, ground := Ground.data }], guard := none }) rfl (fun K hK => ?_) AllReadyH.nil
          go_simp
          refine (KX _).out.mono ?_
          rintro e w108 ⟨rfl, rfl⟩
          refine hK.out _ _ hS (fun _ => ?_)
          clear hK K
          try simp only [Act.put, List.setIfInBounds_toArray, List.set_cons_zero, List.set_cons_succ]
          refine wpAnyH_take (i := 9) (oi := { dst := some 49, op := Op.binOp BinOp.add 9 (Operand.tmp 41) (Operand.tmp 48) 9, type := 9, pos := "ref.go:52", after := #[{ on := 1, ground := Ground.data }, { on := 8, ground := Ground.data }], guard := none }) (v := ?_) rfl (by kernel_rfl) (by kernel_rfl) (by kernel_rfl) (fun _ _ _ h => h) (Or.inl ⟨by rfl, ?_⟩) (by assumption) ?_
          rotate_left
          · (intro wS hS; go_simp <;> with_reducible rfl)
          try simp only [Act.put, List.setIfInBounds_toArray, List.set_cons_zero, List.set_cons_succ]
          refine wpAnyH_take (i := 10) (oi := { dst := some 50, op := Op.binOp BinOp.add 9 (Operand.tmp 49) (Operand.const (Value.string { data := #[32] })) 9, type := 9, pos := "ref.go:52", after := #[{ on := 9, ground := Ground.data }], guard := none }) (v := ?_) rfl (by kernel_rfl) (by kernel_rfl) (by kernel_rfl) (fun _ _ _ h => h) (Or.inl ⟨by rfl, ?_⟩) (by assumption) ?_
          rotate_left
          · (intro wS hS; go_simp <;> with_reducible rfl)
          try simp only [Act.put, List.setIfInBounds_toArray, List.set_cons_zero, List.set_cons_succ]
          refine wpAnyH_ready (rs := [17]) (by kernel_rfl) (by simp) ?_
          refine AllReadyH.cons (o := { dst := some 57, op := Op.call { callee := Callee.value (Operand.func 60), args := #[Operand.tmp 56], argTypes := #[22] }, type := 9, pos := "ref.go:52", after := #[{ on := 16, ground := Ground.data }, { on := 8, ground := Ground.chain }], guard := none }) rfl (fun K hK => ?_) AllReadyH.nil
          go_simp
          refine (KY _).out.mono ?_
          rintro e w117 ⟨rfl, rfl⟩
          refine hK.out _ _ hS (fun _ => ?_)
          clear hK K
          try simp only [Act.put, List.setIfInBounds_toArray, List.set_cons_zero, List.set_cons_succ]
          refine wpAnyH_take (i := 18) (oi := { dst := some 58, op := Op.binOp BinOp.add 9 (Operand.tmp 50) (Operand.tmp 57) 9, type := 9, pos := "ref.go:52", after := #[{ on := 10, ground := Ground.data }, { on := 17, ground := Ground.data }], guard := none }) (v := ?_) rfl (by kernel_rfl) (by kernel_rfl) (by kernel_rfl) (fun _ _ _ h => h) (Or.inl ⟨by rfl, ?_⟩) (by assumption) ?_
          rotate_left
          · (intro wS hS; go_simp <;> with_reducible rfl)
          try simp only [Act.put, List.setIfInBounds_toArray, List.set_cons_zero, List.set_cons_succ]
          refine wpAnyH_take (i := 19) (oi := { dst := some 3, op := Op.assign (Operand.tmp 58), type := 9, pos := "ref.go:52", after := #[{ on := 18, ground := Ground.data }, { on := 17, ground := Ground.chain }, { on := 0, ground := Ground.phase }, { on := 1, ground := Ground.phase }, { on := 2, ground := Ground.phase }, { on := 3, ground := Ground.phase }, { on := 4, ground := Ground.phase }, { on := 5, ground := Ground.phase }, { on := 6, ground := Ground.phase }, { on := 7, ground := Ground.phase }, { on := 8, ground := Ground.phase }, { on := 9, ground := Ground.phase }, { on := 10, ground := Ground.phase }, { on := 11, ground := Ground.phase }, { on := 12, ground := Ground.phase }, { on := 13, ground := Ground.phase }, { on := 14, ground := Ground.phase }, { on := 15, ground := Ground.phase }, { on := 16, ground := Ground.phase }, { on := 17, ground := Ground.phase }, { on := 18, ground := Ground.phase }], guard := none }) (v := ?_) rfl (by kernel_rfl) (by kernel_rfl) (by kernel_rfl) (fun _ _ _ h => h) (Or.inl ⟨by rfl, ?_⟩) (by assumption) ?_
          rotate_left
          · (intro wS hS; go_simp <;> with_reducible rfl)
          try simp only [Act.put, List.setIfInBounds_toArray, List.set_cons_zero, List.set_cons_succ]
          refine wpAnyH_done (by kernel_rfl) ?_ _
          go_wp2_with fail
          go_roundw
          case rel => exact ⟨k + 1, acc ++ [32, 108, 111, 115, 116, 32] ++ dx ++ [32] ++ dy, by rw [← cat_bytes, ← cat_bytes, ← cat_bytes, ← cat_bytes], by omega, by go_num, HX3, below_then hBr hS hBr.size⟩
          case measure => simp [intOf]; omega
        · obtain rfl : k = b1 := by omega
          have hj0 : jt ((ls.drop k).flatMap prW) = [] := by rw [List.drop_eq_nil_of_le (by omega)]; rfl
          rw [hj0, List.nil_append] at HX
          have hkn : ¬ (k : Int) < (k : Int) := by omega
          have k4 := cell_below hBr p4
          clear hl hj0
          go_wp2_with fail
          clear k3 k4 hkn
          go_loopw [3, 6] (fun v i wr => ∃ (l : Nat) (acc : List UInt8), v = .string ⟨acc.toArray⟩ ∧ l ≤ c1 ∧ i = .int .i64 l ∧ Hid (tx = acc ++ (jt ((cs.drop l).flatMap inW) ++ [10])) ∧ Below w1.heap.size w1 wr) (fun _ i _ => c1 - (intOf i).toNat)
          case atStart => exact ⟨0, acc, rfl, by omega, rfl, HX, hBr⟩
          case round =>
            clear HX hBr
            obtain ⟨l, acc, rfl, hl, rfl, HX, hBr⟩ := hrel
            have k4 := cell_below hBr p4
            by_cases hlt : l < c1
            · obtain ⟨ad, rfl⟩ := hc.some_of_pos (by omega)
              have e0 := (hc.below hBr).icell l (by omega)
              have HX2 := HX.out
              rw [drop_flat inW cs l (by omega), jt_in] at HX2
              have hv := HG.out.hc cs[l] (List.getElem_mem _)
              have hq1 : (l : Int) < c1 := by omega
              clear hc
              generalize cs[l] = v at *
              obtain ⟨V, rfl⟩ : ∃ V : Nat, v = V := ⟨v.toNat, by omega⟩
              rw [Int.toNat_natCast] at HX2
              have KX := fun W => Lib.hid (digits7_any V W (by omega))
              have hw64 : IntKind.u64.wrap (V : Int) = V := by rw [wrap_u64]; omega
              have HX3 : Hid (tx = (acc ++ [32, 99, 111, 117, 110, 116, 32] ++ digs V) ++ (jt ((cs.drop (l + 1)).flatMap inW) ++ [10])) := by
                show _ = _
                rw [HX2]; simp only [List.append_assoc]
              have hal : acc.length + 7 + (digs V).length ≤ 90001 := by
                have := congrArg List.length HX3.out
                simp only [List.length_append, List.length_cons, List.length_nil] at this
                omega
              clear HX HX2
              generalize digs V = dv at *
              go_wp2_with fail
              refine (KX _).out.mono ?_
              rintro x w3 ⟨rfl, rfl⟩
              clear KX
              go_wp2_with fail
              go_roundw
              case rel => exact ⟨l + 1, acc ++ [32, 99, 111, 117, 110, 116, 32] ++ dv, by rw [← cat_bytes, ← cat_bytes], by omega, by go_num, HX3, hBr⟩
              case measure => simp [intOf]; omega
            · obtain rfl : l = c1 := by omega
              have hj0 : jt ((cs.drop l).flatMap inW) = [] := by rw [List.drop_eq_nil_of_le (by omega)]; rfl
              rw [hj0, List.nil_append] at HX
              have hln : ¬ (l : Int) < (l : Int) := by omega
              have hal : acc.length + 1 ≤ 90001 := by
                have := congrArg List.length HX.out
                simp only [List.length_append, List.length_cons, List.length_nil] at this
                omega
              clear hc hj0
              go_wp2_with fail
              go_ret
              have HX2 : (⟨tx.toArray⟩ : ByteArray) = ⟨acc.toArray⟩ ++ ⟨#[10]⟩ := by rw [HX.out, ← cat_bytes]
              exact ⟨by rw [HX2]; rfl, below_trans hB hBr⟩
end Go.Proofs.Ytefipigdkdopcaa
