/- Contract of reply.Hex. No condition but the length's bound. -/
import Derived.Test.YtefipigdkdopcaaRep1
import Derived.Deep.AppendLies
import Derived.Deep.DeepCutAuto
namespace Go.Proofs.Ytefipigdkdopcaa
open Go.RowKit

theorem info_u8r : (Try.prog.info? 5).map (fun i => (i.zero, i.size, i.bytes)) = some (some (.int .u8 0), 1, 1) := by kernel_rfl
theorem hx_index (d : Nat) (hd : d < 16) (h : d < (⟨#[48, 49, 50, 51, 52, 53, 54, 55, 56, 57, 97, 98, 99, 100, 101, 102]⟩ : ByteArray).size) : (⟨#[48, 49, 50, 51, 52, 53, 54, 55, 56, 57, 97, 98, 99, 100, 101, 102]⟩ : ByteArray)[d]'h = hx16 d := by
  rcases (by omega : d = 0 ∨ d = 1 ∨ d = 2 ∨ d = 3 ∨ d = 4 ∨ d = 5 ∨ d = 6 ∨ d = 7 ∨ d = 8 ∨ d = 9 ∨ d = 10 ∨ d = 11 ∨ d = 12 ∨ d = 13 ∨ d = 14 ∨ d = 15) with rfl | rfl | rfl | rfl | rfl | rfl | rfl | rfl | rfl | rfl | rfl | rfl | rfl | rfl | rfl | rfl <;> rfl

theorem and15 : ∀ d : Nat, d < 256 → bits BinOp.and IntKind.u8 (d : Int) 15 = (d : Int) % 16 := by decide +kernel

set_option maxRecDepth 100000 in
set_option maxHeartbeats 2000000 in
theorem rhex_any (xs : List UInt8) (A : Option Addr) (n c : Nat) (w : World) (hx : RdB w A n c xs) (hN : n ≤ 10000) : Calls Try.prog 29 #[.slice A n c] w fun e w' => e = .returned (.string ⟨(hexS xs).toArray⟩) ∧ Below w.heap.size w w' := by
  have hn := hx.blen
  have hnc := hx.nc
  have hcm := hx.cm
  unfold maxLen at hcm
  obtain ⟨ii, hii, hi0, hi1, hi2⟩ := info_parts info_u8r
  go_enter Try.func29, Try.ntmps29
  go_wp2_with fail
  go_loopw [3, 5, 8] (fun v _ i wr => ∃ j : Nat, i = .int .i64 j ∧ j ≤ n ∧ wr.ownsRow w.heap.size 5 1 v (2 * j) (bs (hexS (xs.take j))) ∧ RdB wr A n c xs ∧ Below w.heap.size w wr) (fun _ _ i _ => n - (intOf i).toNat)
  case atStart => exact ⟨0, rfl, by omega, World.ownsRow_nil _ _ _ _, hx, Below.refl _ _⟩
  case round =>
    obtain ⟨j, rfl, hj, hown, hr, hB⟩ := hrel
    by_cases hlt : j < n
    · have hlt' : (j : Int) < (n : Int) := by omega
      obtain ⟨ad, rfl⟩ := hr.some_of_pos (by omega)
      have cj := hr.bcell j hlt
      have hst : Hid (bs (hexS (xs.take (j + 1))) = bs (hexS (xs.take j)) ++ [.int .u8 ((hx16 ((xs.getD j 0).toNat / 16)).toNat : Int), .int .u8 ((hx16 ((xs.getD j 0).toNat % 16)).toNat : Int)]) := by
        show _ = _
        rw [List.take_succ_eq_append_getElem (by omega), List.getD_eq_getElem?_getD, List.getElem?_eq_getElem (by omega)]
        unfold hexS
        rw [List.flatMap_append, bs_append]
        rfl
      have hc := (xs.getD j 0).toNat_lt
      have x1 := hx_index ((xs.getD j 0).toNat / 16) (by omega)
      have x2 := hx_index ((xs.getD j 0).toNat % 16) (by omega)
      have q15 := and15 (xs.getD j 0).toNat hc
      generalize hx16 ((xs.getD j 0).toNat / 16) = a at *
      generalize hx16 ((xs.getD j 0).toNat % 16) = b at *
      generalize (xs.getD j 0).toNat = d at *
      have y1 : ∀ h : ((d : Int) / 16).toNat < (⟨#[48, 49, 50, 51, 52, 53, 54, 55, 56, 57, 97, 98, 99, 100, 101, 102]⟩ : ByteArray).size, ((⟨#[48, 49, 50, 51, 52, 53, 54, 55, 56, 57, 97, 98, 99, 100, 101, 102]⟩ : ByteArray)[((d : Int) / 16).toNat]'h).toNat = a.toNat := fun h => by
        have e : ((d : Int) / 16).toNat = d / 16 := by omega
        simp only [e] at h ⊢
        rw [x1 h]
      have y2 : ∀ h : ((d : Int) % 16).toNat < (⟨#[48, 49, 50, 51, 52, 53, 54, 55, 56, 57, 97, 98, 99, 100, 101, 102]⟩ : ByteArray).size, ((⟨#[48, 49, 50, 51, 52, 53, 54, 55, 56, 57, 97, 98, 99, 100, 101, 102]⟩ : ByteArray)[((d : Int) % 16).toNat]'h).toNat = b.toNat := fun h => by
        have e : ((d : Int) % 16).toNat = d % 16 := by omega
        simp only [e] at h ⊢
        rw [x2 h]
      have b1 : (0 : Int) ≤ (d : Int) / 16 := by omega
      have b2 : (d : Int) / 16 < 16 := by omega
      have b3 : (0 : Int) ≤ (d : Int) % 16 := by omega
      have b4 : (d : Int) % 16 < 16 := by omega
      clear x1 x2
      have hAb : ad.block < w.heap.size := hx.blk ad rfl (by omega)
      have ho := hown.drew
      have hrd := hr.below ((Below.refl wr.heap.size wr).drew)
      have hbz : w.heap.size ≤ wr.drew.heap.size := hB.size
      have hBd := hB.drew
      clear hown hr hB hx
      go_upto_region 5 with fail
      clear cj
      refine wp_region_held (S := fun _ => True) (by kernel_rfl) ?_
      change wpAnyH _ _ _ _ _ _ _ _ (wr).drew
      have hS : (fun _ => True) (wr).drew := trivial
      generalize (wr).drew = wd at ho hrd hbz hBd ⊢
      refine wpAnyH_take (i := 0) (oi := { dst := some 12, op := Op.move (Operand.tmp 3), type := 53, pos := "reply.go:46", after := #[], guard := none }) (v := ?_) rfl (by kernel_rfl) (by kernel_rfl) (by kernel_rfl) (fun _ _ _ h => h) (Or.inl ⟨by rfl, ?_⟩) (by assumption) ?_
      rotate_left
      · (intro wS hS; go_simp <;> with_reducible rfl)
      try simp only [Act.put, List.setIfInBounds_toArray, List.set_cons_zero, List.set_cons_succ]
      refine wpAnyH_take (i := 1) (oi := { dst := some 13, op := Op.move (Operand.tmp 5), type := 5, pos := "reply.go:46", after := #[], guard := none }) (v := ?_) rfl (by kernel_rfl) (by kernel_rfl) (by kernel_rfl) (fun _ _ _ h => h) (Or.inl ⟨by rfl, ?_⟩) (by assumption) ?_
      rotate_left
      · (intro wS hS; go_simp <;> with_reducible rfl)
      try simp only [Act.put, List.setIfInBounds_toArray, List.set_cons_zero, List.set_cons_succ]
      refine wpAnyH_take (i := 2) (oi := { dst := some 14, op := Op.binOp BinOp.shr 5 (Operand.tmp 13) (Operand.const (Value.int IntKind.u64 4)) 114, type := 5, pos := "reply.go:46", after := #[{ on := 1, ground := Ground.data }], guard := none }) (v := ?_) rfl (by kernel_rfl) (by kernel_rfl) (by kernel_rfl) (fun _ _ _ h => h) (Or.inl ⟨by rfl, ?_⟩) (by assumption) ?_
      rotate_left
      · (intro wS hS; go_simp <;> with_reducible rfl)
      try simp only [Act.put, List.setIfInBounds_toArray, List.set_cons_zero, List.set_cons_succ]
      refine wpAnyH_take (i := 3) (oi := { dst := some 15, op := Op.index 9 (Operand.const (Value.string { data := #[48, 49, 50, 51, 52, 53, 54, 55, 56, 57, 97, 98, 99, 100, 101, 102] })) (Operand.tmp 14), type := 5, pos := "reply.go:46", after := #[{ on := 2, ground := Ground.data }], guard := none }) (v := ?_) rfl (by kernel_rfl) (by kernel_rfl) (by kernel_rfl) (fun _ _ _ h => h) (Or.inl ⟨by rfl, ?_⟩) (by assumption) ?_
      rotate_left
      · (intro wS hS; go_simp <;> with_reducible rfl)
      try simp only [Act.put, List.setIfInBounds_toArray, List.set_cons_zero, List.set_cons_succ]
      refine wpAnyH_take (i := 4) (oi := { dst := some 16, op := Op.move (Operand.tmp 5), type := 5, pos := "reply.go:46", after := #[], guard := none }) (v := ?_) rfl (by kernel_rfl) (by kernel_rfl) (by kernel_rfl) (fun _ _ _ h => h) (Or.inl ⟨by rfl, ?_⟩) (by assumption) ?_
      rotate_left
      · (intro wS hS; go_simp <;> with_reducible rfl)
      try simp only [Act.put, List.setIfInBounds_toArray, List.set_cons_zero, List.set_cons_succ]
      refine wpAnyH_take (i := 5) (oi := { dst := some 17, op := Op.binOp BinOp.and 5 (Operand.tmp 16) (Operand.const (Value.int IntKind.u8 15)) 5, type := 5, pos := "reply.go:46", after := #[{ on := 4, ground := Ground.data }], guard := none }) (v := ?_) rfl (by kernel_rfl) (by kernel_rfl) (by kernel_rfl) (fun _ _ _ h => h) (Or.inl ⟨by rfl, ?_⟩) (by assumption) ?_
      rotate_left
      · (intro wS hS; go_simp <;> with_reducible rfl)
      try simp only [Act.put, List.setIfInBounds_toArray, List.set_cons_zero, List.set_cons_succ]
      refine wpAnyH_take (i := 6) (oi := { dst := some 18, op := Op.index 9 (Operand.const (Value.string { data := #[48, 49, 50, 51, 52, 53, 54, 55, 56, 57, 97, 98, 99, 100, 101, 102] })) (Operand.tmp 17), type := 5, pos := "reply.go:46", after := #[{ on := 5, ground := Ground.data }], guard := none }) (v := ?_) rfl (by kernel_rfl) (by kernel_rfl) (by kernel_rfl) (fun _ _ _ h => h) (Or.inl ⟨by rfl, ?_⟩) (by assumption) ?_
      rotate_left
      · (intro wS hS; go_simp <;> with_reducible rfl)
      try simp only [Act.put, List.setIfInBounds_toArray, List.set_cons_zero, List.set_cons_succ]
      refine wpAnyH_ready (rs := [7]) (by kernel_rfl) (by simp) ?_
      refine AllReadyH.cons (o := { dst := some 19, op := Op.buildSlice 53 2 #[(0, Operand.tmp 15), (1, Operand.tmp 18)], type := 53, pos := "reply.go:46", after := #[{ on := 3, ground := Ground.data }, { on := 6, ground := Ground.data }], guard := none }) rfl (fun K hK => ?_) (AllReadyH.nil)
      go_simp
      have hbA := (one_cells wd #[.int .u8 (a.toNat : Int), .int .u8 (b.toNat : Int)] 5).1
      have hv0 := (one_cells wd #[.int .u8 (a.toNat : Int), .int .u8 (b.toNat : Int)] 5).2 0 _ rfl
      have hv1 := (one_cells wd #[.int .u8 (a.toNat : Int), .int .u8 (b.toNat : Int)] 5).2 1 _ rfl
      replace hrd := hrd.below hbA
      replace ho := own_below ho hbA
      replace hbz := Nat.le_trans hbz hbA.size
      replace hBd := below_trans hBd hbA
      refine hK.out _ _ trivial (fun _ => ?_)
      clear hK K hbA
      try simp only [Act.put, List.setIfInBounds_toArray, List.set_cons_zero, List.set_cons_succ]
      generalize hgB2 : World.heap wd = hpB at *
      generalize World.alloc wd (.cells #[.int .u8 (a.toNat : Int), .int .u8 (b.toNat : Int)] 5) = wA at *
      clear hgB2
      refine wpAnyH_ready (rs := [8]) (by kernel_rfl) (by simp) ?_
      refine AllReadyH.cons (o := { dst := some 20, op := Op.call { callee := Callee.builtin Builtin.append, args := #[Operand.tmp 12, Operand.tmp 19], argTypes := #[53, 53] }, type := 53, pos := "reply.go:46", after := #[{ on := 0, ground := Ground.data }, { on := 7, ground := Ground.data }], guard := none }) rfl (fun K hK => ?_) (AllReadyH.nil)
      refine step_append_lies _ rfl (.tmp 12) (.tmp 19) 53 rfl w.heap.size 5 ii (.int .u8 0) 1 1 Try.underlying53 hii hi0 hi1 hi2 rfl (by decide) _ (2 * j) _ rfl ho ⟨hpB.size, 0, none⟩ 2 2 [.int .u8 (a.toNat : Int), .int .u8 (b.toNat : Int)] rfl rfl (fun jj u hu => by cases jj with | zero => (cases hu; exact hv0) | succ q => (cases q with | zero => (cases hu; exact hv1) | succ r => (simp at hu))) (by simp [Value.oneCell']) (by decide) (by unfold maxLen; omega) (by omega) hbz _ rfl ?_
      intro gX capX wR8 ho' hg' hor hltX
      have hrd5 := hrd.kept hg' (fun ad2 e => by cases e; exact fun e => by have := (ho.lt ad.block e.symm).1; omega)
      have hbz5 := Nat.le_trans hbz (World.grownBy.size hg')
      have hBz5 : Below w.heap.size w wR8 := hBd.grown hg' hBd.size (fun k hk => by have := (ho.lt k hk).1; omega)
      refine hK.out _ _ trivial (fun _ => ?_)
      clear hK K hrd hbz hBd hg' hor ho hv0 hv1
      try simp only [Act.put, List.setIfInBounds_toArray, List.set_cons_zero, List.set_cons_succ]
      refine wpAnyH_take (i := 9) (oi := { dst := some 3, op := Op.assign (Operand.tmp 20), type := 53, pos := "reply.go:46", after := #[{ on := 8, ground := Ground.data }, { on := 8, ground := Ground.chain }, { on := 0, ground := Ground.phase }, { on := 1, ground := Ground.phase }, { on := 2, ground := Ground.phase }, { on := 3, ground := Ground.phase }, { on := 4, ground := Ground.phase }, { on := 5, ground := Ground.phase }, { on := 6, ground := Ground.phase }, { on := 7, ground := Ground.phase }, { on := 8, ground := Ground.phase }], guard := none }) (v := ?_) rfl (by kernel_rfl) (by kernel_rfl) (by kernel_rfl) (fun _ _ _ h => h) (Or.inl ⟨by rfl, ?_⟩) (by assumption) ?_
      rotate_left
      · (intro wS hS; go_simp <;> with_reducible rfl)
      try simp only [Act.put, List.setIfInBounds_toArray, List.set_cons_zero, List.set_cons_succ]
      refine wpAnyH_done (by kernel_rfl) ?_ _
      go_wp2_with fail
      go_roundw
      case rel => exact ⟨j + 1, by go_num, by omega, by rw [hst.out]; exact ho', hrd5, hBz5⟩
      case measure => simp [intOf]; omega
    · have hlt' : ¬ (j : Int) < (n : Int) := by omega
      obtain rfl : j = n := by omega
      rw [List.take_of_length_le (by omega)] at hown
      obtain ⟨A2, c2, rfl, hr2, -⟩ := Rd.of_own hown
      have hstr := run_string_of (P := Try.prog) 53 9 5 Try.underlying53 Try.underlying5 Try.underlying9 hr2
      clear hr2 hown
      go_wp2_with fail
      go_ret
      exact ⟨rfl, hB⟩
end Go.Proofs.Ytefipigdkdopcaa
