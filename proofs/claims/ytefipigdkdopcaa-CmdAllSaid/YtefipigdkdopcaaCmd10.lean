/- Are the commands of a text those of its lines? They are. No condition but the length's bound. -/
import Derived.Test.YtefipigdkdopcaaCmd9
import Derived.Deep.DeepCutAuto
import Derived.Deep.RegionHeld
namespace Go.Proofs.Ytefipigdkdopcaa
open Go.RowKit

theorem allGo_pre : ∀ (r : List (List UInt8)) (i : Nat) (acc : List Cm), (allGo r i acc).e = 0 → ∃ rest, (allGo r i acc).l = acc ++ rest := by
  intro r
  induction r with
  | nil => intro i acc _; exact ⟨[], by simp [allGo]⟩
  | cons t r ih =>
    intro i acc h
    unfold allGo at h ⊢
    split
    · rename_i g
      rw [if_pos g] at h
      exact ih _ _ h
    · rename_i g
      rw [if_neg g] at h
      split
      · rename_i g2
        rw [if_pos g2] at h
        exact absurd h g2
      · rename_i g2
        rw [if_neg g2] at h
        obtain ⟨rest, hr⟩ := ih _ _ h
        exact ⟨parseC t :: rest, by rw [hr]; simp⟩
theorem allGo_len : ∀ (r : List (List UInt8)) (i : Nat) (acc : List Cm), (allGo r i acc).l.length ≤ acc.length + r.length ∧ (allGo r i acc).n ≤ i + r.length + 1 ∧ (allGo r i acc).e ≤ 17 := by
  intro r
  induction r with
  | nil => intro i acc; simp [allGo]
  | cons t r ih =>
    intro i acc
    unfold allGo
    split
    · have := ih (i + 1) acc
      simp only [List.length_cons]
      omega
    · split
      · rename_i g
        have := parse_bad g
        simp only [List.length_nil, List.length_cons]
        refine ⟨by omega, by omega, ?_⟩
        rw [this]
        dsimp only
        split <;> omega
      · have := ih (i + 1) (acc ++ [parseC t])
        simp only [List.length_append, List.length_cons, List.length_nil] at this ⊢
        omega

set_option maxRecDepth 100000 in
set_option maxHeartbeats 4000000 in
theorem lines35_any (s : List UInt8) (w : World) (hN : s.length ≤ 1000) : Calls Try.prog 23 #[.string ⟨s.toArray⟩] w fun e w' => e = .returned (.bool true) ∧ Below w.heap.size w w' := by
  have KA := fun W => Lib.hid ((call_any s W (by omega)).mono (fun e w' h => (show ∃ A c, e = .returned (.tuple #[.slice A (allC s).l.length c, .int .i64 ((allC s).n : Nat), .int .i64 ((allC s).e : Nat)]) ∧ Rd w' A (allC s).l.length c 3 (cms (allC s).l) ∧ Below W.heap.size W w' from by
    obtain ⟨v, he, ho, hb⟩ := h
    obtain ⟨A, c, rfl, hr, -⟩ := Rd.of_own ho
    exact ⟨A, c, he, hr, hb⟩)))
  have KS : ∀ W, Hid (Calls Try.prog 61 #[.string ⟨s.toArray⟩, .int .u8 10, .int .u8 10, .bool false] W fun e w' => ∃ A c, e = .returned (.slice A (linesL s).length c) ∧ RdS w' A (linesL s).length c (linesL s) ∧ Below W.heap.size W w') := fun W => Lib.hid (split_rd s 10 10 false 10 10 rfl rfl W (by omega))
  have HC : Hid (allC s = allGo (linesL s) 0 []) := rfl
  have hlen : (linesL s).length ≤ s.length + 1 := split2_length 10 10 false s
  have HALL : Hid (∀ p ∈ linesL s, p.length ≤ s.length) := fun p hp => (split2_free 10 10 false s p hp).2.2
  have hRl : (allC s).l.length ≤ 1001 := by have := (allGo_len (linesL s) 0 []).1; rw [HC.out]; simp at this; omega
  have hRn : (allC s).n ≤ 1002 := by have := (allGo_len (linesL s) 0 []).2.1; rw [HC.out]; omega
  generalize linesL s = ls at *
  generalize allC s = R at *
  go_enter Try.func23, Try.ntmps23
  go_wp2_with fail
  refine (KA _).out.mono ?_
  rintro e w1 ⟨A, c, rfl, hx, hB⟩
  go_wp2_with fail
  refine (KS _).out.mono ?_
  rintro e w2 ⟨A2, c2, rfl, hr, hb⟩
  replace hx := hx.below hb
  replace hB := below_trans hB hb
  clear hb KA KS
  have hc1 := hx.cm
  have hc2 := hx.nc
  unfold maxLen at hc1
  go_wp2_with fail
  go_loopw [7, 8] (fun k i wr => ∃ (j : Nat) (acc : List Cm), i = .int .i64 j ∧ k = .int .i64 (acc.length : Nat) ∧ j ≤ ls.length ∧ acc.length ≤ j ∧ Hid (R = allGo (ls.drop j) j acc) ∧ Below w2.heap.size w2 wr) (fun _ i _ => ls.length - (intOf i).toNat)
  case atStart => exact ⟨0, [], rfl, rfl, by omega, by simp, HC, Below.refl _ _⟩
  case round =>
    obtain ⟨j, acc, rfl, rfl, hj, hacc, HG, hBr⟩ := hrel
    clear HC
    by_cases hlt : j < ls.length
    · have HD := Lib.hid (allGo_drop ls j acc hlt)
      obtain ⟨ad2, rfl, hc⟩ := hr.sat j hlt
      replace hc := cell_below hBr hc
      have hp : ls.getD j [] ∈ ls := by rw [List.getD_eq_getElem?_getD, List.getElem?_eq_getElem hlt]; exact List.getElem_mem _
      have hpl := HALL.out _ hp
      clear hp
      generalize ls.getD j [] = t at *
      have KS2 : ∀ W, Hid (Calls Try.prog 61 #[.string ⟨t.toArray⟩, .int .u8 32, .int .u8 9, .bool true] W fun e w' => ∃ A c, e = .returned (.slice A (wordsL t).length c) ∧ RdS w' A (wordsL t).length c (wordsL t) ∧ Below W.heap.size W w') := fun W => Lib.hid (split_rd t 32 9 true 32 9 rfl rfl W (by omega))
      have KP := fun W => Lib.hid (cparse_any t W (by omega))
      have hjl : (j : Int) < (ls.length : Int) := by omega
      have hj2 : ls.length ≤ 1001 := by omega
      go_wp2_with fail
      refine (KS2 _).out.mono ?_
      rintro e w3 ⟨A3, c3, rfl, -, hb⟩
      replace hc := cell_below hb hc
      replace hBr := below_trans hBr hb
      clear hb KS2
      cases hw : wordsL t with
      | nil =>
        rw [hw, if_pos rfl] at HD
        have HG2 := Lib.hid (HG.out.trans HD.out)
        clear HG HD
        go_wp2_with fail
        go_roundw
        case rel => exact ⟨j + 1, acc, by go_num, rfl, by omega, by omega, HG2, hBr⟩
        case measure => simp [intOf]; omega
      | cons h0 r0 =>
        rw [hw, if_neg (by simp)] at HD
        clear hw
        generalize parseC t = pc at *
        obtain ⟨k, a, b, er⟩ := pc
        dsimp only at HD KP
        go_wp2_with fail
        refine (KP _).out.mono ?_
        rintro e w4 ⟨rfl, hb⟩
        replace hBr := below_trans hBr hb
        clear hb KP hc
        obtain ⟨hb, hcc⟩ := one_cells w4 #[.int .i64 (k : Int), .int .u64 (a : Int), .int .u64 (b : Int)] 24
        have c0 := hcc 0 (.int .i64 (k : Int)) rfl
        have c1 := hcc 1 (.int .u64 (a : Int)) rfl
        have c2 := hcc 2 (.int .u64 (b : Int)) rfl
        replace hBr := below_trans hBr hb
        clear hb hcc
        by_cases he : er = 0
        · rw [if_neg (by simpa using he)] at HD
          subst he
          have HG2 := Lib.hid (HG.out.trans HD.out)
          clear HG HD
          by_cases hR0 : R.e = 0
          · obtain ⟨rest, hrest⟩ : ∃ rest, R.l = (acc ++ [⟨k, a, b, 0⟩]) ++ rest := by
              have := allGo_pre (ls.drop (j + 1)) (j + 1) (acc ++ [⟨k, a, b, 0⟩]) (by rw [← HG2.out]; exact hR0)
              rw [← HG2.out] at this
              exact this
            have hkl : acc.length < R.l.length := by rw [hrest]; simp
            obtain ⟨ad, rfl⟩ := hx.some_of_pos (by omega)
            have hx3 := hx.below hBr
            rw [cms_x] at hx3
            have hg : (R.l.map Cm.x).getD acc.length Cx0 = ⟨(k : Int), a, b⟩ := by
              rw [hrest]; simp [Cm.x]
            obtain ⟨e0, e1, e2⟩ := hx3.cat3 acc.length hkl
            rw [hg] at e0 e1 e2
            dsimp only at e0 e1 e2
            have hz1 : ((R.e : Int) == 0) = true := by rw [hR0]; decide
            clear hrest hg hx3 hR0
            have hkl1 : ¬ ((R.l.length : Int) ≤ (acc.length : Int)) := by omega
            have hkl2 : decide ((R.l.length : Int) ≤ (acc.length : Int)) = false := by simpa using hkl1
            have hkl4 : decide (R.l.length ≤ acc.length) = false := by rw [decide_eq_false_iff_not]; omega
            have hkl5 : ¬ R.l.length ≤ acc.length := by omega
            have hkl3 : (acc.length : Int) < (R.l.length : Int) := by omega
            have hal : acc.length ≤ 1001 := by omega
            go_upto_region 11 with fail
            generalize w4.alloc (.cells #[.int .i64 (k : Int), .int .u64 (a : Int), .int .u64 (b : Int)] 24) = w5 at *
            refine wp_region_held (S := fun W => Below (w5).heap.size (w5) W) (by kernel_rfl) ?_
            change wpAnyH _ _ _ _ _ _ _ _ (w5).drew
            have hS : (fun W => Below (w5).heap.size (w5) W) (w5).drew := (Below.refl _ _).drew
            refine wpAnyH_take (i := 0) (oi := { dst := some 56, op := Op.move (Operand.tmp 5), type := 25, pos := "law.go:90", after := #[], guard := none }) (v := ?_) rfl (by kernel_rfl) (by kernel_rfl) (by kernel_rfl) (fun _ _ _ h => h) (Or.inl ⟨by rfl, ?_⟩) (by assumption) ?_
            rotate_left
            · (intro wS hS; go_simp <;> with_reducible rfl)
            try simp only [Act.put, List.setIfInBounds_toArray, List.set_cons_zero, List.set_cons_succ]
            refine wpAnyH_take (i := 1) (oi := { dst := some 57, op := Op.binOp BinOp.eql 25 (Operand.tmp 56) (Operand.const (Value.int IntKind.i64 0)) 25, type := 4, pos := "law.go:90", after := #[{ on := 0, ground := Ground.data }], guard := none }) (v := ?_) rfl (by kernel_rfl) (by kernel_rfl) (by kernel_rfl) (fun _ _ _ h => h) (Or.inl ⟨by rfl, ?_⟩) (by assumption) ?_
            rotate_left
            · (intro wS hS; go_simp <;> with_reducible rfl)
            try simp only [Act.put, List.setIfInBounds_toArray, List.set_cons_zero, List.set_cons_succ]
            refine wpAnyH_take (i := 2) (oi := { dst := some 58, op := Op.move (Operand.tmp 57), type := 4, pos := "law.go:90", after := #[{ on := 1, ground := Ground.data }], guard := none }) (v := ?_) rfl (by kernel_rfl) (by kernel_rfl) (by kernel_rfl) (fun _ _ _ h => h) (Or.inl ⟨by rfl, ?_⟩) (by assumption) ?_
            rotate_left
            · (intro wS hS; go_simp <;> with_reducible rfl)
            try simp only [Act.put, List.setIfInBounds_toArray, List.set_cons_zero, List.set_cons_succ]
            refine wpAnyH_take (i := 3) (oi := { dst := some 59, op := Op.move (Operand.tmp 7), type := 3, pos := "law.go:90", after := #[{ on := 2, ground := Ground.guard }], guard := some (2, true) }) (v := ?_) rfl (by kernel_rfl) (by kernel_rfl) (by kernel_rfl) (fun _ _ _ h => h) (Or.inl ⟨by rfl, ?_⟩) (by assumption) ?_
            rotate_left
            · (intro wS hS; go_simp <;> with_reducible rfl)
            try simp only [Act.put, List.setIfInBounds_toArray, List.set_cons_zero, List.set_cons_succ]
            refine wpAnyH_take (i := 4) (oi := { dst := some 60, op := Op.move (Operand.tmp 3), type := 38, pos := "law.go:90", after := #[{ on := 2, ground := Ground.guard }], guard := some (2, true) }) (v := ?_) rfl (by kernel_rfl) (by kernel_rfl) (by kernel_rfl) (fun _ _ _ h => h) (Or.inl ⟨by rfl, ?_⟩) (by assumption) ?_
            rotate_left
            · (intro wS hS; go_simp <;> with_reducible rfl)
            try simp only [Act.put, List.setIfInBounds_toArray, List.set_cons_zero, List.set_cons_succ]
            refine wpAnyH_take (i := 5) (oi := { dst := some 61, op := Op.call { callee := Callee.builtin Builtin.len, args := #[Operand.tmp 60], argTypes := #[38] }, type := 3, pos := "law.go:90", after := #[{ on := 4, ground := Ground.data }, { on := 2, ground := Ground.guard }], guard := some (2, true) }) (v := ?_) rfl (by kernel_rfl) (by kernel_rfl) (by kernel_rfl) (fun _ _ _ h => h) (Or.inl ⟨by rfl, ?_⟩) (by assumption) ?_
            rotate_left
            · (intro wS hS; go_simp <;> with_reducible rfl)
            try simp only [Act.put, List.setIfInBounds_toArray, List.set_cons_zero, List.set_cons_succ]
            refine wpAnyH_take (i := 6) (oi := { dst := some 62, op := Op.binOp BinOp.geq 3 (Operand.tmp 59) (Operand.tmp 61) 3, type := 4, pos := "law.go:90", after := #[{ on := 3, ground := Ground.data }, { on := 5, ground := Ground.data }, { on := 2, ground := Ground.guard }], guard := some (2, true) }) (v := ?_) rfl (by kernel_rfl) (by kernel_rfl) (by kernel_rfl) (fun _ _ _ h => h) (Or.inl ⟨by rfl, ?_⟩) (by assumption) ?_
            rotate_left
            · (intro wS hS; go_simp <;> with_reducible rfl)
            try simp only [Act.put, List.setIfInBounds_toArray, List.set_cons_zero, List.set_cons_succ]
            refine wpAnyH_take (i := 7) (oi := { dst := some 63, op := Op.move (Operand.tmp 62), type := 4, pos := "law.go:90", after := #[{ on := 6, ground := Ground.data }, { on := 2, ground := Ground.chain }, { on := 2, ground := Ground.guard }], guard := some (2, true) }) (v := ?_) rfl (by kernel_rfl) (by kernel_rfl) (by kernel_rfl) (fun _ _ _ h => h) (Or.inl ⟨by rfl, ?_⟩) (by assumption) ?_
            rotate_left
            · (intro wS hS; go_simp <;> with_reducible rfl)
            try simp only [Act.put, List.setIfInBounds_toArray, List.set_cons_zero, List.set_cons_succ]
            refine wpAnyH_take (i := 8) (oi := { dst := some 64, op := Op.move (Operand.tmp 3), type := 38, pos := "law.go:90", after := #[{ on := 7, ground := Ground.guard }], guard := some (7, false) }) (v := ?_) rfl (by kernel_rfl) (by kernel_rfl) (by kernel_rfl) (fun _ _ _ h => h) (Or.inl ⟨by rfl, ?_⟩) (by assumption) ?_
            rotate_left
            · (intro wS hS; go_simp <;> with_reducible rfl)
            try simp only [Act.put, List.setIfInBounds_toArray, List.set_cons_zero, List.set_cons_succ]
            refine wpAnyH_take (i := 9) (oi := { dst := some 65, op := Op.move (Operand.tmp 7), type := 3, pos := "law.go:90", after := #[{ on := 7, ground := Ground.guard }], guard := some (7, false) }) (v := ?_) rfl (by kernel_rfl) (by kernel_rfl) (by kernel_rfl) (fun _ _ _ h => h) (Or.inl ⟨by rfl, ?_⟩) (by assumption) ?_
            rotate_left
            · (intro wS hS; go_simp <;> with_reducible rfl)
            try simp only [Act.put, List.setIfInBounds_toArray, List.set_cons_zero, List.set_cons_succ]
            refine wpAnyH_take (i := 10) (oi := { dst := some 66, op := Op.indexAddr 38 (Operand.tmp 64) (Operand.tmp 65), type := 0, pos := "law.go:90", after := #[{ on := 8, ground := Ground.data }, { on := 9, ground := Ground.data }, { on := 7, ground := Ground.guard }], guard := some (7, false) }) (v := ?_) rfl (by kernel_rfl) (by kernel_rfl) (by kernel_rfl) (fun _ _ _ h => h) (Or.inl ⟨by rfl, ?_⟩) (by assumption) ?_
            rotate_left
            · (intro wS hS; go_simp <;> with_reducible rfl)
            try simp only [Act.put, List.setIfInBounds_toArray, List.set_cons_zero, List.set_cons_succ]
            refine wpAnyH_take (i := 11) (oi := { dst := some 67, op := Op.load 24 (Operand.tmp 66), type := 24, pos := "law.go:90", after := #[{ on := 10, ground := Ground.data }, { on := 7, ground := Ground.guard }], guard := some (7, false) }) (v := ?_) rfl (by kernel_rfl) (by kernel_rfl) (by kernel_rfl) (fun _ _ _ h => h) (Or.inl ⟨by rfl, ?_⟩) (by assumption) ?_
            rotate_left
            · (intro wS hS; have c0 := cell_below hS c0; have c1 := cell_below hS c1; have c2 := cell_below hS c2; have e0 := cell_below hS e0; have e1 := cell_below hS e1; have e2 := cell_below hS e2; go_simp <;> with_reducible rfl)
            try simp only [Act.put, List.setIfInBounds_toArray, List.set_cons_zero, List.set_cons_succ]
            refine wpAnyH_take (i := 12) (oi := { dst := some 68, op := Op.load 24 (Operand.tmp 9), type := 24, pos := "law.go:90", after := #[{ on := 7, ground := Ground.guard }], guard := some (7, false) }) (v := ?_) rfl (by kernel_rfl) (by kernel_rfl) (by kernel_rfl) (fun _ _ _ h => h) (Or.inl ⟨by rfl, ?_⟩) (by assumption) ?_
            rotate_left
            · (intro wS hS; have c0 := cell_below hS c0; have c1 := cell_below hS c1; have c2 := cell_below hS c2; have e0 := cell_below hS e0; have e1 := cell_below hS e1; have e2 := cell_below hS e2; go_simp <;> with_reducible rfl)
            try simp only [Act.put, List.setIfInBounds_toArray, List.set_cons_zero, List.set_cons_succ]
            refine wpAnyH_take (i := 13) (oi := { dst := some 69, op := Op.binOp BinOp.neq 24 (Operand.tmp 67) (Operand.tmp 68) 24, type := 4, pos := "law.go:90", after := #[{ on := 11, ground := Ground.data }, { on := 12, ground := Ground.data }, { on := 7, ground := Ground.guard }], guard := some (7, false) }) (v := ?_) rfl (by kernel_rfl) (by kernel_rfl) (by kernel_rfl) (fun _ _ _ h => h) (Or.inl ⟨by rfl, ?_⟩) (by assumption) ?_
            rotate_left
            · (intro wS hS; go_simp <;> with_reducible rfl)
            try simp only [Act.put, List.setIfInBounds_toArray, List.set_cons_zero, List.set_cons_succ]
            refine wpAnyH_take (i := 14) (oi := { dst := some 70, op := Op.pick (Operand.tmp 63) (Operand.const (Value.bool true)) (Operand.tmp 69), type := 4, pos := "law.go:90", after := #[{ on := 7, ground := Ground.data }, { on := 13, ground := Ground.data }, { on := 2, ground := Ground.guard }], guard := some (2, true) }) (v := ?_) rfl (by kernel_rfl) (by kernel_rfl) (by kernel_rfl) (fun _ _ _ h => h) (Or.inl ⟨by rfl, ?_⟩) (by assumption) ?_
            rotate_left
            · (intro wS hS; go_simp <;> with_reducible rfl)
            try simp only [Act.put, List.setIfInBounds_toArray, List.set_cons_zero, List.set_cons_succ]
            refine wpAnyH_take (i := 15) (oi := { dst := some 71, op := Op.pick (Operand.tmp 58) (Operand.tmp 70) (Operand.const (Value.bool false)), type := 4, pos := "law.go:90", after := #[{ on := 2, ground := Ground.data }, { on := 14, ground := Ground.data }], guard := none }) (v := ?_) rfl (by kernel_rfl) (by kernel_rfl) (by kernel_rfl) (fun _ _ _ h => h) (Or.inl ⟨by rfl, ?_⟩) (by assumption) ?_
            rotate_left
            · (intro wS hS; go_simp <;> with_reducible rfl)
            try simp only [Act.put, List.setIfInBounds_toArray, List.set_cons_zero, List.set_cons_succ]
            refine wpAnyH_done (by kernel_rfl) ?_ _
            go_wp2_with fail
            go_roundw
            case rel => exact ⟨j + 1, acc ++ [⟨k, a, b, 0⟩], by go_num, by simp, by omega, by simp; omega, HG2, below_then hBr hS hBr.size⟩
            case measure => simp [intOf]; omega
          · have hz1 : ((R.e : Int) == 0) = false := by rw [beq_eq_false_iff_ne]; omega
            have hal : acc.length ≤ 1001 := by omega
            clear hR0
            go_upto_region 11 with fail
            generalize w4.alloc (.cells #[.int .i64 (k : Int), .int .u64 (a : Int), .int .u64 (b : Int)] 24) = w5 at *
            refine wp_region_held (S := fun W => Below (w5).heap.size (w5) W) (by kernel_rfl) ?_
            change wpAnyH _ _ _ _ _ _ _ _ (w5).drew
            have hS : (fun W => Below (w5).heap.size (w5) W) (w5).drew := (Below.refl _ _).drew
            refine wpAnyH_take (i := 0) (oi := { dst := some 56, op := Op.move (Operand.tmp 5), type := 25, pos := "law.go:90", after := #[], guard := none }) (v := ?_) rfl (by kernel_rfl) (by kernel_rfl) (by kernel_rfl) (fun _ _ _ h => h) (Or.inl ⟨by rfl, ?_⟩) (by assumption) ?_
            rotate_left
            · (intro wS hS; go_simp <;> with_reducible rfl)
            try simp only [Act.put, List.setIfInBounds_toArray, List.set_cons_zero, List.set_cons_succ]
            refine wpAnyH_take (i := 1) (oi := { dst := some 57, op := Op.binOp BinOp.eql 25 (Operand.tmp 56) (Operand.const (Value.int IntKind.i64 0)) 25, type := 4, pos := "law.go:90", after := #[{ on := 0, ground := Ground.data }], guard := none }) (v := ?_) rfl (by kernel_rfl) (by kernel_rfl) (by kernel_rfl) (fun _ _ _ h => h) (Or.inl ⟨by rfl, ?_⟩) (by assumption) ?_
            rotate_left
            · (intro wS hS; go_simp <;> with_reducible rfl)
            try simp only [Act.put, List.setIfInBounds_toArray, List.set_cons_zero, List.set_cons_succ]
            refine wpAnyH_take (i := 2) (oi := { dst := some 58, op := Op.move (Operand.tmp 57), type := 4, pos := "law.go:90", after := #[{ on := 1, ground := Ground.data }], guard := none }) (v := ?_) rfl (by kernel_rfl) (by kernel_rfl) (by kernel_rfl) (fun _ _ _ h => h) (Or.inl ⟨by rfl, ?_⟩) (by assumption) ?_
            rotate_left
            · (intro wS hS; go_simp <;> with_reducible rfl)
            try simp only [Act.put, List.setIfInBounds_toArray, List.set_cons_zero, List.set_cons_succ]
            refine wpAnyH_take (i := 3) (oi := { dst := some 59, op := Op.move (Operand.tmp 7), type := 3, pos := "law.go:90", after := #[{ on := 2, ground := Ground.guard }], guard := some (2, true) }) (v := undef) rfl (by kernel_rfl) (by kernel_rfl) (by kernel_rfl) (fun _ _ _ h => h) (Or.inr ⟨by rfl, rfl⟩) (by assumption) ?_
            try simp only [Act.put, List.setIfInBounds_toArray, List.set_cons_zero, List.set_cons_succ]
            refine wpAnyH_take (i := 4) (oi := { dst := some 60, op := Op.move (Operand.tmp 3), type := 38, pos := "law.go:90", after := #[{ on := 2, ground := Ground.guard }], guard := some (2, true) }) (v := undef) rfl (by kernel_rfl) (by kernel_rfl) (by kernel_rfl) (fun _ _ _ h => h) (Or.inr ⟨by rfl, rfl⟩) (by assumption) ?_
            try simp only [Act.put, List.setIfInBounds_toArray, List.set_cons_zero, List.set_cons_succ]
            refine wpAnyH_take (i := 5) (oi := { dst := some 61, op := Op.call { callee := Callee.builtin Builtin.len, args := #[Operand.tmp 60], argTypes := #[38] }, type := 3, pos := "law.go:90", after := #[{ on := 4, ground := Ground.data }, { on := 2, ground := Ground.guard }], guard := some (2, true) }) (v := undef) rfl (by kernel_rfl) (by kernel_rfl) (by kernel_rfl) (fun _ _ _ h => h) (Or.inr ⟨by rfl, rfl⟩) (by assumption) ?_
            try simp only [Act.put, List.setIfInBounds_toArray, List.set_cons_zero, List.set_cons_succ]
            refine wpAnyH_take (i := 6) (oi := { dst := some 62, op := Op.binOp BinOp.geq 3 (Operand.tmp 59) (Operand.tmp 61) 3, type := 4, pos := "law.go:90", after := #[{ on := 3, ground := Ground.data }, { on := 5, ground := Ground.data }, { on := 2, ground := Ground.guard }], guard := some (2, true) }) (v := undef) rfl (by kernel_rfl) (by kernel_rfl) (by kernel_rfl) (fun _ _ _ h => h) (Or.inr ⟨by rfl, rfl⟩) (by assumption) ?_
            try simp only [Act.put, List.setIfInBounds_toArray, List.set_cons_zero, List.set_cons_succ]
            refine wpAnyH_take (i := 7) (oi := { dst := some 63, op := Op.move (Operand.tmp 62), type := 4, pos := "law.go:90", after := #[{ on := 6, ground := Ground.data }, { on := 2, ground := Ground.chain }, { on := 2, ground := Ground.guard }], guard := some (2, true) }) (v := undef) rfl (by kernel_rfl) (by kernel_rfl) (by kernel_rfl) (fun _ _ _ h => h) (Or.inr ⟨by rfl, rfl⟩) (by assumption) ?_
            try simp only [Act.put, List.setIfInBounds_toArray, List.set_cons_zero, List.set_cons_succ]
            refine wpAnyH_take (i := 8) (oi := { dst := some 64, op := Op.move (Operand.tmp 3), type := 38, pos := "law.go:90", after := #[{ on := 7, ground := Ground.guard }], guard := some (7, false) }) (v := undef) rfl (by kernel_rfl) (by kernel_rfl) (by kernel_rfl) (fun _ _ _ h => h) (Or.inr ⟨by rfl, rfl⟩) (by assumption) ?_
            try simp only [Act.put, List.setIfInBounds_toArray, List.set_cons_zero, List.set_cons_succ]
            refine wpAnyH_take (i := 9) (oi := { dst := some 65, op := Op.move (Operand.tmp 7), type := 3, pos := "law.go:90", after := #[{ on := 7, ground := Ground.guard }], guard := some (7, false) }) (v := undef) rfl (by kernel_rfl) (by kernel_rfl) (by kernel_rfl) (fun _ _ _ h => h) (Or.inr ⟨by rfl, rfl⟩) (by assumption) ?_
            try simp only [Act.put, List.setIfInBounds_toArray, List.set_cons_zero, List.set_cons_succ]
            refine wpAnyH_take (i := 10) (oi := { dst := some 66, op := Op.indexAddr 38 (Operand.tmp 64) (Operand.tmp 65), type := 0, pos := "law.go:90", after := #[{ on := 8, ground := Ground.data }, { on := 9, ground := Ground.data }, { on := 7, ground := Ground.guard }], guard := some (7, false) }) (v := undef) rfl (by kernel_rfl) (by kernel_rfl) (by kernel_rfl) (fun _ _ _ h => h) (Or.inr ⟨by rfl, rfl⟩) (by assumption) ?_
            try simp only [Act.put, List.setIfInBounds_toArray, List.set_cons_zero, List.set_cons_succ]
            refine wpAnyH_take (i := 11) (oi := { dst := some 67, op := Op.load 24 (Operand.tmp 66), type := 24, pos := "law.go:90", after := #[{ on := 10, ground := Ground.data }, { on := 7, ground := Ground.guard }], guard := some (7, false) }) (v := undef) rfl (by kernel_rfl) (by kernel_rfl) (by kernel_rfl) (fun _ _ _ h => h) (Or.inr ⟨by rfl, rfl⟩) (by assumption) ?_
            try simp only [Act.put, List.setIfInBounds_toArray, List.set_cons_zero, List.set_cons_succ]
            refine wpAnyH_take (i := 12) (oi := { dst := some 68, op := Op.load 24 (Operand.tmp 9), type := 24, pos := "law.go:90", after := #[{ on := 7, ground := Ground.guard }], guard := some (7, false) }) (v := undef) rfl (by kernel_rfl) (by kernel_rfl) (by kernel_rfl) (fun _ _ _ h => h) (Or.inr ⟨by rfl, rfl⟩) (by assumption) ?_
            try simp only [Act.put, List.setIfInBounds_toArray, List.set_cons_zero, List.set_cons_succ]
            refine wpAnyH_take (i := 13) (oi := { dst := some 69, op := Op.binOp BinOp.neq 24 (Operand.tmp 67) (Operand.tmp 68) 24, type := 4, pos := "law.go:90", after := #[{ on := 11, ground := Ground.data }, { on := 12, ground := Ground.data }, { on := 7, ground := Ground.guard }], guard := some (7, false) }) (v := undef) rfl (by kernel_rfl) (by kernel_rfl) (by kernel_rfl) (fun _ _ _ h => h) (Or.inr ⟨by rfl, rfl⟩) (by assumption) ?_
            try simp only [Act.put, List.setIfInBounds_toArray, List.set_cons_zero, List.set_cons_succ]
            refine wpAnyH_take (i := 14) (oi := { dst := some 70, op := Op.pick (Operand.tmp 63) (Operand.const (Value.bool true)) (Operand.tmp 69), type := 4, pos := "law.go:90", after := #[{ on := 7, ground := Ground.data }, { on := 13, ground := Ground.data }, { on := 2, ground := Ground.guard }], guard := some (2, true) }) (v := undef) rfl (by kernel_rfl) (by kernel_rfl) (by kernel_rfl) (fun _ _ _ h => h) (Or.inr ⟨by rfl, rfl⟩) (by assumption) ?_
            try simp only [Act.put, List.setIfInBounds_toArray, List.set_cons_zero, List.set_cons_succ]
            refine wpAnyH_take (i := 15) (oi := { dst := some 71, op := Op.pick (Operand.tmp 58) (Operand.tmp 70) (Operand.const (Value.bool false)), type := 4, pos := "law.go:90", after := #[{ on := 2, ground := Ground.data }, { on := 14, ground := Ground.data }], guard := none }) (v := ?_) rfl (by kernel_rfl) (by kernel_rfl) (by kernel_rfl) (fun _ _ _ h => h) (Or.inl ⟨by rfl, ?_⟩) (by assumption) ?_
            rotate_left
            · (intro wS hS; go_simp <;> with_reducible rfl)
            try simp only [Act.put, List.setIfInBounds_toArray, List.set_cons_zero, List.set_cons_succ]
            refine wpAnyH_done (by kernel_rfl) ?_ _
            go_wp2_with fail
            go_roundw
            case rel => exact ⟨j + 1, acc ++ [⟨k, a, b, 0⟩], by go_num, by simp, by omega, by simp; omega, HG2, below_then hBr hS hBr.size⟩
            case measure => simp [intOf]; omega
        · rw [if_pos he] at HD
          have HG2 := HG.out.trans HD.out
          have h1 : ((er : Int) != 0) = true := by rw [bne_iff_ne]; omega
          have h2 : ((er : Int) == 0) = false := by rw [beq_eq_false_iff_ne]; omega
          clear HG HD he
          subst HG2
          go_wp2_with fail
          go_ret
          exact ⟨ret_bool (by simp), below_then hB hBr hB.size⟩
    · obtain rfl : j = ls.length := by omega
      have HG2 := HG.out
      rw [List.drop_length] at HG2
      have HG3 : R = ⟨acc, 0, 0⟩ := HG2
      clear HG HG2
      subst HG3
      go_wp2_with fail
      go_ret
      exact ⟨ret_bool (by simp), below_then hB hBr hB.size⟩
end Go.Proofs.Ytefipigdkdopcaa
