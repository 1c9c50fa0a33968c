/- The law CmdAll of layer 35 (cmd), walked. -/
import Derived.Test.YtefipigdkdopcaaCmd11
import Derived.OwnWalk
import Derived.Deep.CutBlock
namespace Go.Proofs.Ytefipigdkdopcaa
open Go.RowKit

/-- What the law's first loop has found. -/
def cmdSaw (l : List Cx) (e : Nat) (t : List UInt8) : Prop := t.length ≤ 1500 ∧ (e = 0 ∧ prGo l [] = ⟨t, 0⟩ ∨ e ≠ 0 ∧ prGo l [] = ⟨[], e⟩)

set_option maxRecDepth 100000 in
set_option maxHeartbeats 4000000 in
theorem cmdall_law (l : List Cx) (A : Option Addr) (n c : Nat) (s : List UInt8) (w : World) (hx : Rd w A n c 3 (cmx l)) (hab : ∀ c ∈ l, c.a < 18446744073709551616 ∧ c.b < 18446744073709551616) :
    Calls Try.prog 5 #[.slice A n c, .string ⟨s.toArray⟩] w fun e w' => e = .returned (.bool true) ∧ Below w.heap.size w w' := by
  have KAW := fun W => Lib.hid (awake35_any W)
  have hl := hx.clen3
  have hc1 := hx.cm
  have hc2 := hx.nc
  unfold maxLen at hc1
  by_cases hbig : 30 < n ∨ (n ≤ 30 ∧ 500 < s.length)
  · rcases hbig with h1 | ⟨h1, h2⟩
    all_goals
      go_enter Try.func5, Try.ntmps5
      go_wp2_with (refine (KAW _).out.mono ?_; rintro e w1 ⟨rfl, hb⟩)
      go_ret
      exact ⟨rfl, hb⟩
  have hn : n ≤ 30 := by omega
  have hs : s.length ≤ 500 := by omega
  clear hbig
  have KPR := fun W h => Lib.hid (cprint_any l A n c W h hn hab)
  have KL := fun W => Lib.hid (lines35_any s W (by omega))
  have hpl := prGo_len l [] hab
  go_enter Try.func5, Try.ntmps5
  go_upto_block 0 with fail
  go_cut [5, 6] (fun s5 s6 wx => ∃ (e : Nat) (t : List UInt8), s5 = .int .i64 e ∧ s6 = .string ⟨t.toArray⟩ ∧ cmdSaw l e t ∧ Below w.heap.size w wx)
  case first =>
    go_wp2_with fail
    go_loopw [5, 6, 7] (fun b t i wr => ∃ (j e : Nat) (acc : List UInt8), i = .int .i64 j ∧ b = .int .i64 e ∧ t = .string ⟨acc.toArray⟩ ∧ j ≤ n ∧ acc.length ≤ 50 * j ∧ Hid (e = 0 ∧ prGo l [] = prGo (l.drop j) acc ∨ e ≠ 0 ∧ prGo l [] = ⟨[], e⟩) ∧ Below w.heap.size w wr) (fun _ _ i _ => n - (intOf i).toNat)
    case atStart => exact ⟨0, 0, [], rfl, rfl, rfl, by omega, by simp, .inl ⟨rfl, rfl⟩, Below.refl _ _⟩
    case round =>
      obtain ⟨j, e, acc, rfl, rfl, rfl, hj, hacc, HG, hBr⟩ := hrel
      by_cases he : e = 0
      · subst he
        have HG2 : Hid (prGo l [] = prGo (l.drop j) acc) := Lib.hid (HG.out.elim (fun h => h.2) (fun h => absurd rfl h.1))
        clear HG
        by_cases hlt : j < n
        · have HD := Lib.hid (prGo_drop l j acc (by omega))
          obtain ⟨ad, rfl⟩ := hx.some_of_pos (by omega)
          obtain ⟨e0, e1, e2⟩ := hx.cat3 j hlt
          have hm : l.getD j Cx0 ∈ l := by rw [List.getD_eq_getElem?_getD, List.getElem?_eq_getElem (by omega)]; exact List.getElem_mem _
          obtain ⟨ha, hb'⟩ := hab _ hm
          clear hm
          generalize l.getD j Cx0 = cx at *
          obtain ⟨k, a, b⟩ := cx
          dsimp only at e0 e1 e2 ha hb' HD
          replace e0 := cell_below hBr e0
          replace e1 := cell_below hBr e1
          replace e2 := cell_below hBr e2
          have hjn : (j : Int) < (n : Int) := by omega
          have KAS := fun W => Lib.hid (as35_any k a b W)
          have KCH := fun W => Lib.hid (r35check_any k a b W)
          by_cases hc0 : cmdCheck k a b = 0
          · rw [if_neg (by simpa using hc0)] at HD
            have HG3 := Lib.hid (HG2.out.trans HD.out)
            have hk := (check_zero hc0).1
            have KT := fun W => Lib.hid (r35text_any k a b W hk ha hb')
            have ht := textK_length k a b ha hb'
            rw [hc0] at KCH
            clear HG2 HD hc0 hk hpl hl
            generalize textK k a b = tx at *
            have l1 : ¬ (9223372036854775807 < acc.length + tx.length) := by omega
            have l2 : ¬ (9223372036854775807 < (acc ++ tx).length + [(10 : UInt8)].length) := by simp; omega
            go_wp2_with fail
            refine (KAS _).out.mono ?_
            rintro e w1 ⟨rfl, hb⟩
            replace e0 := cell_below hb e0
            replace e1 := cell_below hb e1
            replace e2 := cell_below hb e2
            replace hBr := below_trans hBr hb
            clear hb
            go_wp2_with fail
            refine (KCH _).out.mono ?_
            rintro e w2 ⟨rfl, hb⟩
            replace e0 := cell_below hb e0
            replace e1 := cell_below hb e1
            replace e2 := cell_below hb e2
            replace hBr := below_trans hBr hb
            clear hb KCH
            go_wp2_with fail
            refine (KAS _).out.mono ?_
            rintro e w3 ⟨rfl, hb⟩
            replace hBr := below_trans hBr hb
            clear hb e0 e1 e2
            go_wp2_with fail
            refine (KT _).out.mono ?_
            rintro e w4 ⟨rfl, hb⟩
            replace hBr := below_trans hBr hb
            clear hb
            go_wp2_with fail
            rw [cat_bytes]
            go_roundw
            case rel => exact ⟨j + 1, 0, acc ++ (tx ++ [10]), by go_num, rfl, by simp, by omega, by simp; omega, .inl ⟨rfl, HG3.out⟩, hBr⟩
            case measure => simp [intOf]; omega
          · rw [if_pos hc0] at HD
            have HG3 := Lib.hid (HG2.out.trans HD.out)
            have hne := Lib.hid hc0
            have hz1 : ((cmdCheck k a b : Int) != 0) = true := by rw [bne_iff_ne]; omega
            have hz2 : ((cmdCheck k a b : Int) == 0) = false := by rw [beq_eq_false_iff_ne]; omega
            clear HG2 HD hc0 hpl hl
            generalize cmdCheck k a b = er at *
            go_wp2_with fail
            refine (KAS _).out.mono ?_
            rintro e w1 ⟨rfl, hb⟩
            replace hBr := below_trans hBr hb
            clear hb e0 e1 e2
            go_wp2_with fail
            refine (KCH _).out.mono ?_
            rintro e w2 ⟨rfl, hb⟩
            replace hBr := below_trans hBr hb
            clear hb KCH
            go_wp2_with fail
            go_roundw
            case rel => exact ⟨j + 1, er, acc, by go_num, rfl, rfl, by omega, by omega, .inr ⟨hne.out, HG3.out⟩, hBr⟩
            case measure => simp [intOf]; omega
        · obtain rfl : j = n := by omega
          have HG3 : Hid (prGo l [] = ⟨acc, 0⟩) := by show _ = _; rw [HG2.out, ← hl, List.drop_length]; rfl
          clear HG2
          go_wp2_with fail
          go_meet
          exact ⟨0, acc, rfl, rfl, ⟨by omega, .inl ⟨rfl, HG3.out⟩⟩, hBr⟩
      · have HG2 : Hid (prGo l [] = ⟨[], e⟩) := Lib.hid (HG.out.elim (fun h => absurd h.1 he) (fun h => h.2))
        have hne := Lib.hid he
        have hz2 : ((e : Int) == 0) = false := by rw [beq_eq_false_iff_ne]; omega
        clear HG he
        by_cases hlt : j < n
        · have hjn : (j : Int) < (n : Int) := by omega
          go_wp2_with fail
          go_meet
          exact ⟨e, acc, rfl, rfl, ⟨by omega, .inr ⟨hne.out, HG2.out⟩⟩, hBr⟩
        · have hjn : ¬ (j : Int) < (n : Int) := by omega
          go_wp2_with fail
          go_meet
          exact ⟨e, acc, rfl, rfl, ⟨by omega, .inr ⟨hne.out, HG2.out⟩⟩, hBr⟩
  case rest =>
    obtain ⟨e, t, rfl, rfl, hsaw, hBr⟩ := hcut
    generalize hwc : wc = w1 at *
    clear hwc
    have hx1 := hx.below hBr
    obtain ⟨ht, hways⟩ := hsaw
    rcases hways with ⟨rfl, hp⟩ | ⟨he, hp⟩
    · have hpe : (prGo l []).e = 0 := by rw [hp]
      have hal := all_printed hpe
      have hmx := m_x hpe
      rw [hp] at KPR hal
      dsimp only at KPR hal
      have KA := fun W => Lib.hid ((call_any t W (by omega)).mono (fun e w' h => (show ∃ A2 c2, e = .returned (.tuple #[.slice A2 n c2, .int .i64 0, .int .i64 0]) ∧ Rd w' A2 n c2 3 (cmx l) ∧ Below W.heap.size W w' from by
        obtain ⟨v, he, ho, hb⟩ := h
        obtain ⟨A2, c2, rfl, hr, -⟩ := Rd.of_own ho
        rw [hal] at he hr
        dsimp only at he hr
        rw [cms_x, hmx] at hr
        rw [List.length_map, hl] at he hr
        exact ⟨A2, c2, he, hr, hb⟩)))
      clear hp hpe hal hmx hpl
      go_wp2_with fail
      refine (KPR _ hx1).out.mono ?_
      rintro e w2 ⟨rfl, hb⟩
      replace hx1 := hx1.below hb
      replace hBr := below_trans hBr hb
      clear hb KPR
      go_wp2_with fail
      refine (KA _).out.mono ?_
      rintro e w3 ⟨A2, c2, rfl, hy, hb⟩
      replace hx1 := hx1.below hb
      replace hBr := below_trans hBr hb
      clear hb KA
      have hd1 := hy.cm
      have hd2 := hy.nc
      unfold maxLen at hd1
      go_wp2_with fail
      go_loopw [13] (fun i wr => ∃ j : Nat, i = .int .i64 j ∧ j ≤ n ∧ Below w3.heap.size w3 wr) (fun i _ => n - (intOf i).toNat)
      case atStart => exact ⟨0, rfl, by omega, Below.refl _ _⟩
      case round =>
        obtain ⟨j, rfl, hj, hB4⟩ := hrel
        by_cases hlt : j < n
        · have hxr := hx1.below hB4
          have hyr := hy.below hB4
          obtain ⟨ad, rfl⟩ := hx.some_of_pos (by omega)
          obtain ⟨ad2, rfl⟩ := hy.some_of_pos (by omega)
          obtain ⟨e0, e1, e2⟩ := hxr.cat3 j hlt
          obtain ⟨d0, d1, d2⟩ := hyr.cat3 j hlt
          have hjn : (j : Int) < (n : Int) := by omega
          generalize l.getD j Cx0 = cx at *
          obtain ⟨k, a, b⟩ := cx
          dsimp only at e0 e1 e2 d0 d1 d2
          go_upto_region 20 with fail
          refine wp_region_held (S := fun W => Below (wr).heap.size (wr) W) (by kernel_rfl) ?_
          change wpAnyH _ _ _ _ _ _ _ _ (wr).drew
          have hS : (fun W => Below (wr).heap.size (wr) W) (wr).drew := (Below.refl _ _).drew
          refine wpAnyH_take (i := 0) (oi := { dst := some 114, op := Op.move (Operand.tmp 10), type := 38, pos := "law.go:70", after := #[], guard := none }) (v := ?_) rfl (by kernel_rfl) (by kernel_rfl) (by kernel_rfl) (fun _ _ _ h => h) (Or.inl ⟨by rfl, ?_⟩) (by assumption) ?_
          rotate_left
          · (intro wS hS; go_simp <;> with_reducible rfl)
          try simp only [Act.put, List.setIfInBounds_toArray, List.set_cons_zero, List.set_cons_succ]
          refine wpAnyH_take (i := 1) (oi := { dst := some 115, op := Op.move (Operand.tmp 13), type := 3, pos := "law.go:70", after := #[], guard := none }) (v := ?_) rfl (by kernel_rfl) (by kernel_rfl) (by kernel_rfl) (fun _ _ _ h => h) (Or.inl ⟨by rfl, ?_⟩) (by assumption) ?_
          rotate_left
          · (intro wS hS; go_simp <;> with_reducible rfl)
          try simp only [Act.put, List.setIfInBounds_toArray, List.set_cons_zero, List.set_cons_succ]
          refine wpAnyH_take (i := 2) (oi := { dst := some 116, op := Op.indexAddr 38 (Operand.tmp 114) (Operand.tmp 115), type := 0, pos := "law.go:70", after := #[{ on := 0, ground := Ground.data }, { on := 1, ground := Ground.data }], guard := none }) (v := ?_) rfl (by kernel_rfl) (by kernel_rfl) (by kernel_rfl) (fun _ _ _ h => h) (Or.inl ⟨by rfl, ?_⟩) (by assumption) ?_
          rotate_left
          · (intro wS hS; go_simp <;> with_reducible rfl)
          try simp only [Act.put, List.setIfInBounds_toArray, List.set_cons_zero, List.set_cons_succ]
          refine wpAnyH_take (i := 3) (oi := { dst := some 117, op := Op.load 24 (Operand.tmp 116), type := 24, pos := "law.go:70", after := #[{ on := 2, ground := Ground.data }], guard := none }) (v := ?_) rfl (by kernel_rfl) (by kernel_rfl) (by kernel_rfl) (fun _ _ _ h => h) (Or.inl ⟨by rfl, ?_⟩) (by assumption) ?_
          rotate_left
          · (intro wS hS; have e0 := cell_below hS e0; have e1 := cell_below hS e1; have e2 := cell_below hS e2; have d0 := cell_below hS d0; have d1 := cell_below hS d1; have d2 := cell_below hS d2; go_simp <;> with_reducible rfl)
          try simp only [Act.put, List.setIfInBounds_toArray, List.set_cons_zero, List.set_cons_succ]
          refine wpAnyH_take (i := 4) (oi := { dst := some 118, op := Op.move (Operand.tmp 0), type := 38, pos := "law.go:70", after := #[], guard := none }) (v := ?_) rfl (by kernel_rfl) (by kernel_rfl) (by kernel_rfl) (fun _ _ _ h => h) (Or.inl ⟨by rfl, ?_⟩) (by assumption) ?_
          rotate_left
          · (intro wS hS; go_simp <;> with_reducible rfl)
          try simp only [Act.put, List.setIfInBounds_toArray, List.set_cons_zero, List.set_cons_succ]
          refine wpAnyH_take (i := 5) (oi := { dst := some 119, op := Op.move (Operand.tmp 13), type := 3, pos := "law.go:70", after := #[], guard := none }) (v := ?_) rfl (by kernel_rfl) (by kernel_rfl) (by kernel_rfl) (fun _ _ _ h => h) (Or.inl ⟨by rfl, ?_⟩) (by assumption) ?_
          rotate_left
          · (intro wS hS; go_simp <;> with_reducible rfl)
          try simp only [Act.put, List.setIfInBounds_toArray, List.set_cons_zero, List.set_cons_succ]
          refine wpAnyH_take (i := 6) (oi := { dst := some 120, op := Op.indexAddr 38 (Operand.tmp 118) (Operand.tmp 119), type := 0, pos := "law.go:70", after := #[{ on := 4, ground := Ground.data }, { on := 5, ground := Ground.data }], guard := none }) (v := ?_) rfl (by kernel_rfl) (by kernel_rfl) (by kernel_rfl) (fun _ _ _ h => h) (Or.inl ⟨by rfl, ?_⟩) (by assumption) ?_
          rotate_left
          · (intro wS hS; go_simp <;> with_reducible rfl)
          try simp only [Act.put, List.setIfInBounds_toArray, List.set_cons_zero, List.set_cons_succ]
          refine wpAnyH_take (i := 7) (oi := { dst := some 121, op := Op.load 24 (Operand.tmp 120), type := 24, pos := "law.go:70", after := #[{ on := 6, ground := Ground.data }], guard := none }) (v := ?_) rfl (by kernel_rfl) (by kernel_rfl) (by kernel_rfl) (fun _ _ _ h => h) (Or.inl ⟨by rfl, ?_⟩) (by assumption) ?_
          rotate_left
          · (intro wS hS; have e0 := cell_below hS e0; have e1 := cell_below hS e1; have e2 := cell_below hS e2; have d0 := cell_below hS d0; have d1 := cell_below hS d1; have d2 := cell_below hS d2; go_simp <;> with_reducible rfl)
          try simp only [Act.put, List.setIfInBounds_toArray, List.set_cons_zero, List.set_cons_succ]
          refine wpAnyH_take (i := 8) (oi := { dst := some 122, op := Op.binOp BinOp.neq 24 (Operand.tmp 117) (Operand.tmp 121) 24, type := 4, pos := "law.go:70", after := #[{ on := 3, ground := Ground.data }, { on := 7, ground := Ground.data }], guard := none }) (v := ?_) rfl (by kernel_rfl) (by kernel_rfl) (by kernel_rfl) (fun _ _ _ h => h) (Or.inl ⟨by rfl, ?_⟩) (by assumption) ?_
          rotate_left
          · (intro wS hS; go_simp <;> with_reducible rfl)
          try simp only [Act.put, List.setIfInBounds_toArray, List.set_cons_zero, List.set_cons_succ]
          refine wpAnyH_done (by kernel_rfl) ?_ _
          go_wp2_with fail
          go_roundw
          case rel => exact ⟨j + 1, by go_num, by omega, below_then hB4 hS hB4.size⟩
          case measure => simp [intOf]; omega
        · obtain rfl : j = n := by omega
          go_wp2_with fail
          refine (KAW _).out.mono ?_
          rintro e w5 ⟨rfl, hb⟩
          replace hB4 := below_then hB4 hb hB4.size
          clear hb
          go_wp2_with fail
          refine (KL _).out.mono ?_
          rintro e w6 ⟨rfl, hb⟩
          replace hB4 := below_then hB4 hb hB4.size
          clear hb
          go_wp2_with fail
          go_ret
          exact ⟨ret_bool (by simp), below_then hBr hB4 hBr.size⟩
    · have KA := fun W => Lib.hid ((call_any [] W (by simp)).mono (fun e w' h => (show ∃ A2 n2 c2 a b, e = .returned (.tuple #[.slice A2 n2 c2, .int .i64 a, .int .i64 b]) ∧ Below W.heap.size W w' from by
        obtain ⟨v, he, ho, hb⟩ := h
        obtain ⟨A2, c2, rfl, hr, -⟩ := Rd.of_own ho
        exact ⟨A2, _, c2, _, _, he, hb⟩)))
      rw [hp] at KPR
      dsimp only at KPR
      have hz1 : ((e : Int) != 0) = true := by rw [bne_iff_ne]; omega
      have hz2 : ((e : Int) == 0) = false := by rw [beq_eq_false_iff_ne]; omega
      clear hp he hpl
      go_wp2_with fail
      refine (KPR _ hx1).out.mono ?_
      rintro e' w2 ⟨rfl, hb⟩
      replace hBr := below_trans hBr hb
      clear hb KPR hx1
      go_wp2_with fail
      refine (KA _).out.mono ?_
      rintro e' w3 ⟨A2, n2, c2, x1, x2, rfl, hb⟩
      replace hBr := below_trans hBr hb
      clear hb KA
      go_wp2_with fail
      go_loopw [13] (fun i wr => i = .int .i64 0 ∧ Below w3.heap.size w3 wr) (fun _ _ => 0)
      case atStart => exact ⟨rfl, Below.refl _ _⟩
      case round =>
        obtain ⟨rfl, hB4⟩ := hrel
        go_wp2_with (first
          | (go_at_call 17; refine (KAW _).out.mono ?_; rintro e' w5 ⟨rfl, hb⟩; replace hB4 := below_then hB4 hb hB4.size; clear hb)
          | (go_at_call 23; refine (KL _).out.mono ?_; rintro e' w6 ⟨rfl, hb⟩; replace hB4 := below_then hB4 hb hB4.size; clear hb))
        all_goals
          go_ret
          exact ⟨ret_bool (by simp), below_then hBr hB4 hBr.size⟩
end Go.Proofs.Ytefipigdkdopcaa
