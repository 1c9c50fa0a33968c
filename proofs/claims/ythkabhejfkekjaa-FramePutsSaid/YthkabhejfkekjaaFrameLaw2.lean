/- The law FramePuts of layer 32 (frame), walked. -/
import Derived.Test.YthkabhejfkekjaaFrame9
import Derived.Test.YthkabhejfkekjaaFrame6
import Derived.Deep.DeepCutAuto
namespace Go.Proofs.Ythkabhejfkekjaa
open Go.RowKit

set_option maxRecDepth 100000 in
set_option maxHeartbeats 4000000 in
theorem frameputs_law (nu id : Nat) (o t : Int) (d more : List UInt8) (A : Option Addr) (l c : Nat) (w : World) (hx : RdB w A l c more) (hd : d.length ≤ maxLen) :
    Calls Try.prog 12 #[frm nu id o t d, .slice A l c] w fun e w' => e = .returned (.bool true) ∧ Below w.heap.size w w' := by
  obtain ⟨hB, hca⟩ := one_cells w (frmCs nu id o t d) 66
  have c0 := hca 0 (.int .u64 (nu : Int)) rfl
  have c1 := hca 1 (.int .u64 (id : Int)) rfl
  have c2 := hca 2 (.int .i64 o) rfl
  have c3 := hca 3 (.int .i64 t) rfl
  have c4 := hca 4 (.string ⟨d.toArray⟩) rfl
  have hml := hx.cm
  have hnc := hx.nc
  unfold maxLen at hml hd
  clear hca
  replace hx := hx.below hB
  by_cases hlen : 300 < d.length ∨ (d.length ≤ 300 ∧ 300 < l)
  · rcases hlen with h1 | ⟨h1, h2⟩
    all_goals
      go_enter Try.func12, Try.ntmps12
      go_wp2_with (first
        | (go_at_call 48; refine (awake32_any _).mono ?_; rintro e w2 ⟨rfl, hb⟩))
      go_ret
      exact ⟨rfl, below_trans hB hb⟩
  have hd3 : d.length ≤ 300 := by omega
  have hl3 : l ≤ 300 := by omega
  clear hlen
  have KC := fun W => Lib.hid (fcheck_any nu id o t d W (by omega))
  have KM := fun W => Lib.hid (refmay_any nu id o t d W (by omega))
  have KS := fun W => Lib.hid (fsize_any nu id o t d W (by omega))
  cases hmay : mayF nu id o t d.length with
  | false =>
    have KP := fun W => Lib.hid (fput_no nu id o t d W (by omega) hmay)
    rw [hmay] at KM
    rw [hmay, if_neg (by decide)] at KC KS
    clear hmay
    go_enter Try.func12, Try.ntmps12
    go_wp2_with (first
      | (go_at_call 49; refine (KP _).out.mono ?_; rintro e w2 ⟨rfl, hb⟩; replace hB := below_trans hB hb; replace c0 := cell_below hb c0; replace c1 := cell_below hb c1; replace c2 := cell_below hb c2; replace c3 := cell_below hb c3; replace c4 := cell_below hb c4; clear hb)
      | (go_at_call 50; refine (KM _).out.mono ?_; rintro e w3 ⟨rfl, hb⟩; replace hB := below_trans hB hb; replace c0 := cell_below hb c0; replace c1 := cell_below hb c1; replace c2 := cell_below hb c2; replace c3 := cell_below hb c3; replace c4 := cell_below hb c4; clear hb)
      | (go_at_call 51; refine (KC _).out.mono ?_; rintro e w4 ⟨rfl, hb⟩; replace hB := below_trans hB hb; replace c0 := cell_below hb c0; replace c1 := cell_below hb c1; replace c2 := cell_below hb c2; replace c3 := cell_below hb c3; replace c4 := cell_below hb c4; clear hb)
      | (go_at_call 48; refine (awake32_any _).mono ?_; rintro e w5 ⟨rfl, hb⟩; replace hB := below_trans hB hb; replace c0 := cell_below hb c0; replace c1 := cell_below hb c1; replace c2 := cell_below hb c2; replace c3 := cell_below hb c3; replace c4 := cell_below hb c4; clear hb)
      | (go_at_call 52; refine (KS _).out.mono ?_; rintro e w6 ⟨rfl, hb⟩; replace hB := below_trans hB hb; clear hb))
    go_ret
    exact ⟨ret_bool (by simp), hB⟩
  | true =>
    obtain ⟨o, t, rfl, rfl, may⟩ := mayF_nat hmay
    have KP := fun W => Lib.hid (fput_any nu id o t d W may)
    have KR := fun W => Lib.hid (refput32_any nu id o t d W may)
    have hg := fget_put nu id o t d more may
    rw [hmay] at KM
    rw [hmay, if_pos rfl] at KC KS
    have hfl := frmP_length nu id o t d
    have KG := fun A c W hh => Lib.hid (fget32_any nu id o t d 0 (frmP nu id o t d ++ more) A (15 + d.length + l) c W hh (by omega) hg)
    rw [if_pos rfl] at KG
    clear hmay may hg
    generalize frmP nu id o t d = fp at *
    obtain ⟨u, hu⟩ : ∃ u, u = 15 + d.length := ⟨_, rfl⟩
    have hu3 : u ≤ 315 := by omega
    rw [show 15 + (d.length : Int) = (u : Int) by omega] at KS KG
    rw [← hu] at KP KG hfl
    clear hu
    go_enter Try.func12, Try.ntmps12
    go_wp2_with fail
    refine (KP _).out.mono ?_
    rintro e w2 ⟨v, rfl, how, hb⟩
    obtain ⟨A2, c2', rfl, hr2, -⟩ := Rd.of_own how
    replace hB := below_trans hB hb
    replace hx := hx.below hb
    replace c0 := cell_below hb c0
    replace c1 := cell_below hb c1
    replace c2 := cell_below hb c2
    replace c3 := cell_below hb c3
    replace c4 := cell_below hb c4
    clear hb how KP
    go_wp2_with (first
      | (go_at_call 50; refine (KM _).out.mono ?_; rintro e w3 ⟨rfl, hb⟩; replace hB := below_trans hB hb; replace hx := hx.below hb; replace hr2 := hr2.below hb; replace c0 := cell_below hb c0; replace c1 := cell_below hb c1; replace c2 := cell_below hb c2; replace c3 := cell_below hb c3; replace c4 := cell_below hb c4; clear hb)
      | (go_at_call 51; refine (KC _).out.mono ?_; rintro e w4 ⟨rfl, hb⟩; replace hB := below_trans hB hb; replace hx := hx.below hb; replace hr2 := hr2.below hb; replace c0 := cell_below hb c0; replace c1 := cell_below hb c1; replace c2 := cell_below hb c2; replace c3 := cell_below hb c3; replace c4 := cell_below hb c4; have own0 := own_empty w4 5 1; have hBe : Below w4.heap.size w4 (w4.alloc (.cells #[] 5)) := (Below.refl _ _).alloc (Nat.le_refl _) _; have hr2e := hr2.below hBe; clear hb)
      | (at_builtin; refine wpl_append rfl (.tmp 51) (.tmp 52) 22 rfl w4.heap.size 5 _ 1 1 Try.underlying22 info_u8 rfl (by decide) _ 0 [] rfl own0 A2 u c2' _ rfl hr2e (bs_one _) (by unfold maxLen; omega) (by omega) hBe.size ?_; intro v5 w5 ho5 hg5; rw [Nat.zero_add] at ho5; have hB5 := below_own hBe own0 hg5; have hx5 := hx.below hB5; clear hg5)
      | (at_builtin; refine wpl_append rfl (.tmp 53) (.tmp 54) 22 rfl w4.heap.size 5 _ 1 1 Try.underlying22 info_u8 rfl (by decide) _ u _ rfl ho5 A l c _ rfl hx5 (bs_one _) (by unfold maxLen; omega) (by omega) hB5.size ?_; intro v6 w6 ho6 hg6; have hB6 := below_own hB5 ho5 hg6; clear hg6)
      | fail)
    obtain ⟨A6, c6, rfl, hr6, -⟩ := Rd.of_own ho6
    rw [List.nil_append, ← bs_append] at hr6
    replace hB := below_trans hB hB6
    replace c0 := cell_belowB hB6 (cell_lt c0) c0
    replace c1 := cell_belowB hB6 (cell_lt c1) c1
    replace c2 := cell_belowB hB6 (cell_lt c2) c2
    replace c3 := cell_belowB hB6 (cell_lt c3) c3
    replace c4 := cell_belowB hB6 (cell_lt c4) c4
    replace hr2 := hr2.below hB6
    clear ho6 ho5 hB5 hB6 hBe hr2e own0 hx5 hx
    refine (KG _ _ _ hr6).out.mono ?_
    rintro e w7 ⟨rfl, hb⟩
    replace hB := below_trans hB hb
    replace c0 := cell_below hb c0
    replace c1 := cell_below hb c1
    replace c2 := cell_below hb c2
    replace c3 := cell_below hb c3
    replace c4 := cell_below hb c4
    replace hr2 := hr2.below hb
    clear hb hr6 KG
    obtain ⟨hb1, hca⟩ := one_cells w7 (frmCs nu id o t d) 66
    have b0 := hca 0 (.int .u64 (nu : Int)) rfl
    have b1 := hca 1 (.int .u64 (id : Int)) rfl
    have b2 := hca 2 (.int .i64 (o : Int)) rfl
    have b3 := hca 3 (.int .i64 (t : Int)) rfl
    have b4 := hca 4 (.string ⟨d.toArray⟩) rfl
    replace hB := below_trans hB hb1
    replace c0 := cell_below hb1 c0
    replace c1 := cell_below hb1 c1
    replace c2 := cell_below hb1 c2
    replace c3 := cell_below hb1 c3
    replace c4 := cell_below hb1 c4
    replace hr2 := hr2.below hb1
    clear hb1 hca
    go_upto_region 10 with fail
    generalize w7.alloc (.cells (frmCs nu id o t d) 66) = w8 at *
    refine wp_region_held (S := fun W => Below (w8).heap.size (w8) W) (by kernel_rfl) ?_
    change wpAnyH _ _ _ _ _ _ _ _ (w8).drew
    have hS : (fun W => Below (w8).heap.size (w8) W) (w8).drew := (Below.refl _ _).drew
    refine wpAnyH_ready (rs := [0]) (by kernel_rfl) (by simp) ?_
    refine AllReadyH.cons (o := { dst := some 60, op := Op.call { callee := Callee.value (Operand.func 48), args := #[], argTypes := #[] }, type := 4, pos := "law.go:33", after := #[], guard := none }) rfl (fun K hK => ?_) AllReadyH.nil
    go_simp
    refine (awake32_any _).mono ?_
    rintro e w100 ⟨rfl, hb⟩
    replace hS : (fun W => Below (w8).heap.size (w8) W) w100 := below_then hS hb (Below.size hS)
    refine hK.out _ _ hS (fun _ => ?_)
    clear hK K hb
    try simp only [Act.put, List.setIfInBounds_toArray, List.set_cons_zero, List.set_cons_succ]
    refine wpAnyH_take (i := 1) (oi := { dst := some 61, op := Op.move (Operand.tmp 60), type := 4, pos := "law.go:33", after := #[{ on := 0, ground := Ground.data }, { on := 0, ground := Ground.chain }], guard := none }) (v := ?_) rfl (by kernel_rfl) (by kernel_rfl) (by kernel_rfl) (fun _ _ _ h => h) (Or.inl ⟨by rfl, ?_⟩) (by assumption) ?_
    rotate_left
    · (intro wS hS; go_simp <;> with_reducible rfl)
    try simp only [Act.put, List.setIfInBounds_toArray, List.set_cons_zero, List.set_cons_succ]
    refine wpAnyH_take (i := 2) (oi := { dst := some 62, op := Op.move (Operand.tmp 6), type := 54, pos := "law.go:33", after := #[{ on := 1, ground := Ground.guard }], guard := some (1, true) }) (v := ?_) rfl (by kernel_rfl) (by kernel_rfl) (by kernel_rfl) (fun _ _ _ h => h) (Or.inl ⟨by rfl, ?_⟩) (by assumption) ?_
    rotate_left
    · (intro wS hS; go_simp <;> with_reducible rfl)
    try simp only [Act.put, List.setIfInBounds_toArray, List.set_cons_zero, List.set_cons_succ]
    refine wpAnyH_take (i := 3) (oi := { dst := some 63, op := Op.binOp BinOp.eql 54 (Operand.tmp 62) (Operand.const (Value.int IntKind.i64 0)) 54, type := 4, pos := "law.go:33", after := #[{ on := 2, ground := Ground.data }, { on := 1, ground := Ground.guard }], guard := some (1, true) }) (v := ?_) rfl (by kernel_rfl) (by kernel_rfl) (by kernel_rfl) (fun _ _ _ h => h) (Or.inl ⟨by rfl, ?_⟩) (by assumption) ?_
    rotate_left
    · (intro wS hS; go_simp <;> with_reducible rfl)
    try simp only [Act.put, List.setIfInBounds_toArray, List.set_cons_zero, List.set_cons_succ]
    refine wpAnyH_take (i := 4) (oi := { dst := some 64, op := Op.pick (Operand.tmp 61) (Operand.tmp 63) (Operand.const (Value.bool false)), type := 4, pos := "law.go:33", after := #[{ on := 1, ground := Ground.data }, { on := 3, ground := Ground.data }], guard := none }) (v := ?_) rfl (by kernel_rfl) (by kernel_rfl) (by kernel_rfl) (fun _ _ _ h => h) (Or.inl ⟨by rfl, ?_⟩) (by assumption) ?_
    rotate_left
    · (intro wS hS; go_simp <;> with_reducible rfl)
    try simp only [Act.put, List.setIfInBounds_toArray, List.set_cons_zero, List.set_cons_succ]
    refine wpAnyH_take (i := 5) (oi := { dst := some 65, op := Op.move (Operand.tmp 64), type := 4, pos := "law.go:33", after := #[{ on := 4, ground := Ground.data }, { on := 1, ground := Ground.chain }], guard := none }) (v := ?_) rfl (by kernel_rfl) (by kernel_rfl) (by kernel_rfl) (fun _ _ _ h => h) (Or.inl ⟨by rfl, ?_⟩) (by assumption) ?_
    rotate_left
    · (intro wS hS; go_simp <;> with_reducible rfl)
    try simp only [Act.put, List.setIfInBounds_toArray, List.set_cons_zero, List.set_cons_succ]
    refine wpAnyH_take (i := 6) (oi := { dst := some 66, op := Op.move (Operand.tmp 5), type := 22, pos := "law.go:33", after := #[{ on := 5, ground := Ground.guard }], guard := some (5, true) }) (v := ?_) rfl (by kernel_rfl) (by kernel_rfl) (by kernel_rfl) (fun _ _ _ h => h) (Or.inl ⟨by rfl, ?_⟩) (by assumption) ?_
    rotate_left
    · (intro wS hS; go_simp <;> with_reducible rfl)
    try simp only [Act.put, List.setIfInBounds_toArray, List.set_cons_zero, List.set_cons_succ]
    refine wpAnyH_take (i := 7) (oi := { dst := some 67, op := Op.convert 22 9 (Operand.tmp 66), type := 9, pos := "law.go:33", after := #[{ on := 6, ground := Ground.data }, { on := 5, ground := Ground.guard }], guard := some (5, true) }) (v := ?_) rfl (by kernel_rfl) (by kernel_rfl) (by kernel_rfl) (fun _ _ _ h => h) (Or.inl ⟨by rfl, ?_⟩) (by assumption) ?_
    rotate_left
    · (intro wS hS; have hk := run_string_of (P := Try.prog) 22 9 5 Try.underlying22 Try.underlying5 Try.underlying9 (hr2.below hS); go_simp <;> with_reducible rfl)
    try simp only [Act.put, List.setIfInBounds_toArray, List.set_cons_zero, List.set_cons_succ]
    refine wpAnyH_take (i := 8) (oi := { dst := some 68, op := Op.load 66 (Operand.tmp 2), type := 66, pos := "law.go:33", after := #[{ on := 5, ground := Ground.guard }], guard := some (5, true) }) (v := ?_) rfl (by kernel_rfl) (by kernel_rfl) (by kernel_rfl) (fun _ _ _ h => h) (Or.inl ⟨by rfl, ?_⟩) (by assumption) ?_
    rotate_left
    · (intro wS hS; have c0 := cell_below hS c0; have c1 := cell_below hS c1; have c2 := cell_below hS c2; have c3 := cell_below hS c3; have c4 := cell_below hS c4; have b0 := cell_below hS b0; have b1 := cell_below hS b1; have b2 := cell_below hS b2; have b3 := cell_below hS b3; have b4 := cell_below hS b4; go_simp <;> with_reducible rfl)
    try simp only [Act.put, List.setIfInBounds_toArray, List.set_cons_zero, List.set_cons_succ]
    refine wpAnyH_ready (rs := [9]) (by kernel_rfl) (by simp) ?_
    refine AllReadyH.cons (o := { dst := some 69, op := Op.call { callee := Callee.value (Operand.func 54), args := #[Operand.tmp 68], argTypes := #[66] }, type := 9, pos := "law.go:33", after := #[{ on := 8, ground := Ground.data }, { on := 5, ground := Ground.chain }, { on := 5, ground := Ground.guard }], guard := some (5, true) }) rfl (fun K hK => ?_) AllReadyH.nil
    go_simp
    refine (KR _).out.mono ?_
    rintro e w109 ⟨rfl, hb⟩
    replace hS : (fun W => Below (w8).heap.size (w8) W) w109 := below_then hS hb (Below.size hS)
    refine hK.out _ _ hS (fun _ => ?_)
    clear hK K hb
    try simp only [Act.put, List.setIfInBounds_toArray, List.set_cons_zero, List.set_cons_succ]
    refine wpAnyH_take (i := 10) (oi := { dst := some 70, op := Op.binOp BinOp.eql 9 (Operand.tmp 67) (Operand.tmp 69) 9, type := 4, pos := "law.go:33", after := #[{ on := 7, ground := Ground.data }, { on := 9, ground := Ground.data }, { on := 5, ground := Ground.guard }], guard := some (5, true) }) (v := ?_) rfl (by kernel_rfl) (by kernel_rfl) (by kernel_rfl) (fun _ _ _ h => h) (Or.inl ⟨by rfl, ?_⟩) (by assumption) ?_
    rotate_left
    · (intro wS hS; go_simp <;> with_reducible rfl)
    try simp only [Act.put, List.setIfInBounds_toArray, List.set_cons_zero, List.set_cons_succ]
    refine wpAnyH_take (i := 11) (oi := { dst := some 71, op := Op.pick (Operand.tmp 65) (Operand.tmp 70) (Operand.const (Value.bool false)), type := 4, pos := "law.go:33", after := #[{ on := 5, ground := Ground.data }, { on := 10, ground := Ground.data }], guard := none }) (v := ?_) rfl (by kernel_rfl) (by kernel_rfl) (by kernel_rfl) (fun _ _ _ h => h) (Or.inl ⟨by rfl, ?_⟩) (by assumption) ?_
    rotate_left
    · (intro wS hS; go_simp <;> with_reducible rfl)
    try simp only [Act.put, List.setIfInBounds_toArray, List.set_cons_zero, List.set_cons_succ]
    refine wpAnyH_take (i := 12) (oi := { dst := some 72, op := Op.move (Operand.tmp 71), type := 4, pos := "law.go:33", after := #[{ on := 11, ground := Ground.data }, { on := 9, ground := Ground.chain }], guard := none }) (v := ?_) rfl (by kernel_rfl) (by kernel_rfl) (by kernel_rfl) (fun _ _ _ h => h) (Or.inl ⟨by rfl, ?_⟩) (by assumption) ?_
    rotate_left
    · (intro wS hS; go_simp <;> with_reducible rfl)
    try simp only [Act.put, List.setIfInBounds_toArray, List.set_cons_zero, List.set_cons_succ]
    refine wpAnyH_take (i := 13) (oi := { dst := some 73, op := Op.load 66 (Operand.tmp 2), type := 66, pos := "law.go:33", after := #[{ on := 12, ground := Ground.guard }], guard := some (12, true) }) (v := ?_) rfl (by kernel_rfl) (by kernel_rfl) (by kernel_rfl) (fun _ _ _ h => h) (Or.inl ⟨by rfl, ?_⟩) (by assumption) ?_
    rotate_left
    · (intro wS hS; have c0 := cell_below hS c0; have c1 := cell_below hS c1; have c2 := cell_below hS c2; have c3 := cell_below hS c3; have c4 := cell_below hS c4; have b0 := cell_below hS b0; have b1 := cell_below hS b1; have b2 := cell_below hS b2; have b3 := cell_below hS b3; have b4 := cell_below hS b4; go_simp <;> with_reducible rfl)
    try simp only [Act.put, List.setIfInBounds_toArray, List.set_cons_zero, List.set_cons_succ]
    refine wpAnyH_take (i := 15) (oi := { dst := some 75, op := Op.move (Operand.tmp 5), type := 22, pos := "law.go:33", after := #[{ on := 12, ground := Ground.guard }], guard := some (12, true) }) (v := ?_) rfl (by kernel_rfl) (by kernel_rfl) (by kernel_rfl) (fun _ _ _ h => h) (Or.inl ⟨by rfl, ?_⟩) (by assumption) ?_
    rotate_left
    · (intro wS hS; go_simp <;> with_reducible rfl)
    try simp only [Act.put, List.setIfInBounds_toArray, List.set_cons_zero, List.set_cons_succ]
    refine wpAnyH_take (i := 16) (oi := { dst := some 76, op := Op.call { callee := Callee.builtin Builtin.len, args := #[Operand.tmp 75], argTypes := #[22] }, type := 3, pos := "law.go:33", after := #[{ on := 15, ground := Ground.data }, { on := 12, ground := Ground.guard }], guard := some (12, true) }) (v := ?_) rfl (by kernel_rfl) (by kernel_rfl) (by kernel_rfl) (fun _ _ _ h => h) (Or.inl ⟨by rfl, ?_⟩) (by assumption) ?_
    rotate_left
    · (intro wS hS; go_simp <;> with_reducible rfl)
    try simp only [Act.put, List.setIfInBounds_toArray, List.set_cons_zero, List.set_cons_succ]
    refine wpAnyH_ready (rs := [14]) (by kernel_rfl) (by simp) ?_
    refine AllReadyH.cons (o := { dst := some 74, op := Op.call { callee := Callee.value (Operand.func 52), args := #[Operand.tmp 73], argTypes := #[66] }, type := 3, pos := "law.go:33", after := #[{ on := 13, ground := Ground.data }, { on := 12, ground := Ground.chain }, { on := 12, ground := Ground.guard }], guard := some (12, true) }) rfl (fun K hK => ?_) AllReadyH.nil
    go_simp
    refine (KS _).out.mono ?_
    rintro e w114 ⟨rfl, hb⟩
    replace hS : (fun W => Below (w8).heap.size (w8) W) w114 := below_then hS hb (Below.size hS)
    refine hK.out _ _ hS (fun _ => ?_)
    clear hK K hb
    try simp only [Act.put, List.setIfInBounds_toArray, List.set_cons_zero, List.set_cons_succ]
    refine wpAnyH_take (i := 17) (oi := { dst := some 77, op := Op.binOp BinOp.eql 3 (Operand.tmp 74) (Operand.tmp 76) 3, type := 4, pos := "law.go:33", after := #[{ on := 14, ground := Ground.data }, { on := 16, ground := Ground.data }, { on := 12, ground := Ground.guard }], guard := some (12, true) }) (v := ?_) rfl (by kernel_rfl) (by kernel_rfl) (by kernel_rfl) (fun _ _ _ h => h) (Or.inl ⟨by rfl, ?_⟩) (by assumption) ?_
    rotate_left
    · (intro wS hS; go_simp <;> with_reducible rfl)
    try simp only [Act.put, List.setIfInBounds_toArray, List.set_cons_zero, List.set_cons_succ]
    refine wpAnyH_take (i := 18) (oi := { dst := some 78, op := Op.pick (Operand.tmp 72) (Operand.tmp 77) (Operand.const (Value.bool false)), type := 4, pos := "law.go:33", after := #[{ on := 12, ground := Ground.data }, { on := 17, ground := Ground.data }], guard := none }) (v := ?_) rfl (by kernel_rfl) (by kernel_rfl) (by kernel_rfl) (fun _ _ _ h => h) (Or.inl ⟨by rfl, ?_⟩) (by assumption) ?_
    rotate_left
    · (intro wS hS; go_simp <;> with_reducible rfl)
    try simp only [Act.put, List.setIfInBounds_toArray, List.set_cons_zero, List.set_cons_succ]
    refine wpAnyH_take (i := 19) (oi := { dst := some 79, op := Op.move (Operand.tmp 78), type := 4, pos := "law.go:33", after := #[{ on := 18, ground := Ground.data }, { on := 14, ground := Ground.chain }], guard := none }) (v := ?_) rfl (by kernel_rfl) (by kernel_rfl) (by kernel_rfl) (fun _ _ _ h => h) (Or.inl ⟨by rfl, ?_⟩) (by assumption) ?_
    rotate_left
    · (intro wS hS; go_simp <;> with_reducible rfl)
    try simp only [Act.put, List.setIfInBounds_toArray, List.set_cons_zero, List.set_cons_succ]
    refine wpAnyH_take (i := 20) (oi := { dst := some 80, op := Op.load 66 (Operand.tmp 8), type := 66, pos := "law.go:33", after := #[{ on := 19, ground := Ground.guard }], guard := some (19, true) }) (v := ?_) rfl (by kernel_rfl) (by kernel_rfl) (by kernel_rfl) (fun _ _ _ h => h) (Or.inl ⟨by rfl, ?_⟩) (by assumption) ?_
    rotate_left
    · (intro wS hS; have c0 := cell_below hS c0; have c1 := cell_below hS c1; have c2 := cell_below hS c2; have c3 := cell_below hS c3; have c4 := cell_below hS c4; have b0 := cell_below hS b0; have b1 := cell_below hS b1; have b2 := cell_below hS b2; have b3 := cell_below hS b3; have b4 := cell_below hS b4; go_simp <;> with_reducible rfl)
    try simp only [Act.put, List.setIfInBounds_toArray, List.set_cons_zero, List.set_cons_succ]
    refine wpAnyH_take (i := 21) (oi := { dst := some 81, op := Op.load 66 (Operand.tmp 2), type := 66, pos := "law.go:33", after := #[{ on := 19, ground := Ground.guard }], guard := some (19, true) }) (v := ?_) rfl (by kernel_rfl) (by kernel_rfl) (by kernel_rfl) (fun _ _ _ h => h) (Or.inl ⟨by rfl, ?_⟩) (by assumption) ?_
    rotate_left
    · (intro wS hS; have c0 := cell_below hS c0; have c1 := cell_below hS c1; have c2 := cell_below hS c2; have c3 := cell_below hS c3; have c4 := cell_below hS c4; have b0 := cell_below hS b0; have b1 := cell_below hS b1; have b2 := cell_below hS b2; have b3 := cell_below hS b3; have b4 := cell_below hS b4; go_simp <;> with_reducible rfl)
    try simp only [Act.put, List.setIfInBounds_toArray, List.set_cons_zero, List.set_cons_succ]
    refine wpAnyH_take (i := 22) (oi := { dst := some 82, op := Op.binOp BinOp.eql 66 (Operand.tmp 80) (Operand.tmp 81) 66, type := 4, pos := "law.go:33", after := #[{ on := 20, ground := Ground.data }, { on := 21, ground := Ground.data }, { on := 19, ground := Ground.guard }], guard := some (19, true) }) (v := ?_) rfl (by kernel_rfl) (by kernel_rfl) (by kernel_rfl) (fun _ _ _ h => h) (Or.inl ⟨by rfl, ?_⟩) (by assumption) ?_
    rotate_left
    · (intro wS hS; go_simp <;> with_reducible rfl)
    try simp only [Act.put, List.setIfInBounds_toArray, List.set_cons_zero, List.set_cons_succ]
    refine wpAnyH_take (i := 23) (oi := { dst := some 83, op := Op.pick (Operand.tmp 79) (Operand.tmp 82) (Operand.const (Value.bool false)), type := 4, pos := "law.go:33", after := #[{ on := 19, ground := Ground.data }, { on := 22, ground := Ground.data }], guard := none }) (v := ?_) rfl (by kernel_rfl) (by kernel_rfl) (by kernel_rfl) (fun _ _ _ h => h) (Or.inl ⟨by rfl, ?_⟩) (by assumption) ?_
    rotate_left
    · (intro wS hS; go_simp <;> with_reducible rfl)
    try simp only [Act.put, List.setIfInBounds_toArray, List.set_cons_zero, List.set_cons_succ]
    refine wpAnyH_take (i := 24) (oi := { dst := some 84, op := Op.move (Operand.tmp 83), type := 4, pos := "law.go:33", after := #[{ on := 23, ground := Ground.data }, { on := 19, ground := Ground.chain }], guard := none }) (v := ?_) rfl (by kernel_rfl) (by kernel_rfl) (by kernel_rfl) (fun _ _ _ h => h) (Or.inl ⟨by rfl, ?_⟩) (by assumption) ?_
    rotate_left
    · (intro wS hS; go_simp <;> with_reducible rfl)
    try simp only [Act.put, List.setIfInBounds_toArray, List.set_cons_zero, List.set_cons_succ]
    refine wpAnyH_take (i := 25) (oi := { dst := some 85, op := Op.move (Operand.tmp 9), type := 3, pos := "law.go:33", after := #[{ on := 24, ground := Ground.guard }], guard := some (24, true) }) (v := ?_) rfl (by kernel_rfl) (by kernel_rfl) (by kernel_rfl) (fun _ _ _ h => h) (Or.inl ⟨by rfl, ?_⟩) (by assumption) ?_
    rotate_left
    · (intro wS hS; go_simp <;> with_reducible rfl)
    try simp only [Act.put, List.setIfInBounds_toArray, List.set_cons_zero, List.set_cons_succ]
    refine wpAnyH_take (i := 26) (oi := { dst := some 86, op := Op.move (Operand.tmp 5), type := 22, pos := "law.go:33", after := #[{ on := 24, ground := Ground.guard }], guard := some (24, true) }) (v := ?_) rfl (by kernel_rfl) (by kernel_rfl) (by kernel_rfl) (fun _ _ _ h => h) (Or.inl ⟨by rfl, ?_⟩) (by assumption) ?_
    rotate_left
    · (intro wS hS; go_simp <;> with_reducible rfl)
    try simp only [Act.put, List.setIfInBounds_toArray, List.set_cons_zero, List.set_cons_succ]
    refine wpAnyH_take (i := 27) (oi := { dst := some 87, op := Op.call { callee := Callee.builtin Builtin.len, args := #[Operand.tmp 86], argTypes := #[22] }, type := 3, pos := "law.go:33", after := #[{ on := 26, ground := Ground.data }, { on := 24, ground := Ground.guard }], guard := some (24, true) }) (v := ?_) rfl (by kernel_rfl) (by kernel_rfl) (by kernel_rfl) (fun _ _ _ h => h) (Or.inl ⟨by rfl, ?_⟩) (by assumption) ?_
    rotate_left
    · (intro wS hS; go_simp <;> with_reducible rfl)
    try simp only [Act.put, List.setIfInBounds_toArray, List.set_cons_zero, List.set_cons_succ]
    refine wpAnyH_take (i := 28) (oi := { dst := some 88, op := Op.binOp BinOp.eql 3 (Operand.tmp 85) (Operand.tmp 87) 3, type := 4, pos := "law.go:33", after := #[{ on := 25, ground := Ground.data }, { on := 27, ground := Ground.data }, { on := 24, ground := Ground.guard }], guard := some (24, true) }) (v := ?_) rfl (by kernel_rfl) (by kernel_rfl) (by kernel_rfl) (fun _ _ _ h => h) (Or.inl ⟨by rfl, ?_⟩) (by assumption) ?_
    rotate_left
    · (intro wS hS; go_simp <;> with_reducible rfl)
    try simp only [Act.put, List.setIfInBounds_toArray, List.set_cons_zero, List.set_cons_succ]
    refine wpAnyH_take (i := 29) (oi := { dst := some 89, op := Op.pick (Operand.tmp 84) (Operand.tmp 88) (Operand.const (Value.bool false)), type := 4, pos := "law.go:33", after := #[{ on := 24, ground := Ground.data }, { on := 28, ground := Ground.data }], guard := none }) (v := ?_) rfl (by kernel_rfl) (by kernel_rfl) (by kernel_rfl) (fun _ _ _ h => h) (Or.inl ⟨by rfl, ?_⟩) (by assumption) ?_
    rotate_left
    · (intro wS hS; go_simp <;> with_reducible rfl)
    try simp only [Act.put, List.setIfInBounds_toArray, List.set_cons_zero, List.set_cons_succ]
    refine wpAnyH_take (i := 30) (oi := { dst := some 90, op := Op.move (Operand.tmp 89), type := 4, pos := "law.go:33", after := #[{ on := 29, ground := Ground.data }, { on := 24, ground := Ground.chain }], guard := none }) (v := ?_) rfl (by kernel_rfl) (by kernel_rfl) (by kernel_rfl) (fun _ _ _ h => h) (Or.inl ⟨by rfl, ?_⟩) (by assumption) ?_
    rotate_left
    · (intro wS hS; go_simp <;> with_reducible rfl)
    try simp only [Act.put, List.setIfInBounds_toArray, List.set_cons_zero, List.set_cons_succ]
    refine wpAnyH_take (i := 31) (oi := { dst := some 91, op := Op.move (Operand.tmp 10), type := 54, pos := "law.go:33", after := #[{ on := 30, ground := Ground.guard }], guard := some (30, true) }) (v := ?_) rfl (by kernel_rfl) (by kernel_rfl) (by kernel_rfl) (fun _ _ _ h => h) (Or.inl ⟨by rfl, ?_⟩) (by assumption) ?_
    rotate_left
    · (intro wS hS; go_simp <;> with_reducible rfl)
    try simp only [Act.put, List.setIfInBounds_toArray, List.set_cons_zero, List.set_cons_succ]
    refine wpAnyH_take (i := 32) (oi := { dst := some 92, op := Op.binOp BinOp.eql 54 (Operand.tmp 91) (Operand.const (Value.int IntKind.i64 0)) 54, type := 4, pos := "law.go:33", after := #[{ on := 31, ground := Ground.data }, { on := 30, ground := Ground.guard }], guard := some (30, true) }) (v := ?_) rfl (by kernel_rfl) (by kernel_rfl) (by kernel_rfl) (fun _ _ _ h => h) (Or.inl ⟨by rfl, ?_⟩) (by assumption) ?_
    rotate_left
    · (intro wS hS; go_simp <;> with_reducible rfl)
    try simp only [Act.put, List.setIfInBounds_toArray, List.set_cons_zero, List.set_cons_succ]
    refine wpAnyH_take (i := 33) (oi := { dst := some 93, op := Op.pick (Operand.tmp 90) (Operand.tmp 92) (Operand.const (Value.bool false)), type := 4, pos := "law.go:33", after := #[{ on := 30, ground := Ground.data }, { on := 32, ground := Ground.data }], guard := none }) (v := ?_) rfl (by kernel_rfl) (by kernel_rfl) (by kernel_rfl) (fun _ _ _ h => h) (Or.inl ⟨by rfl, ?_⟩) (by assumption) ?_
    rotate_left
    · (intro wS hS; go_simp <;> with_reducible rfl)
    try simp only [Act.put, List.setIfInBounds_toArray, List.set_cons_zero, List.set_cons_succ]
    refine wpAnyH_take (i := 34) (oi := { dst := some 4, op := Op.assign (Operand.tmp 93), type := 4, pos := "law.go:33", after := #[{ on := 33, ground := Ground.data }, { on := 30, ground := Ground.chain }, { on := 0, ground := Ground.phase }, { on := 1, ground := Ground.phase }, { on := 2, ground := Ground.phase }, { on := 3, ground := Ground.phase }, { on := 4, ground := Ground.phase }, { on := 5, ground := Ground.phase }, { on := 6, ground := Ground.phase }, { on := 7, ground := Ground.phase }, { on := 8, ground := Ground.phase }, { on := 9, ground := Ground.phase }, { on := 10, ground := Ground.phase }, { on := 11, ground := Ground.phase }, { on := 12, ground := Ground.phase }, { on := 13, ground := Ground.phase }, { on := 14, ground := Ground.phase }, { on := 15, ground := Ground.phase }, { on := 16, ground := Ground.phase }, { on := 17, ground := Ground.phase }, { on := 18, ground := Ground.phase }, { on := 19, ground := Ground.phase }, { on := 20, ground := Ground.phase }, { on := 21, ground := Ground.phase }, { on := 22, ground := Ground.phase }, { on := 23, ground := Ground.phase }, { on := 24, ground := Ground.phase }, { on := 25, ground := Ground.phase }, { on := 26, ground := Ground.phase }, { on := 27, ground := Ground.phase }, { on := 28, ground := Ground.phase }, { on := 29, ground := Ground.phase }, { on := 30, ground := Ground.phase }, { on := 31, ground := Ground.phase }, { on := 32, ground := Ground.phase }, { on := 33, ground := Ground.phase }], guard := none }) (v := ?_) rfl (by kernel_rfl) (by kernel_rfl) (by kernel_rfl) (fun _ _ _ h => h) (Or.inl ⟨by rfl, ?_⟩) (by assumption) ?_
    rotate_left
    · (intro wS hS; go_simp <;> with_reducible rfl)
    try simp only [Act.put, List.setIfInBounds_toArray, List.set_cons_zero, List.set_cons_succ]
    refine wpAnyH_done (by kernel_rfl) ?_ _
    go_wp2_with fail
    go_ret
    exact ⟨ret_bool (by simp), hB.trans (below_of hS hB.size)⟩
end Go.Proofs.Ythkabhejfkekjaa
