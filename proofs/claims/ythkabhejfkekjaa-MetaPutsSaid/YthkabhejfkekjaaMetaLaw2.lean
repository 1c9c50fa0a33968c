/- The law MetaPuts of layer 26 (meta), walked. -/
import Derived.Test.YthkabhejfkekjaaMeta8
import Derived.Test.YthkabhejfkekjaaMeta9
import Derived.Test.YthkabhejfkekjaaMeta10
namespace Go.Proofs.Ythkabhejfkekjaa
open Go.RowKit

theorem sameM_refl (id fi : Nat) (pr le : Int) (en : Nat) (pl : Bool) (lp : Int) (ps : List Int) : sameM id fi pr le en pl lp ps id fi pr le en pl lp ps = true := by simp [sameM]
theorem mayM_nat {id fi : Nat} {pr le lp : Int} {ps : List Int} {en : Nat} (hen : en < 18446744073709551616) (h : mayM id fi pr le lp ps = true) : ∃ (pr2 le2 lp2 : Nat) (qs : List Nat), pr = pr2 ∧ le = le2 ∧ lp = lp2 ∧ ps = ints qs ∧ MayM id fi pr2 le2 en lp2 qs := by
  unfold mayM at h
  rw [Bool.and_eq_true] at h
  obtain ⟨h1, h2⟩ := h
  unfold headM at h1
  rw [decide_eq_true_iff] at h1
  obtain ⟨g1, g2, g3, g4, g5, g6, ⟨g7, g8⟩, g9, g10⟩ := h1
  have key : ∀ j, j ≤ ps.length → allP ps j = true → ∀ i, i < j → 1 ≤ ps.getD i 0 ∧ ps.getD i 0 ≤ 65535 := by
    intro j
    induction j with
    | zero => intro _ _ i hi; omega
    | succ j ih =>
      intro hj ha i hi
      rw [allP, Bool.and_eq_true] at ha
      by_cases hij : i = j
      · subst hij
        have := ha.2
        unfold pageOk at this
        rwa [decide_eq_true_iff] at this
      · exact ih (by omega) ha.1 i (by omega)
  have hall := key ps.length (Nat.le_refl _) h2
  have hmem : ∀ p ∈ ps, 1 ≤ p ∧ p ≤ 65535 := by
    intro p hp
    obtain ⟨i, hi, rfl⟩ := List.mem_iff_getElem.1 hp
    have := hall i hi
    rwa [List.getD_eq_getElem?_getD, List.getElem?_eq_getElem hi, Option.getD_some] at this
  have hq : ps = ints (ps.map Int.toNat) := by
    unfold ints
    rw [List.map_map]
    refine List.ext_getElem (by simp) fun i h1 h2 => ?_
    have := hmem _ (List.getElem_mem h1)
    rw [List.getElem_map]
    simp only [Function.comp]
    omega
  refine ⟨pr.toNat, le.toNat, lp.toNat, ps.map Int.toNat, by omega, by omega, by omega, hq, ⟨g1, g2, by omega, by omega, by omega, hen, by omega, by omega, by simpa using g9, by simpa using g10, fun p hp => ?_⟩⟩
  obtain ⟨x, hx, rfl⟩ := List.mem_map.1 hp
  have := hmem x hx
  omega

set_option maxRecDepth 100000 in
set_option maxHeartbeats 8000000 in
theorem metaputs_law (id fi : Nat) (pr le : Int) (en : Nat) (pl : Bool) (lp : Int) (ps : List Int) (id2 fi2 : Nat) (pr2 le2 : Int) (en2 : Nat) (pl2 : Bool) (lp2 : Int) (qs : List Int) (A B : Option Addr) (n c m k : Nat) (w : World) (hx : RdI w A n c ps) (hy : RdI w B m k qs) (hen : en < 18446744073709551616) :
    Calls Try.prog 16 #[recV id fi pr le en pl lp A n c, recV id2 fi2 pr2 le2 en2 pl2 lp2 B m k] w fun e w' => e = .returned (.bool true) ∧ Below w.heap.size w w' := by
  obtain ⟨hB, hca, hcb⟩ := rec_cells2 w (recCs id fi pr le en pl lp A n c) (recCs id2 fi2 pr2 le2 en2 pl2 lp2 B m k) 91 rfl
  have a0 := hca 0 (.int .u64 (id : Int)) rfl
  have a1 := hca 1 (.int .u64 (fi : Int)) rfl
  have a2 := hca 2 (.int .i64 pr) rfl
  have a3 := hca 3 (.int .i64 le) rfl
  have a4 := hca 4 (.int .u64 (en : Int)) rfl
  have a5 := hca 5 (.bool pl) rfl
  have a6 := hca 6 (.int .i64 lp) rfl
  have a7 := hca 7 (.slice A n c) rfl
  have b0 := hcb 0 (.int .u64 (id2 : Int)) rfl
  have b1 := hcb 1 (.int .u64 (fi2 : Int)) rfl
  have b2 := hcb 2 (.int .i64 pr2) rfl
  have b3 := hcb 3 (.int .i64 le2) rfl
  have b4 := hcb 4 (.int .u64 (en2 : Int)) rfl
  have b5 := hcb 5 (.bool pl2) rfl
  have b6 := hcb 6 (.int .i64 lp2) rfl
  have b7 := hcb 7 (.slice B m k) rfl
  have hc1 := hx.cm
  have hc2 := hy.cm
  have hn1 := hx.nc
  have hn2 := hy.nc
  have hxl := hx.ilen
  unfold maxLen at hc1 hc2
  replace hx := hx.below hB
  replace hy := hy.below hB
  clear hca hcb
  by_cases hlen : 60 < n ∨ (n ≤ 60 ∧ 60 < m)
  · clear hen
    rcases hlen with h1 | ⟨h1, h2⟩
    all_goals
      go_enter Try.func16, Try.ntmps16
      go_wp2_with (first
        | (go_at_call 61; refine (awake26_any _).mono ?_; rintro e w2 ⟨rfl, hb⟩))
      go_ret
      exact ⟨rfl, below_trans hB hb⟩
  have hn6 : n ≤ 60 := by omega
  have hm6 : m ≤ 60 := by omega
  clear hlen
  have KC := fun W h1 => Lib.hid (mcheck_any id fi pr le en pl lp ps A n c W h1 (by omega))
  have KM := fun W h1 => Lib.hid (refmay26_any id fi pr le en pl lp ps A n c W h1 (by omega))
  have KS := fun W h1 h2 => Lib.hid (msame_any id fi pr le en pl lp ps id2 fi2 pr2 le2 en2 pl2 lp2 qs A B n c m k W h1 h2 (by omega) (by omega))
  have KR := fun W h1 h2 => Lib.hid (refsame26_any id fi pr le en pl lp ps id2 fi2 pr2 le2 en2 pl2 lp2 qs A B n c m k W h1 h2 (by omega) (by omega))
  generalize sameM id fi pr le en pl lp ps id2 fi2 pr2 le2 en2 pl2 lp2 qs = sb at *
  cases hmay : mayM id fi pr le lp ps with
  | false =>
    have KP := fun W h1 => Lib.hid (mput_no id fi pr le en pl lp ps A n c W h1 (by omega) hmay)
    rw [hmay] at KM
    rw [hmay, if_neg (by decide)] at KC
    clear hmay hen
    go_enter Try.func16, Try.ntmps16
    go_upto_region 3 with fail
    generalize (w.alloc (.cells (recCs id fi pr le en pl lp A n c) 91)).alloc (.cells (recCs id2 fi2 pr2 le2 en2 pl2 lp2 B m k) 91) = w0 at *
    go_wp2_with fail
    refine (KP _ hx).out.mono ?_
    rintro e w1 ⟨rfl, hb⟩
    replace hB := below_trans hB hb
    replace hx := hx.below hb
    replace hy := hy.below hb
    replace a0 := cell_below hb a0
    replace a1 := cell_below hb a1
    replace a2 := cell_below hb a2
    replace a3 := cell_below hb a3
    replace a4 := cell_below hb a4
    replace a5 := cell_below hb a5
    replace a6 := cell_below hb a6
    replace a7 := cell_below hb a7
    replace b0 := cell_below hb b0
    replace b1 := cell_below hb b1
    replace b2 := cell_below hb b2
    replace b3 := cell_below hb b3
    replace b4 := cell_below hb b4
    replace b5 := cell_below hb b5
    replace b6 := cell_below hb b6
    replace b7 := cell_below hb b7
    clear hb KP
    go_wp2_with fail
    refine (KM _ hx).out.mono ?_
    rintro e w2 ⟨rfl, hb⟩
    replace hB := below_trans hB hb
    replace hx := hx.below hb
    replace hy := hy.below hb
    replace a0 := cell_below hb a0
    replace a1 := cell_below hb a1
    replace a2 := cell_below hb a2
    replace a3 := cell_below hb a3
    replace a4 := cell_below hb a4
    replace a5 := cell_below hb a5
    replace a6 := cell_below hb a6
    replace a7 := cell_below hb a7
    replace b0 := cell_below hb b0
    replace b1 := cell_below hb b1
    replace b2 := cell_below hb b2
    replace b3 := cell_below hb b3
    replace b4 := cell_below hb b4
    replace b5 := cell_below hb b5
    replace b6 := cell_below hb b6
    replace b7 := cell_below hb b7
    clear hb
    go_wp2_with fail
    refine wp_region_held (S := fun W => Below (w2).heap.size (w2) W) (by kernel_rfl) ?_
    change wpAnyH _ _ _ _ _ _ _ _ (w2).drew
    have hS : (fun W => Below (w2).heap.size (w2) W) (w2).drew := (Below.refl _ _).drew
    refine wpAnyH_take (i := 0) (oi := { dst := some 28, op := Op.load 91 (Operand.tmp 2), type := 91, pos := "law.go:28", after := #[], guard := none }) (v := ?_) rfl (by kernel_rfl) (by kernel_rfl) (by kernel_rfl) (fun _ _ _ h => h) (Or.inl ⟨by rfl, ?_⟩) (by assumption) ?_
    rotate_left
    · (intro wS hS; have a0 := cell_below hS a0; have a1 := cell_below hS a1; have a2 := cell_below hS a2; have a3 := cell_below hS a3; have a4 := cell_below hS a4; have a5 := cell_below hS a5; have a6 := cell_below hS a6; have a7 := cell_below hS a7; have b0 := cell_below hS b0; have b1 := cell_below hS b1; have b2 := cell_below hS b2; have b3 := cell_below hS b3; have b4 := cell_below hS b4; have b5 := cell_below hS b5; have b6 := cell_below hS b6; have b7 := cell_below hS b7; go_simp <;> with_reducible rfl)
    try simp only [Act.put, List.setIfInBounds_toArray, List.set_cons_zero, List.set_cons_succ]
    refine wpAnyH_take (i := 3) (oi := { dst := some 31, op := Op.move (Operand.tmp 7), type := 4, pos := "law.go:28", after := #[], guard := none }) (v := ?_) rfl (by kernel_rfl) (by kernel_rfl) (by kernel_rfl) (fun _ _ _ h => h) (Or.inl ⟨by rfl, ?_⟩) (by assumption) ?_
    rotate_left
    · (intro wS hS; go_simp <;> with_reducible rfl)
    try simp only [Act.put, List.setIfInBounds_toArray, List.set_cons_zero, List.set_cons_succ]
    refine wpAnyH_ready (rs := [1]) (by kernel_rfl) (by simp) ?_
    refine AllReadyH.cons (o := { dst := some 29, op := Op.call { callee := Callee.value (Operand.func 64), args := #[Operand.tmp 28], argTypes := #[91] }, type := 54, pos := "law.go:28", after := #[{ on := 0, ground := Ground.data }], guard := none }) rfl (fun K hK => ?_) AllReadyH.nil
    go_simp
    refine (KC _ (hx.below hS)).out.mono ?_
    rintro e w101 ⟨rfl, hb⟩
    replace hS : (fun W => Below (w2).heap.size (w2) W) w101 := below_then hS hb (Below.size hS)
    refine hK.out _ _ hS (fun _ => ?_)
    clear hK K hb
    try simp only [Act.put, List.setIfInBounds_toArray, List.set_cons_zero, List.set_cons_succ]
    refine wpAnyH_take (i := 2) (oi := { dst := some 30, op := Op.binOp BinOp.eql 54 (Operand.tmp 29) (Operand.const (Value.int IntKind.i64 0)) 54, type := 4, pos := "law.go:28", after := #[{ on := 1, ground := Ground.data }], guard := none }) (v := ?_) rfl (by kernel_rfl) (by kernel_rfl) (by kernel_rfl) (fun _ _ _ h => h) (Or.inl ⟨by rfl, ?_⟩) (by assumption) ?_
    rotate_left
    · (intro wS hS; go_simp <;> with_reducible rfl)
    try simp only [Act.put, List.setIfInBounds_toArray, List.set_cons_zero, List.set_cons_succ]
    refine wpAnyH_take (i := 4) (oi := { dst := some 32, op := Op.binOp BinOp.neq 4 (Operand.tmp 30) (Operand.tmp 31) 4, type := 4, pos := "law.go:28", after := #[{ on := 2, ground := Ground.data }, { on := 3, ground := Ground.data }], guard := none }) (v := ?_) rfl (by kernel_rfl) (by kernel_rfl) (by kernel_rfl) (fun _ _ _ h => h) (Or.inl ⟨by rfl, ?_⟩) (by assumption) ?_
    rotate_left
    · (intro wS hS; go_simp <;> with_reducible rfl)
    try simp only [Act.put, List.setIfInBounds_toArray, List.set_cons_zero, List.set_cons_succ]
    refine wpAnyH_take (i := 5) (oi := { dst := some 33, op := Op.move (Operand.tmp 32), type := 4, pos := "law.go:28", after := #[{ on := 4, ground := Ground.data }, { on := 1, ground := Ground.chain }], guard := none }) (v := ?_) rfl (by kernel_rfl) (by kernel_rfl) (by kernel_rfl) (fun _ _ _ h => h) (Or.inl ⟨by rfl, ?_⟩) (by assumption) ?_
    rotate_left
    · (intro wS hS; go_simp <;> with_reducible rfl)
    try simp only [Act.put, List.setIfInBounds_toArray, List.set_cons_zero, List.set_cons_succ]
    refine wpAnyH_take (i := 6) (oi := { dst := some 34, op := Op.load 91 (Operand.tmp 2), type := 91, pos := "law.go:28", after := #[{ on := 5, ground := Ground.guard }], guard := some (5, false) }) (v := ?_) rfl (by kernel_rfl) (by kernel_rfl) (by kernel_rfl) (fun _ _ _ h => h) (Or.inl ⟨by rfl, ?_⟩) (by assumption) ?_
    rotate_left
    · (intro wS hS; have a0 := cell_below hS a0; have a1 := cell_below hS a1; have a2 := cell_below hS a2; have a3 := cell_below hS a3; have a4 := cell_below hS a4; have a5 := cell_below hS a5; have a6 := cell_below hS a6; have a7 := cell_below hS a7; have b0 := cell_below hS b0; have b1 := cell_below hS b1; have b2 := cell_below hS b2; have b3 := cell_below hS b3; have b4 := cell_below hS b4; have b5 := cell_below hS b5; have b6 := cell_below hS b6; have b7 := cell_below hS b7; go_simp <;> with_reducible rfl)
    try simp only [Act.put, List.setIfInBounds_toArray, List.set_cons_zero, List.set_cons_succ]
    refine wpAnyH_take (i := 7) (oi := { dst := some 35, op := Op.load 91 (Operand.tmp 3), type := 91, pos := "law.go:28", after := #[{ on := 5, ground := Ground.guard }], guard := some (5, false) }) (v := ?_) rfl (by kernel_rfl) (by kernel_rfl) (by kernel_rfl) (fun _ _ _ h => h) (Or.inl ⟨by rfl, ?_⟩) (by assumption) ?_
    rotate_left
    · (intro wS hS; have a0 := cell_below hS a0; have a1 := cell_below hS a1; have a2 := cell_below hS a2; have a3 := cell_below hS a3; have a4 := cell_below hS a4; have a5 := cell_below hS a5; have a6 := cell_below hS a6; have a7 := cell_below hS a7; have b0 := cell_below hS b0; have b1 := cell_below hS b1; have b2 := cell_below hS b2; have b3 := cell_below hS b3; have b4 := cell_below hS b4; have b5 := cell_below hS b5; have b6 := cell_below hS b6; have b7 := cell_below hS b7; go_simp <;> with_reducible rfl)
    try simp only [Act.put, List.setIfInBounds_toArray, List.set_cons_zero, List.set_cons_succ]
    refine wpAnyH_take (i := 9) (oi := { dst := some 37, op := Op.load 91 (Operand.tmp 2), type := 91, pos := "law.go:28", after := #[{ on := 5, ground := Ground.guard }], guard := some (5, false) }) (v := ?_) rfl (by kernel_rfl) (by kernel_rfl) (by kernel_rfl) (fun _ _ _ h => h) (Or.inl ⟨by rfl, ?_⟩) (by assumption) ?_
    rotate_left
    · (intro wS hS; have a0 := cell_below hS a0; have a1 := cell_below hS a1; have a2 := cell_below hS a2; have a3 := cell_below hS a3; have a4 := cell_below hS a4; have a5 := cell_below hS a5; have a6 := cell_below hS a6; have a7 := cell_below hS a7; have b0 := cell_below hS b0; have b1 := cell_below hS b1; have b2 := cell_below hS b2; have b3 := cell_below hS b3; have b4 := cell_below hS b4; have b5 := cell_below hS b5; have b6 := cell_below hS b6; have b7 := cell_below hS b7; go_simp <;> with_reducible rfl)
    try simp only [Act.put, List.setIfInBounds_toArray, List.set_cons_zero, List.set_cons_succ]
    refine wpAnyH_take (i := 10) (oi := { dst := some 38, op := Op.load 91 (Operand.tmp 3), type := 91, pos := "law.go:28", after := #[{ on := 5, ground := Ground.guard }], guard := some (5, false) }) (v := ?_) rfl (by kernel_rfl) (by kernel_rfl) (by kernel_rfl) (fun _ _ _ h => h) (Or.inl ⟨by rfl, ?_⟩) (by assumption) ?_
    rotate_left
    · (intro wS hS; have a0 := cell_below hS a0; have a1 := cell_below hS a1; have a2 := cell_below hS a2; have a3 := cell_below hS a3; have a4 := cell_below hS a4; have a5 := cell_below hS a5; have a6 := cell_below hS a6; have a7 := cell_below hS a7; have b0 := cell_below hS b0; have b1 := cell_below hS b1; have b2 := cell_below hS b2; have b3 := cell_below hS b3; have b4 := cell_below hS b4; have b5 := cell_below hS b5; have b6 := cell_below hS b6; have b7 := cell_below hS b7; go_simp <;> with_reducible rfl)
    try simp only [Act.put, List.setIfInBounds_toArray, List.set_cons_zero, List.set_cons_succ]
    refine wpAnyH_ready (rs := [8]) (by kernel_rfl) (by simp) ?_
    refine AllReadyH.cons (o := { dst := some 36, op := Op.call { callee := Callee.value (Operand.func 65), args := #[Operand.tmp 34, Operand.tmp 35], argTypes := #[91, 91] }, type := 4, pos := "law.go:28", after := #[{ on := 6, ground := Ground.data }, { on := 7, ground := Ground.data }, { on := 5, ground := Ground.chain }, { on := 5, ground := Ground.guard }], guard := some (5, false) }) rfl (fun K hK => ?_) AllReadyH.nil
    go_simp
    refine (KS _ (hx.below hS) (hy.below hS)).out.mono ?_
    rintro e w108 ⟨rfl, hb⟩
    replace hS : (fun W => Below (w2).heap.size (w2) W) w108 := below_then hS hb (Below.size hS)
    refine hK.out _ _ hS (fun _ => ?_)
    clear hK K hb
    try simp only [Act.put, List.setIfInBounds_toArray, List.set_cons_zero, List.set_cons_succ]
    refine wpAnyH_ready (rs := [11]) (by kernel_rfl) (by simp) ?_
    refine AllReadyH.cons (o := { dst := some 39, op := Op.call { callee := Callee.value (Operand.func 66), args := #[Operand.tmp 37, Operand.tmp 38], argTypes := #[91, 91] }, type := 4, pos := "law.go:28", after := #[{ on := 9, ground := Ground.data }, { on := 10, ground := Ground.data }, { on := 8, ground := Ground.chain }, { on := 5, ground := Ground.guard }], guard := some (5, false) }) rfl (fun K hK => ?_) AllReadyH.nil
    go_simp
    refine (KR _ (hx.below hS) (hy.below hS)).out.mono ?_
    rintro e w111 ⟨rfl, hb⟩
    replace hS : (fun W => Below (w2).heap.size (w2) W) w111 := below_then hS hb (Below.size hS)
    refine hK.out _ _ hS (fun _ => ?_)
    clear hK K hb
    try simp only [Act.put, List.setIfInBounds_toArray, List.set_cons_zero, List.set_cons_succ]
    refine wpAnyH_take (i := 12) (oi := { dst := some 40, op := Op.binOp BinOp.neq 4 (Operand.tmp 36) (Operand.tmp 39) 4, type := 4, pos := "law.go:28", after := #[{ on := 8, ground := Ground.data }, { on := 11, ground := Ground.data }, { on := 5, ground := Ground.guard }], guard := some (5, false) }) (v := ?_) rfl (by kernel_rfl) (by kernel_rfl) (by kernel_rfl) (fun _ _ _ h => h) (Or.inl ⟨by rfl, ?_⟩) (by assumption) ?_
    rotate_left
    · (intro wS hS; go_simp <;> with_reducible rfl)
    try simp only [Act.put, List.setIfInBounds_toArray, List.set_cons_zero, List.set_cons_succ]
    refine wpAnyH_take (i := 13) (oi := { dst := some 41, op := Op.pick (Operand.tmp 33) (Operand.const (Value.bool true)) (Operand.tmp 40), type := 4, pos := "law.go:28", after := #[{ on := 5, ground := Ground.data }, { on := 12, ground := Ground.data }], guard := none }) (v := ?_) rfl (by kernel_rfl) (by kernel_rfl) (by kernel_rfl) (fun _ _ _ h => h) (Or.inl ⟨by rfl, ?_⟩) (by assumption) ?_
    rotate_left
    · (intro wS hS; go_simp <;> with_reducible rfl)
    try simp only [Act.put, List.setIfInBounds_toArray, List.set_cons_zero, List.set_cons_succ]
    refine wpAnyH_done (by kernel_rfl) ?_ _
    replace hB := hB.trans (below_of hS hB.size)
    clear hS
    go_wp2_with (go_at_call 61; refine (awake26_any _).mono ?_; rintro e wf ⟨rfl, hb⟩)
    go_ret
    exact ⟨ret_bool (by simp), below_trans hB hb⟩
  | true =>
    obtain ⟨pr, le, lp, ps, rfl, rfl, rfl, rfl, may⟩ := mayM_nat hen hmay
    have KP := fun W h1 => Lib.hid (mput_any id fi pr le en pl lp ps A n c W h1 may)
    have KG := fun W => Lib.hid (mget_ok id fi pr le en pl lp ps W may)
    have KU := fun W h1 => Lib.hid (refput26_any id fi pr le en pl lp ps A n c W h1 may)
    have hbl := recB_length id fi pr le en (plN pl) ps
    have h14 := may.hn
    have KT := fun A2 n2 c2 W h1 h2 h3 h4 => Lib.hid (refsame26_any id fi pr le en pl lp (ints ps) id fi pr le en pl lp (ints ps) A2 A n2 c2 n c W h1 h2 h3 h4)
    rw [sameM_refl] at KT
    rw [hmay] at KM
    rw [hmay, if_pos rfl] at KC
    rw [ints_length] at hxl
    clear hmay hen may
    generalize recB id fi pr le en (plN pl) ps = rb at *
    have hrl : rb.length ≤ 228 := by omega
    clear hbl h14
    go_enter Try.func16, Try.ntmps16
    go_upto_region 3 with fail
    generalize (w.alloc (.cells (recCs id fi (pr : Int) (le : Int) en pl (lp : Int) A n c) 91)).alloc (.cells (recCs id2 fi2 pr2 le2 en2 pl2 lp2 B m k) 91) = w0 at *
    go_wp2_with fail
    refine (KP _ hx).out.mono ?_
    rintro e w1 ⟨rfl, hb⟩
    replace hB := below_trans hB hb
    replace hx := hx.below hb
    replace hy := hy.below hb
    replace a0 := cell_below hb a0
    replace a1 := cell_below hb a1
    replace a2 := cell_below hb a2
    replace a3 := cell_below hb a3
    replace a4 := cell_below hb a4
    replace a5 := cell_below hb a5
    replace a6 := cell_below hb a6
    replace a7 := cell_below hb a7
    replace b0 := cell_below hb b0
    replace b1 := cell_below hb b1
    replace b2 := cell_below hb b2
    replace b3 := cell_below hb b3
    replace b4 := cell_below hb b4
    replace b5 := cell_below hb b5
    replace b6 := cell_below hb b6
    replace b7 := cell_below hb b7
    clear hb KP
    go_wp2_with fail
    refine (KM _ hx).out.mono ?_
    rintro e w2 ⟨rfl, hb⟩
    replace hB := below_trans hB hb
    replace hx := hx.below hb
    replace hy := hy.below hb
    replace a0 := cell_below hb a0
    replace a1 := cell_below hb a1
    replace a2 := cell_below hb a2
    replace a3 := cell_below hb a3
    replace a4 := cell_below hb a4
    replace a5 := cell_below hb a5
    replace a6 := cell_below hb a6
    replace a7 := cell_below hb a7
    replace b0 := cell_below hb b0
    replace b1 := cell_below hb b1
    replace b2 := cell_below hb b2
    replace b3 := cell_below hb b3
    replace b4 := cell_below hb b4
    replace b5 := cell_below hb b5
    replace b6 := cell_below hb b6
    replace b7 := cell_below hb b7
    clear hb
    go_wp2_with fail
    refine wp_region_held (S := fun W => Below (w2).heap.size (w2) W) (by kernel_rfl) ?_
    change wpAnyH _ _ _ _ _ _ _ _ (w2).drew
    have hS : (fun W => Below (w2).heap.size (w2) W) (w2).drew := (Below.refl _ _).drew
    refine wpAnyH_take (i := 0) (oi := { dst := some 28, op := Op.load 91 (Operand.tmp 2), type := 91, pos := "law.go:28", after := #[], guard := none }) (v := ?_) rfl (by kernel_rfl) (by kernel_rfl) (by kernel_rfl) (fun _ _ _ h => h) (Or.inl ⟨by rfl, ?_⟩) (by assumption) ?_
    rotate_left
    · (intro wS hS; have a0 := cell_below hS a0; have a1 := cell_below hS a1; have a2 := cell_below hS a2; have a3 := cell_below hS a3; have a4 := cell_below hS a4; have a5 := cell_below hS a5; have a6 := cell_below hS a6; have a7 := cell_below hS a7; have b0 := cell_below hS b0; have b1 := cell_below hS b1; have b2 := cell_below hS b2; have b3 := cell_below hS b3; have b4 := cell_below hS b4; have b5 := cell_below hS b5; have b6 := cell_below hS b6; have b7 := cell_below hS b7; go_simp <;> with_reducible rfl)
    try simp only [Act.put, List.setIfInBounds_toArray, List.set_cons_zero, List.set_cons_succ]
    refine wpAnyH_take (i := 3) (oi := { dst := some 31, op := Op.move (Operand.tmp 7), type := 4, pos := "law.go:28", after := #[], guard := none }) (v := ?_) rfl (by kernel_rfl) (by kernel_rfl) (by kernel_rfl) (fun _ _ _ h => h) (Or.inl ⟨by rfl, ?_⟩) (by assumption) ?_
    rotate_left
    · (intro wS hS; go_simp <;> with_reducible rfl)
    try simp only [Act.put, List.setIfInBounds_toArray, List.set_cons_zero, List.set_cons_succ]
    refine wpAnyH_ready (rs := [1]) (by kernel_rfl) (by simp) ?_
    refine AllReadyH.cons (o := { dst := some 29, op := Op.call { callee := Callee.value (Operand.func 64), args := #[Operand.tmp 28], argTypes := #[91] }, type := 54, pos := "law.go:28", after := #[{ on := 0, ground := Ground.data }], guard := none }) rfl (fun K hK => ?_) AllReadyH.nil
    go_simp
    refine (KC _ (hx.below hS)).out.mono ?_
    rintro e w101 ⟨rfl, hb⟩
    replace hS : (fun W => Below (w2).heap.size (w2) W) w101 := below_then hS hb (Below.size hS)
    refine hK.out _ _ hS (fun _ => ?_)
    clear hK K hb
    try simp only [Act.put, List.setIfInBounds_toArray, List.set_cons_zero, List.set_cons_succ]
    refine wpAnyH_take (i := 2) (oi := { dst := some 30, op := Op.binOp BinOp.eql 54 (Operand.tmp 29) (Operand.const (Value.int IntKind.i64 0)) 54, type := 4, pos := "law.go:28", after := #[{ on := 1, ground := Ground.data }], guard := none }) (v := ?_) rfl (by kernel_rfl) (by kernel_rfl) (by kernel_rfl) (fun _ _ _ h => h) (Or.inl ⟨by rfl, ?_⟩) (by assumption) ?_
    rotate_left
    · (intro wS hS; go_simp <;> with_reducible rfl)
    try simp only [Act.put, List.setIfInBounds_toArray, List.set_cons_zero, List.set_cons_succ]
    refine wpAnyH_take (i := 4) (oi := { dst := some 32, op := Op.binOp BinOp.neq 4 (Operand.tmp 30) (Operand.tmp 31) 4, type := 4, pos := "law.go:28", after := #[{ on := 2, ground := Ground.data }, { on := 3, ground := Ground.data }], guard := none }) (v := ?_) rfl (by kernel_rfl) (by kernel_rfl) (by kernel_rfl) (fun _ _ _ h => h) (Or.inl ⟨by rfl, ?_⟩) (by assumption) ?_
    rotate_left
    · (intro wS hS; go_simp <;> with_reducible rfl)
    try simp only [Act.put, List.setIfInBounds_toArray, List.set_cons_zero, List.set_cons_succ]
    refine wpAnyH_take (i := 5) (oi := { dst := some 33, op := Op.move (Operand.tmp 32), type := 4, pos := "law.go:28", after := #[{ on := 4, ground := Ground.data }, { on := 1, ground := Ground.chain }], guard := none }) (v := ?_) rfl (by kernel_rfl) (by kernel_rfl) (by kernel_rfl) (fun _ _ _ h => h) (Or.inl ⟨by rfl, ?_⟩) (by assumption) ?_
    rotate_left
    · (intro wS hS; go_simp <;> with_reducible rfl)
    try simp only [Act.put, List.setIfInBounds_toArray, List.set_cons_zero, List.set_cons_succ]
    refine wpAnyH_take (i := 6) (oi := { dst := some 34, op := Op.load 91 (Operand.tmp 2), type := 91, pos := "law.go:28", after := #[{ on := 5, ground := Ground.guard }], guard := some (5, false) }) (v := ?_) rfl (by kernel_rfl) (by kernel_rfl) (by kernel_rfl) (fun _ _ _ h => h) (Or.inl ⟨by rfl, ?_⟩) (by assumption) ?_
    rotate_left
    · (intro wS hS; have a0 := cell_below hS a0; have a1 := cell_below hS a1; have a2 := cell_below hS a2; have a3 := cell_below hS a3; have a4 := cell_below hS a4; have a5 := cell_below hS a5; have a6 := cell_below hS a6; have a7 := cell_below hS a7; have b0 := cell_below hS b0; have b1 := cell_below hS b1; have b2 := cell_below hS b2; have b3 := cell_below hS b3; have b4 := cell_below hS b4; have b5 := cell_below hS b5; have b6 := cell_below hS b6; have b7 := cell_below hS b7; go_simp <;> with_reducible rfl)
    try simp only [Act.put, List.setIfInBounds_toArray, List.set_cons_zero, List.set_cons_succ]
    refine wpAnyH_take (i := 7) (oi := { dst := some 35, op := Op.load 91 (Operand.tmp 3), type := 91, pos := "law.go:28", after := #[{ on := 5, ground := Ground.guard }], guard := some (5, false) }) (v := ?_) rfl (by kernel_rfl) (by kernel_rfl) (by kernel_rfl) (fun _ _ _ h => h) (Or.inl ⟨by rfl, ?_⟩) (by assumption) ?_
    rotate_left
    · (intro wS hS; have a0 := cell_below hS a0; have a1 := cell_below hS a1; have a2 := cell_below hS a2; have a3 := cell_below hS a3; have a4 := cell_below hS a4; have a5 := cell_below hS a5; have a6 := cell_below hS a6; have a7 := cell_below hS a7; have b0 := cell_below hS b0; have b1 := cell_below hS b1; have b2 := cell_below hS b2; have b3 := cell_below hS b3; have b4 := cell_below hS b4; have b5 := cell_below hS b5; have b6 := cell_below hS b6; have b7 := cell_below hS b7; go_simp <;> with_reducible rfl)
    try simp only [Act.put, List.setIfInBounds_toArray, List.set_cons_zero, List.set_cons_succ]
    refine wpAnyH_take (i := 9) (oi := { dst := some 37, op := Op.load 91 (Operand.tmp 2), type := 91, pos := "law.go:28", after := #[{ on := 5, ground := Ground.guard }], guard := some (5, false) }) (v := ?_) rfl (by kernel_rfl) (by kernel_rfl) (by kernel_rfl) (fun _ _ _ h => h) (Or.inl ⟨by rfl, ?_⟩) (by assumption) ?_
    rotate_left
    · (intro wS hS; have a0 := cell_below hS a0; have a1 := cell_below hS a1; have a2 := cell_below hS a2; have a3 := cell_below hS a3; have a4 := cell_below hS a4; have a5 := cell_below hS a5; have a6 := cell_below hS a6; have a7 := cell_below hS a7; have b0 := cell_below hS b0; have b1 := cell_below hS b1; have b2 := cell_below hS b2; have b3 := cell_below hS b3; have b4 := cell_below hS b4; have b5 := cell_below hS b5; have b6 := cell_below hS b6; have b7 := cell_below hS b7; go_simp <;> with_reducible rfl)
    try simp only [Act.put, List.setIfInBounds_toArray, List.set_cons_zero, List.set_cons_succ]
    refine wpAnyH_take (i := 10) (oi := { dst := some 38, op := Op.load 91 (Operand.tmp 3), type := 91, pos := "law.go:28", after := #[{ on := 5, ground := Ground.guard }], guard := some (5, false) }) (v := ?_) rfl (by kernel_rfl) (by kernel_rfl) (by kernel_rfl) (fun _ _ _ h => h) (Or.inl ⟨by rfl, ?_⟩) (by assumption) ?_
    rotate_left
    · (intro wS hS; have a0 := cell_below hS a0; have a1 := cell_below hS a1; have a2 := cell_below hS a2; have a3 := cell_below hS a3; have a4 := cell_below hS a4; have a5 := cell_below hS a5; have a6 := cell_below hS a6; have a7 := cell_below hS a7; have b0 := cell_below hS b0; have b1 := cell_below hS b1; have b2 := cell_below hS b2; have b3 := cell_below hS b3; have b4 := cell_below hS b4; have b5 := cell_below hS b5; have b6 := cell_below hS b6; have b7 := cell_below hS b7; go_simp <;> with_reducible rfl)
    try simp only [Act.put, List.setIfInBounds_toArray, List.set_cons_zero, List.set_cons_succ]
    refine wpAnyH_ready (rs := [8]) (by kernel_rfl) (by simp) ?_
    refine AllReadyH.cons (o := { dst := some 36, op := Op.call { callee := Callee.value (Operand.func 65), args := #[Operand.tmp 34, Operand.tmp 35], argTypes := #[91, 91] }, type := 4, pos := "law.go:28", after := #[{ on := 6, ground := Ground.data }, { on := 7, ground := Ground.data }, { on := 5, ground := Ground.chain }, { on := 5, ground := Ground.guard }], guard := some (5, false) }) rfl (fun K hK => ?_) AllReadyH.nil
    go_simp
    refine (KS _ (hx.below hS) (hy.below hS)).out.mono ?_
    rintro e w108 ⟨rfl, hb⟩
    replace hS : (fun W => Below (w2).heap.size (w2) W) w108 := below_then hS hb (Below.size hS)
    refine hK.out _ _ hS (fun _ => ?_)
    clear hK K hb
    try simp only [Act.put, List.setIfInBounds_toArray, List.set_cons_zero, List.set_cons_succ]
    refine wpAnyH_ready (rs := [11]) (by kernel_rfl) (by simp) ?_
    refine AllReadyH.cons (o := { dst := some 39, op := Op.call { callee := Callee.value (Operand.func 66), args := #[Operand.tmp 37, Operand.tmp 38], argTypes := #[91, 91] }, type := 4, pos := "law.go:28", after := #[{ on := 9, ground := Ground.data }, { on := 10, ground := Ground.data }, { on := 8, ground := Ground.chain }, { on := 5, ground := Ground.guard }], guard := some (5, false) }) rfl (fun K hK => ?_) AllReadyH.nil
    go_simp
    refine (KR _ (hx.below hS) (hy.below hS)).out.mono ?_
    rintro e w111 ⟨rfl, hb⟩
    replace hS : (fun W => Below (w2).heap.size (w2) W) w111 := below_then hS hb (Below.size hS)
    refine hK.out _ _ hS (fun _ => ?_)
    clear hK K hb
    try simp only [Act.put, List.setIfInBounds_toArray, List.set_cons_zero, List.set_cons_succ]
    refine wpAnyH_take (i := 12) (oi := { dst := some 40, op := Op.binOp BinOp.neq 4 (Operand.tmp 36) (Operand.tmp 39) 4, type := 4, pos := "law.go:28", after := #[{ on := 8, ground := Ground.data }, { on := 11, ground := Ground.data }, { on := 5, ground := Ground.guard }], guard := some (5, false) }) (v := ?_) rfl (by kernel_rfl) (by kernel_rfl) (by kernel_rfl) (fun _ _ _ h => h) (Or.inl ⟨by rfl, ?_⟩) (by assumption) ?_
    rotate_left
    · (intro wS hS; go_simp <;> with_reducible rfl)
    try simp only [Act.put, List.setIfInBounds_toArray, List.set_cons_zero, List.set_cons_succ]
    refine wpAnyH_take (i := 13) (oi := { dst := some 41, op := Op.pick (Operand.tmp 33) (Operand.const (Value.bool true)) (Operand.tmp 40), type := 4, pos := "law.go:28", after := #[{ on := 5, ground := Ground.data }, { on := 12, ground := Ground.data }], guard := none }) (v := ?_) rfl (by kernel_rfl) (by kernel_rfl) (by kernel_rfl) (fun _ _ _ h => h) (Or.inl ⟨by rfl, ?_⟩) (by assumption) ?_
    rotate_left
    · (intro wS hS; go_simp <;> with_reducible rfl)
    try simp only [Act.put, List.setIfInBounds_toArray, List.set_cons_zero, List.set_cons_succ]
    refine wpAnyH_done (by kernel_rfl) ?_ _
    replace hB := hB.trans (below_of hS hB.size)
    replace hx := hx.below hS
    replace a0 := cell_below hS a0
    replace a1 := cell_below hS a1
    replace a2 := cell_below hS a2
    replace a3 := cell_below hS a3
    replace a4 := cell_below hS a4
    replace a5 := cell_below hS a5
    replace a6 := cell_below hS a6
    replace a7 := cell_below hS a7
    clear hS KC KM KS KR hy
    go_wp2_with fail
    refine (KG _).out.mono ?_
    rintro e w4 ⟨A4, n4, c4, rfl, hr4, hb⟩
    have hn4 := hr4.ilen
    rw [ints_length] at hn4
    have hn46 : n4 ≤ 1000000 := by omega
    replace hB := below_trans hB hb
    replace hx := hx.below hb
    replace a0 := cell_below hb a0
    replace a1 := cell_below hb a1
    replace a2 := cell_below hb a2
    replace a3 := cell_below hb a3
    replace a4 := cell_below hb a4
    replace a5 := cell_below hb a5
    replace a6 := cell_below hb a6
    replace a7 := cell_below hb a7
    clear hb KG
    obtain ⟨hb, d0, d1, d2, d3, d4, d5, d6, d7⟩ := rec_cells w4 id fi (pr : Int) (le : Int) en pl (lp : Int) A4 n4 c4 91
    replace hB := below_trans hB hb
    replace hx := hx.below hb
    replace hr4 := hr4.below hb
    replace a0 := cell_below hb a0
    replace a1 := cell_below hb a1
    replace a2 := cell_below hb a2
    replace a3 := cell_below hb a3
    replace a4 := cell_below hb a4
    replace a5 := cell_below hb a5
    replace a6 := cell_below hb a6
    replace a7 := cell_below hb a7
    go_upto_region 10 with fail
    generalize w4.alloc (.cells (recCs id fi (pr : Int) (le : Int) en pl (lp : Int) A4 n4 c4) 91) = w5 at *
    clear hb
    go_wp2_with fail
    refine (awake26_any _).mono ?_
    rintro e w6 ⟨rfl, hb⟩
    replace hB := below_trans hB hb
    replace hx := hx.below hb
    replace hr4 := hr4.below hb
    replace a0 := cell_below hb a0
    replace a1 := cell_below hb a1
    replace a2 := cell_below hb a2
    replace a3 := cell_below hb a3
    replace a4 := cell_below hb a4
    replace a5 := cell_below hb a5
    replace a6 := cell_below hb a6
    replace a7 := cell_below hb a7
    replace d0 := cell_below hb d0
    replace d1 := cell_below hb d1
    replace d2 := cell_below hb d2
    replace d3 := cell_below hb d3
    replace d4 := cell_below hb d4
    replace d5 := cell_below hb d5
    replace d6 := cell_below hb d6
    replace d7 := cell_below hb d7
    clear hb
    go_wp2_with fail
    refine (KU _ hx).out.mono ?_
    rintro e w7 ⟨rfl, hb⟩
    replace hB := below_trans hB hb
    replace hx := hx.below hb
    replace hr4 := hr4.below hb
    replace a0 := cell_below hb a0
    replace a1 := cell_below hb a1
    replace a2 := cell_below hb a2
    replace a3 := cell_below hb a3
    replace a4 := cell_below hb a4
    replace a5 := cell_below hb a5
    replace a6 := cell_below hb a6
    replace a7 := cell_below hb a7
    replace d0 := cell_below hb d0
    replace d1 := cell_below hb d1
    replace d2 := cell_below hb d2
    replace d3 := cell_below hb d3
    replace d4 := cell_below hb d4
    replace d5 := cell_below hb d5
    replace d6 := cell_below hb d6
    replace d7 := cell_below hb d7
    clear hb KU
    go_wp2_with fail
    refine (KT _ _ _ _ hr4 hx hn46 (by omega)).out.mono ?_
    rintro e w8 ⟨rfl, hb⟩
    go_wp2_with fail
    go_ret
    exact ⟨ret_bool (by simp), below_trans hB hb⟩
end Go.Proofs.Ythkabhejfkekjaa
