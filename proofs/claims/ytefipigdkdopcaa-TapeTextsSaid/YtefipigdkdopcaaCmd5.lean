/- Contract of cmd.Parse. No condition but the length's bound. -/
import Derived.Test.YtefipigdkdopcaaCmd4
import Derived.Deep.DeepCutAuto
import Derived.Deep.RegionHeld
namespace Go.Proofs.Ytefipigdkdopcaa
open Go.RowKit

set_option maxRecDepth 100000 in
set_option maxHeartbeats 2000000 in
theorem cparse_any (s : List UInt8) (w : World) (hN : s.length ≤ 100000) : Calls Try.prog 18 #[.string ⟨s.toArray⟩] w fun e w' => e = .returned (.tuple #[cmdV ((parseC s).k : Nat) (parseC s).a (parseC s).b, .int .i64 ((parseC s).e : Nat)]) ∧ Below w.heap.size w w' := by
  have hB := (one_cells w #[.int .i64 0, .int .u64 0, .int .u64 0] 24).1
  have hR := alloc_new w (.cells #[.int .i64 0, .int .u64 0, .int .u64 0] 24 (0, 0))
  have KW := fun W => Lib.hid (words_rd s W hN)
  have HP : Hid (parseC s = match wordsL s with
    | [] => ⟨0, 0, 0, 17⟩
    | h :: r => if kindK h = 0 ∨ r.length ≠ manyK (kindK h : Nat) then ⟨0, 0, 0, 17⟩
      else if textK (kindK h : Nat) (numAt (h :: r) 1) (numAt (h :: r) 2) = s then ⟨kindK h, numAt (h :: r) 1, numAt (h :: r) 2, 0⟩ else ⟨0, 0, 0, 6⟩) := rfl
  have hlen : (wordsL s).length ≤ s.length + 1 := split2_length 32 9 true s
  have hall : ∀ p ∈ wordsL s, p.length ≤ s.length := fun p hp => (split2_free 32 9 true s p hp).2.2
  generalize wordsL s = l at *
  go_enter Try.func18, Try.ntmps18
  go_upto_region 1 with fail
  generalize w.alloc (.cells #[.int .i64 0, .int .u64 0, .int .u64 0] 24) = w1 at *
  go_wp2_with fail
  refine (KW _).out.mono ?_
  rintro e w2 ⟨A, c, rfl, hr, hb⟩
  replace hR := heap_below hb hR
  replace hB := below_trans hB hb
  have hRW := heap_lt hR
  clear hb KW
  have hB3 := (one_cells w2 #[.slice A l.length c] 91).1
  have hW := alloc_new w2 (.cells #[.slice A l.length c] 91 (0, 0))
  replace hR := heap_below hB3 hR
  replace hr := hr.below hB3
  replace hB := below_trans hB hB3
  have hlt := heap_lt hW
  clear hB3
  go_upto_region 2 with fail
  generalize w2.alloc (.cells #[.slice A l.length c] 91) = w3 at *
  obtain ⟨gW, hgW⟩ : ∃ g, g = w2.heap.size := ⟨_, rfl⟩
  rw [← hgW] at hW hlt hRW ⊢
  clear hgW
  obtain ⟨⟨z0, z1, z2⟩, f0, f1, f2⟩ := three_cells' hR
  have cW : w3.cell? ⟨gW, 0, none⟩ = some (.slice A l.length c) := cell_heap hW
  cases l with
  | nil =>
    go_wp2_with fail
    have hh9 := three_heap (hR) (.int .i64 0) (.int .u64 0) (.int .u64 0)
    have hB9 := below_gbw (three_gb w3 w.heap.size (.int .i64 0) (.int .u64 0) (.int .u64 0)) (hB) (Nat.le_refl _)
    obtain ⟨⟨r0, r1, r2⟩, -⟩ := three_cells' hh9
    refine bodyPost_ret (v := .tuple #[cmdV 0 0 0, .int .i64 17]) ?_ rfl ⟨by rw [HP.out]; rfl, hB9⟩
    simp only [three] at r0 r1 r2
    simp [results, Try.results18, go_sem, r0, r1, r2]
  | cons h r =>
    dsimp only at HP
    obtain ⟨ad, rfl, hc⟩ := hr.sat 0 (by simp)
    have hc0 : w3.cell? ad = some (.string ⟨h.toArray⟩) := by
      have e : ad.add 0 = ad := by unfold Addr.add; simp
      rw [e] at hc
      exact hc
    have KK := fun W => Lib.hid (ckind_any h W)
    have hkl := kindK_le h
    have hln : (h :: r).length = r.length + 1 := rfl
    have hrl : r.length ≤ 100000 := by rw [List.length_cons] at hlen; omega
    rw [hln] at cW hW hr ⊢
    clear hln hc
    have HL := Lib.hid hall
    have HLn := Lib.hid hlen
    clear hall hlen
    go_upto_region 4 with fail
    go_wp2_with (refine (KK _).out.mono ?_; rintro e w' ⟨rfl, rfl⟩)
    have hB4 := (one_cells w3 #[.int .i64 (kindK h : Nat), .int .u64 0, .int .u64 0] 24).1
    have hC := alloc_new w3 (.cells #[.int .i64 (kindK h : Nat), .int .u64 0, .int .u64 0] 24 (0, 0))
    replace hR := heap_below hB4 hR
    replace hW := heap_below hB4 hW
    replace hr := hr.below hB4
    replace hB := below_trans hB hB4
    have hltC := heap_lt hC
    clear hB4 z0 z1 z2 f0 f1 f2 cW hc0 KK
    go_upto_region 5 with fail
    generalize w3.alloc (.cells #[.int .i64 (kindK h : Nat), .int .u64 0, .int .u64 0] 24) = w4 at *
    obtain ⟨gC, hgC⟩ : ∃ g, g = w3.heap.size := ⟨_, rfl⟩
    rw [← hgC] at hC hltC hlt ⊢
    clear hgC
    have cW : w4.cell? ⟨gW, 0, none⟩ = some (.slice (some ad) (r.length + 1) c) := cell_heap hW
    have cC : w4.cell? ⟨gC, 0, none⟩ = some (.int .i64 (kindK h : Nat)) := cell_heap hC
    have HCP := Lib.hid (check_parsed h r)
    have KM := fun W => Lib.hid ((cmany_any (kindK h : Nat) W).mono (fun e w' q => (show e = .returned (.int .i64 (manyK (kindK h : Nat) : Nat)) ∧ Below W.heap.size W w' from ⟨q.1, q.2 ▸ Below.refl _ _⟩)))
    by_cases hk0 : kindK h = 0
    · rw [if_pos (.inl hk0)] at HP
      rw [hk0] at cC hC
      go_cut [31] (fun v31 wx => v31 = .bool true ∧ Below w4.heap.size w4 wx)
      case first =>
        rw [hk0]
        clear KM HP HCP HL HLn
        refine wp_region_held (S := fun W => Below (w4).heap.size (w4) W) (by kernel_rfl) ?_
        change wpAnyH _ _ _ _ _ _ _ _ (w4).drew
        have hS : (fun W => Below (w4).heap.size (w4) W) (w4).drew := (Below.refl _ _).drew
        refine wpAnyH_take (i := 0) (oi := { dst := some 20, op := Op.fieldAddr 24 (Operand.tmp 5) 0, type := 0, pos := "cmd.go:104", after := #[], guard := none }) (v := ?_) rfl (by kernel_rfl) (by kernel_rfl) (by kernel_rfl) (fun _ _ _ h => h) (Or.inl ⟨by rfl, ?_⟩) (by assumption) ?_
        rotate_left
        · (intro wS hS; go_simp <;> with_reducible rfl)
        try simp only [Act.put, List.setIfInBounds_toArray, List.set_cons_zero, List.set_cons_succ]
        refine wpAnyH_take (i := 1) (oi := { dst := some 21, op := Op.load 3 (Operand.tmp 20), type := 3, pos := "cmd.go:104", after := #[{ on := 0, ground := Ground.data }], guard := none }) (v := ?_) rfl (by kernel_rfl) (by kernel_rfl) (by kernel_rfl) (fun _ _ _ h => h) (Or.inl ⟨by rfl, ?_⟩) (by assumption) ?_
        rotate_left
        · (intro wS hS; have cW := cell_below hS cW; have cC := cell_below hS cC; go_simp <;> with_reducible rfl)
        try simp only [Act.put, List.setIfInBounds_toArray, List.set_cons_zero, List.set_cons_succ]
        refine wpAnyH_take (i := 2) (oi := { dst := some 22, op := Op.binOp BinOp.eql 3 (Operand.tmp 21) (Operand.const (Value.int IntKind.i64 0)) 3, type := 4, pos := "cmd.go:104", after := #[{ on := 1, ground := Ground.data }], guard := none }) (v := ?_) rfl (by kernel_rfl) (by kernel_rfl) (by kernel_rfl) (fun _ _ _ h => h) (Or.inl ⟨by rfl, ?_⟩) (by assumption) ?_
        rotate_left
        · (intro wS hS; go_simp <;> with_reducible rfl)
        try simp only [Act.put, List.setIfInBounds_toArray, List.set_cons_zero, List.set_cons_succ]
        refine wpAnyH_take (i := 3) (oi := { dst := some 23, op := Op.move (Operand.tmp 22), type := 4, pos := "cmd.go:104", after := #[{ on := 2, ground := Ground.data }], guard := none }) (v := ?_) rfl (by kernel_rfl) (by kernel_rfl) (by kernel_rfl) (fun _ _ _ h => h) (Or.inl ⟨by rfl, ?_⟩) (by assumption) ?_
        rotate_left
        · (intro wS hS; go_simp <;> with_reducible rfl)
        try simp only [Act.put, List.setIfInBounds_toArray, List.set_cons_zero, List.set_cons_succ]
        refine wpAnyH_take (i := 4) (oi := { dst := some 24, op := Op.load 91 (Operand.tmp 4), type := 91, pos := "cmd.go:104", after := #[{ on := 3, ground := Ground.guard }], guard := some (3, false) }) (v := undef) rfl (by kernel_rfl) (by kernel_rfl) (by kernel_rfl) (fun _ _ _ h => h) (Or.inr ⟨by rfl, rfl⟩) (by assumption) ?_
        try simp only [Act.put, List.setIfInBounds_toArray, List.set_cons_zero, List.set_cons_succ]
        refine wpAnyH_take (i := 5) (oi := { dst := some 25, op := Op.call { callee := Callee.builtin Builtin.len, args := #[Operand.tmp 24], argTypes := #[91] }, type := 3, pos := "cmd.go:104", after := #[{ on := 4, ground := Ground.data }, { on := 3, ground := Ground.guard }], guard := some (3, false) }) (v := undef) rfl (by kernel_rfl) (by kernel_rfl) (by kernel_rfl) (fun _ _ _ h => h) (Or.inr ⟨by rfl, rfl⟩) (by assumption) ?_
        try simp only [Act.put, List.setIfInBounds_toArray, List.set_cons_zero, List.set_cons_succ]
        refine wpAnyH_take (i := 6) (oi := { dst := some 26, op := Op.fieldAddr 24 (Operand.tmp 5) 0, type := 0, pos := "cmd.go:104", after := #[{ on := 3, ground := Ground.guard }], guard := some (3, false) }) (v := undef) rfl (by kernel_rfl) (by kernel_rfl) (by kernel_rfl) (fun _ _ _ h => h) (Or.inr ⟨by rfl, rfl⟩) (by assumption) ?_
        try simp only [Act.put, List.setIfInBounds_toArray, List.set_cons_zero, List.set_cons_succ]
        refine wpAnyH_take (i := 7) (oi := { dst := some 27, op := Op.load 3 (Operand.tmp 26), type := 3, pos := "cmd.go:104", after := #[{ on := 6, ground := Ground.data }, { on := 3, ground := Ground.guard }], guard := some (3, false) }) (v := undef) rfl (by kernel_rfl) (by kernel_rfl) (by kernel_rfl) (fun _ _ _ h => h) (Or.inr ⟨by rfl, rfl⟩) (by assumption) ?_
        try simp only [Act.put, List.setIfInBounds_toArray, List.set_cons_zero, List.set_cons_succ]
        refine wpAnyH_take (i := 8) (oi := { dst := some 28, op := Op.call { callee := Callee.value (Operand.func 52), args := #[Operand.tmp 27], argTypes := #[3] }, type := 3, pos := "cmd.go:104", after := #[{ on := 7, ground := Ground.data }, { on := 3, ground := Ground.chain }, { on := 3, ground := Ground.guard }], guard := some (3, false) }) (v := undef) rfl (by kernel_rfl) (by kernel_rfl) (by kernel_rfl) (fun _ _ _ h => h) (Or.inr ⟨by rfl, rfl⟩) (by assumption) ?_
        try simp only [Act.put, List.setIfInBounds_toArray, List.set_cons_zero, List.set_cons_succ]
        refine wpAnyH_take (i := 9) (oi := { dst := some 29, op := Op.binOp BinOp.add 3 (Operand.const (Value.int IntKind.i64 1)) (Operand.tmp 28) 3, type := 3, pos := "cmd.go:104", after := #[{ on := 8, ground := Ground.data }, { on := 3, ground := Ground.guard }], guard := some (3, false) }) (v := undef) rfl (by kernel_rfl) (by kernel_rfl) (by kernel_rfl) (fun _ _ _ h => h) (Or.inr ⟨by rfl, rfl⟩) (by assumption) ?_
        try simp only [Act.put, List.setIfInBounds_toArray, List.set_cons_zero, List.set_cons_succ]
        refine wpAnyH_take (i := 10) (oi := { dst := some 30, op := Op.binOp BinOp.neq 3 (Operand.tmp 25) (Operand.tmp 29) 3, type := 4, pos := "cmd.go:104", after := #[{ on := 5, ground := Ground.data }, { on := 9, ground := Ground.data }, { on := 3, ground := Ground.guard }], guard := some (3, false) }) (v := undef) rfl (by kernel_rfl) (by kernel_rfl) (by kernel_rfl) (fun _ _ _ h => h) (Or.inr ⟨by rfl, rfl⟩) (by assumption) ?_
        try simp only [Act.put, List.setIfInBounds_toArray, List.set_cons_zero, List.set_cons_succ]
        refine wpAnyH_take (i := 11) (oi := { dst := some 31, op := Op.pick (Operand.tmp 23) (Operand.const (Value.bool true)) (Operand.tmp 30), type := 4, pos := "cmd.go:104", after := #[{ on := 3, ground := Ground.data }, { on := 10, ground := Ground.data }], guard := none }) (v := ?_) rfl (by kernel_rfl) (by kernel_rfl) (by kernel_rfl) (fun _ _ _ h => h) (Or.inl ⟨by rfl, ?_⟩) (by assumption) ?_
        rotate_left
        · (intro wS hS; go_simp <;> with_reducible rfl)
        try simp only [Act.put, List.setIfInBounds_toArray, List.set_cons_zero, List.set_cons_succ]
        refine wpAnyH_done (by kernel_rfl) ?_ _
        go_wp2_with fail
        go_meet
        exact ⟨rfl, hS⟩
      case rest =>
        obtain ⟨rfl, hS⟩ := hcut
        replace hR := heap_below hS hR
        replace hB := below_trans hB hS
        obtain ⟨⟨z0, z1, z2⟩, f0, f1, f2⟩ := three_cells' hR
        clear hS cW cC hC hW hr
        go_wp2_with fail
        have hh9 := three_heap (hR) (.int .i64 0) (.int .u64 0) (.int .u64 0)
        have hB9 := below_gbw (three_gb wc w.heap.size (.int .i64 0) (.int .u64 0) (.int .u64 0)) (hB) (Nat.le_refl _)
        obtain ⟨⟨r0, r1, r2⟩, -⟩ := three_cells' hh9
        refine bodyPost_ret (v := .tuple #[cmdV 0 0 0, .int .i64 17]) ?_ rfl ⟨by rw [HP.out]; rfl, hB9⟩
        simp only [three] at r0 r1 r2
        simp [results, Try.results18, go_sem, r0, r1, r2]
    · have hk1 : ((kindK h : Int) == 0) = false := by rw [beq_eq_false_iff_ne]; omega
      have hm2 := manyK_le (kindK h : Nat)
      have hKM := Lib.hid hk0
      clear hk0
      by_cases hlm : r.length = manyK (kindK h : Nat)
      · have HC0 := Lib.hid (HCP.out hKM.out hlm)
        rw [if_neg (fun e => e.elim hKM.out (fun e => e hlm))] at HP
        go_cut [31] (fun v31 wx => v31 = .bool false ∧ Below w4.heap.size w4 wx)
        case first =>
          clear HP HCP HL HLn HC0 hKM
          rw [← hlm] at KM
          have hwr : IntKind.i64.wrap (1 + (r.length : Int)) = 1 + (r.length : Int) := by rw [IntKind.wrap_i64]; omega
          have hE : ((r.length : Int) + 1 != 1 + (r.length : Int)) = false := by rw [bne_eq_false_iff_eq]; omega
          clear hlm
          generalize r.length = n at *
          generalize kindK h = kk at *
          refine wp_region_held (S := fun W => Below (w4).heap.size (w4) W) (by kernel_rfl) ?_
          change wpAnyH _ _ _ _ _ _ _ _ (w4).drew
          have hS : (fun W => Below (w4).heap.size (w4) W) (w4).drew := (Below.refl _ _).drew
          refine wpAnyH_take (i := 0) (oi := { dst := some 20, op := Op.fieldAddr 24 (Operand.tmp 5) 0, type := 0, pos := "cmd.go:104", after := #[], guard := none }) (v := ?_) rfl (by kernel_rfl) (by kernel_rfl) (by kernel_rfl) (fun _ _ _ h => h) (Or.inl ⟨by rfl, ?_⟩) (by assumption) ?_
          rotate_left
          · (intro wS hS; go_simp <;> with_reducible rfl)
          try simp only [Act.put, List.setIfInBounds_toArray, List.set_cons_zero, List.set_cons_succ]
          refine wpAnyH_take (i := 1) (oi := { dst := some 21, op := Op.load 3 (Operand.tmp 20), type := 3, pos := "cmd.go:104", after := #[{ on := 0, ground := Ground.data }], guard := none }) (v := ?_) rfl (by kernel_rfl) (by kernel_rfl) (by kernel_rfl) (fun _ _ _ h => h) (Or.inl ⟨by rfl, ?_⟩) (by assumption) ?_
          rotate_left
          · (intro wS hS; have cW := cell_below hS cW; have cC := cell_below hS cC; go_simp <;> with_reducible rfl)
          try simp only [Act.put, List.setIfInBounds_toArray, List.set_cons_zero, List.set_cons_succ]
          refine wpAnyH_take (i := 2) (oi := { dst := some 22, op := Op.binOp BinOp.eql 3 (Operand.tmp 21) (Operand.const (Value.int IntKind.i64 0)) 3, type := 4, pos := "cmd.go:104", after := #[{ on := 1, ground := Ground.data }], guard := none }) (v := ?_) rfl (by kernel_rfl) (by kernel_rfl) (by kernel_rfl) (fun _ _ _ h => h) (Or.inl ⟨by rfl, ?_⟩) (by assumption) ?_
          rotate_left
          · (intro wS hS; go_simp <;> with_reducible rfl)
          try simp only [Act.put, List.setIfInBounds_toArray, List.set_cons_zero, List.set_cons_succ]
          refine wpAnyH_take (i := 3) (oi := { dst := some 23, op := Op.move (Operand.tmp 22), type := 4, pos := "cmd.go:104", after := #[{ on := 2, ground := Ground.data }], guard := none }) (v := ?_) rfl (by kernel_rfl) (by kernel_rfl) (by kernel_rfl) (fun _ _ _ h => h) (Or.inl ⟨by rfl, ?_⟩) (by assumption) ?_
          rotate_left
          · (intro wS hS; go_simp <;> with_reducible rfl)
          try simp only [Act.put, List.setIfInBounds_toArray, List.set_cons_zero, List.set_cons_succ]
          refine wpAnyH_take (i := 4) (oi := { dst := some 24, op := Op.load 91 (Operand.tmp 4), type := 91, pos := "cmd.go:104", after := #[{ on := 3, ground := Ground.guard }], guard := some (3, false) }) (v := ?_) rfl (by kernel_rfl) (by kernel_rfl) (by kernel_rfl) (fun _ _ _ h => h) (Or.inl ⟨by rfl, ?_⟩) (by assumption) ?_
          rotate_left
          · (intro wS hS; have cW := cell_below hS cW; have cC := cell_below hS cC; go_simp <;> with_reducible rfl)
          try simp only [Act.put, List.setIfInBounds_toArray, List.set_cons_zero, List.set_cons_succ]
          refine wpAnyH_take (i := 5) (oi := { dst := some 25, op := Op.call { callee := Callee.builtin Builtin.len, args := #[Operand.tmp 24], argTypes := #[91] }, type := 3, pos := "cmd.go:104", after := #[{ on := 4, ground := Ground.data }, { on := 3, ground := Ground.guard }], guard := some (3, false) }) (v := ?_) rfl (by kernel_rfl) (by kernel_rfl) (by kernel_rfl) (fun _ _ _ h => h) (Or.inl ⟨by rfl, ?_⟩) (by assumption) ?_
          rotate_left
          · (intro wS hS; go_simp <;> with_reducible rfl)
          try simp only [Act.put, List.setIfInBounds_toArray, List.set_cons_zero, List.set_cons_succ]
          refine wpAnyH_take (i := 6) (oi := { dst := some 26, op := Op.fieldAddr 24 (Operand.tmp 5) 0, type := 0, pos := "cmd.go:104", after := #[{ on := 3, ground := Ground.guard }], guard := some (3, false) }) (v := ?_) rfl (by kernel_rfl) (by kernel_rfl) (by kernel_rfl) (fun _ _ _ h => h) (Or.inl ⟨by rfl, ?_⟩) (by assumption) ?_
          rotate_left
          · (intro wS hS; go_simp <;> with_reducible rfl)
          try simp only [Act.put, List.setIfInBounds_toArray, List.set_cons_zero, List.set_cons_succ]
          refine wpAnyH_take (i := 7) (oi := { dst := some 27, op := Op.load 3 (Operand.tmp 26), type := 3, pos := "cmd.go:104", after := #[{ on := 6, ground := Ground.data }, { on := 3, ground := Ground.guard }], guard := some (3, false) }) (v := ?_) rfl (by kernel_rfl) (by kernel_rfl) (by kernel_rfl) (fun _ _ _ h => h) (Or.inl ⟨by rfl, ?_⟩) (by assumption) ?_
          rotate_left
          · (intro wS hS; have cW := cell_below hS cW; have cC := cell_below hS cC; go_simp <;> with_reducible rfl)
          try simp only [Act.put, List.setIfInBounds_toArray, List.set_cons_zero, List.set_cons_succ]
          refine wpAnyH_ready (rs := [8]) (by kernel_rfl) (by simp) ?_
          refine AllReadyH.cons (o := { dst := some 28, op := Op.call { callee := Callee.value (Operand.func 52), args := #[Operand.tmp 27], argTypes := #[3] }, type := 3, pos := "cmd.go:104", after := #[{ on := 7, ground := Ground.data }, { on := 3, ground := Ground.chain }, { on := 3, ground := Ground.guard }], guard := some (3, false) }) rfl (fun K hK => ?_) AllReadyH.nil
          go_simp
          refine (KM _).out.mono ?_
          rintro e w108 ⟨rfl, hb⟩
          replace hS : (fun W => Below (w4).heap.size (w4) W) w108 := below_then hS hb (Below.size hS)
          refine hK.out _ _ hS (fun _ => ?_)
          clear hK K hb
          try simp only [Act.put, List.setIfInBounds_toArray, List.set_cons_zero, List.set_cons_succ]
          refine wpAnyH_take (i := 9) (oi := { dst := some 29, op := Op.binOp BinOp.add 3 (Operand.const (Value.int IntKind.i64 1)) (Operand.tmp 28) 3, type := 3, pos := "cmd.go:104", after := #[{ on := 8, ground := Ground.data }, { on := 3, ground := Ground.guard }], guard := some (3, false) }) (v := ?_) rfl (by kernel_rfl) (by kernel_rfl) (by kernel_rfl) (fun _ _ _ h => h) (Or.inl ⟨by rfl, ?_⟩) (by assumption) ?_
          rotate_left
          · (intro wS hS; go_simp <;> with_reducible rfl)
          try simp only [Act.put, List.setIfInBounds_toArray, List.set_cons_zero, List.set_cons_succ]
          refine wpAnyH_take (i := 10) (oi := { dst := some 30, op := Op.binOp BinOp.neq 3 (Operand.tmp 25) (Operand.tmp 29) 3, type := 4, pos := "cmd.go:104", after := #[{ on := 5, ground := Ground.data }, { on := 9, ground := Ground.data }, { on := 3, ground := Ground.guard }], guard := some (3, false) }) (v := ?_) rfl (by kernel_rfl) (by kernel_rfl) (by kernel_rfl) (fun _ _ _ h => h) (Or.inl ⟨by rfl, ?_⟩) (by assumption) ?_
          rotate_left
          · (intro wS hS; go_simp <;> with_reducible rfl)
          try simp only [Act.put, List.setIfInBounds_toArray, List.set_cons_zero, List.set_cons_succ]
          refine wpAnyH_take (i := 11) (oi := { dst := some 31, op := Op.pick (Operand.tmp 23) (Operand.const (Value.bool true)) (Operand.tmp 30), type := 4, pos := "cmd.go:104", after := #[{ on := 3, ground := Ground.data }, { on := 10, ground := Ground.data }], guard := none }) (v := ?_) rfl (by kernel_rfl) (by kernel_rfl) (by kernel_rfl) (fun _ _ _ h => h) (Or.inl ⟨by rfl, ?_⟩) (by assumption) ?_
          rotate_left
          · (intro wS hS; go_simp <;> with_reducible rfl)
          try simp only [Act.put, List.setIfInBounds_toArray, List.set_cons_zero, List.set_cons_succ]
          refine wpAnyH_done (by kernel_rfl) ?_ _
          go_wp2_with fail
          go_meet
          exact ⟨rfl, hS⟩
        case rest =>
          obtain ⟨rfl, hS⟩ := hcut
          replace hR := heap_below hS hR
          replace hW := heap_below hS hW
          replace hC := heap_below hS hC
          replace hr := hr.below hS
          replace hB := below_trans hB hS
          clear hS cW cC KM HCP hKM hk1 hlm hm2
          have K1 := fun W hh hr => Lib.hid (cnumber_any (h :: r) 1 gW (some ad) c W hh hr (fun p hp => Nat.le_trans (HL.out p hp) hN) (by omega) (by rw [List.length_cons]; omega))
          have K2 := fun W hh hr => Lib.hid (cnumber_any (h :: r) 2 gW (some ad) c W hh hr (fun p hp => Nat.le_trans (HL.out p hp) hN) (by omega) (by rw [List.length_cons]; omega))
          simp only [show ((1 : Nat) : Int) = 1 from rfl, show ((2 : Nat) : Int) = 2 from rfl] at K1 K2
          have b1 := numAt_le (h :: r) 1
          have b2 := numAt_le (h :: r) 2
          have KT := fun W => Lib.hid (ctext_yes (kindK h : Nat) (numAt (h :: r) 1) (numAt (h :: r) 2) W HC0.out)
          clear HC0
          generalize numAt (h :: r) 1 = na at *
          generalize numAt (h :: r) 2 = nb at *
          generalize textK (kindK h : Nat) na nb = tx at *
          generalize kindK h = kk at *
          go_wp2_with fail
          refine (K1 _ hW hr).out.mono ?_
          rintro e w5 ⟨rfl, hb⟩
          replace hR := heap_below hb hR
          replace hW := heap_below hb hW
          replace hC := heap_below hb hC
          replace hr := hr.below hb
          replace hB := below_trans hB hb
          clear hb K1
          go_wp2_with fail
          refine (K2 _ hW hr).out.mono ?_
          rintro e w6 ⟨rfl, hb⟩
          replace hR := heap_below hb hR
          replace hC := heap_below hb hC
          replace hB := below_trans hB hb
          clear hb K2 hW hr
          obtain ⟨⟨y0, y1, y2⟩, e0, e1, e2⟩ := three_cells' hC
          have hC2 := set_heap (o := 2) (set_heap (o := 1) hC (.int .u64 (na : Int))) (.int .u64 (nb : Int))
          have hG := (gb_set w6 gC 1 (.int .u64 (na : Int))).trans (gb_set _ gC 2 (.int .u64 (nb : Int)))
          replace hR := gb_heap hG hR (by simp; omega)
          have hB7 := below_gbw hG hB (by omega)
          clear hG hB
          go_upto_region 9 with fail
          generalize (w6.setCell ⟨gC, 1, none⟩ (.int .u64 (na : Int))).setCell ⟨gC, 2, none⟩ (.int .u64 (nb : Int)) = w7 at *
          clear y0 y1 y2 e0 e1 e2 hC
          obtain ⟨⟨y0, y1, y2⟩, e0, e1, e2⟩ := three_cells' hC2
          go_wp2_with fail
          refine (KT _).out.mono ?_
          rintro e w8 ⟨rfl, hb⟩
          replace hR := heap_below hb hR
          replace hC2 := heap_below hb hC2
          replace hB7 := below_trans hB7 hb
          clear hb KT y0 y1 y2 e0 e1 e2
          obtain ⟨⟨y0, y1, y2⟩, e0, e1, e2⟩ := three_cells' hC2
          obtain ⟨⟨z0, z1, z2⟩, f0, f1, f2⟩ := three_cells' hR
          by_cases hts : tx = s
          · rw [if_pos hts] at HP
            subst hts
            go_wp2_with fail
            have hh9 := three_heap hR (.int .i64 (kk : Int)) (.int .u64 (na : Int)) (.int .u64 (nb : Int))
            have hB9 := below_gbw (three_gb w8 w.heap.size (.int .i64 (kk : Int)) (.int .u64 (na : Int)) (.int .u64 (nb : Int))) hB7 (Nat.le_refl _)
            obtain ⟨⟨r0, r1, r2⟩, -⟩ := three_cells' hh9
            refine bodyPost_ret (v := .tuple #[cmdV kk na nb, .int .i64 0]) ?_ rfl ⟨by rw [HP.out]; rfl, hB9⟩
            simp only [three] at r0 r1 r2
            simp [results, Try.results18, go_sem, r0, r1, r2]
          · rw [if_neg hts] at HP
            have hbe : (tx == s) = false := by simpa using hts
            clear hts
            go_wp2_with fail
            have hh9 := three_heap (hR) (.int .i64 0) (.int .u64 0) (.int .u64 0)
            have hB9 := below_gbw (three_gb w8 w.heap.size (.int .i64 0) (.int .u64 0) (.int .u64 0)) (hB7) (Nat.le_refl _)
            obtain ⟨⟨r0, r1, r2⟩, -⟩ := three_cells' hh9
            refine bodyPost_ret (v := .tuple #[cmdV 0 0 0, .int .i64 6]) ?_ rfl ⟨by rw [HP.out]; rfl, hB9⟩
            simp only [three] at r0 r1 r2
            simp [results, Try.results18, go_sem, r0, r1, r2]
      · rw [if_pos (.inr hlm)] at HP
        go_cut [31] (fun v31 wx => v31 = .bool true ∧ Below w4.heap.size w4 wx)
        case first =>
          clear HP HCP HL HLn hKM
          have hwr : IntKind.i64.wrap (1 + (manyK (kindK h : Nat) : Int)) = 1 + (manyK (kindK h : Nat) : Int) := by rw [IntKind.wrap_i64]; omega
          have hE : ((r.length : Int) + 1 != 1 + (manyK (kindK h : Nat) : Int)) = true := by rw [bne_iff_ne]; omega
          clear hlm
          generalize manyK (kindK h : Nat) = m at *
          generalize r.length = n at *
          generalize kindK h = kk at *
          refine wp_region_held (S := fun W => Below (w4).heap.size (w4) W) (by kernel_rfl) ?_
          change wpAnyH _ _ _ _ _ _ _ _ (w4).drew
          have hS : (fun W => Below (w4).heap.size (w4) W) (w4).drew := (Below.refl _ _).drew
          refine wpAnyH_take (i := 0) (oi := { dst := some 20, op := Op.fieldAddr 24 (Operand.tmp 5) 0, type := 0, pos := "cmd.go:104", after := #[], guard := none }) (v := ?_) rfl (by kernel_rfl) (by kernel_rfl) (by kernel_rfl) (fun _ _ _ h => h) (Or.inl ⟨by rfl, ?_⟩) (by assumption) ?_
          rotate_left
          · (intro wS hS; go_simp <;> with_reducible rfl)
          try simp only [Act.put, List.setIfInBounds_toArray, List.set_cons_zero, List.set_cons_succ]
          refine wpAnyH_take (i := 1) (oi := { dst := some 21, op := Op.load 3 (Operand.tmp 20), type := 3, pos := "cmd.go:104", after := #[{ on := 0, ground := Ground.data }], guard := none }) (v := ?_) rfl (by kernel_rfl) (by kernel_rfl) (by kernel_rfl) (fun _ _ _ h => h) (Or.inl ⟨by rfl, ?_⟩) (by assumption) ?_
          rotate_left
          · (intro wS hS; have cW := cell_below hS cW; have cC := cell_below hS cC; go_simp <;> with_reducible rfl)
          try simp only [Act.put, List.setIfInBounds_toArray, List.set_cons_zero, List.set_cons_succ]
          refine wpAnyH_take (i := 2) (oi := { dst := some 22, op := Op.binOp BinOp.eql 3 (Operand.tmp 21) (Operand.const (Value.int IntKind.i64 0)) 3, type := 4, pos := "cmd.go:104", after := #[{ on := 1, ground := Ground.data }], guard := none }) (v := ?_) rfl (by kernel_rfl) (by kernel_rfl) (by kernel_rfl) (fun _ _ _ h => h) (Or.inl ⟨by rfl, ?_⟩) (by assumption) ?_
          rotate_left
          · (intro wS hS; go_simp <;> with_reducible rfl)
          try simp only [Act.put, List.setIfInBounds_toArray, List.set_cons_zero, List.set_cons_succ]
          refine wpAnyH_take (i := 3) (oi := { dst := some 23, op := Op.move (Operand.tmp 22), type := 4, pos := "cmd.go:104", after := #[{ on := 2, ground := Ground.data }], guard := none }) (v := ?_) rfl (by kernel_rfl) (by kernel_rfl) (by kernel_rfl) (fun _ _ _ h => h) (Or.inl ⟨by rfl, ?_⟩) (by assumption) ?_
          rotate_left
          · (intro wS hS; go_simp <;> with_reducible rfl)
          try simp only [Act.put, List.setIfInBounds_toArray, List.set_cons_zero, List.set_cons_succ]
          refine wpAnyH_take (i := 4) (oi := { dst := some 24, op := Op.load 91 (Operand.tmp 4), type := 91, pos := "cmd.go:104", after := #[{ on := 3, ground := Ground.guard }], guard := some (3, false) }) (v := ?_) rfl (by kernel_rfl) (by kernel_rfl) (by kernel_rfl) (fun _ _ _ h => h) (Or.inl ⟨by rfl, ?_⟩) (by assumption) ?_
          rotate_left
          · (intro wS hS; have cW := cell_below hS cW; have cC := cell_below hS cC; go_simp <;> with_reducible rfl)
          try simp only [Act.put, List.setIfInBounds_toArray, List.set_cons_zero, List.set_cons_succ]
          refine wpAnyH_take (i := 5) (oi := { dst := some 25, op := Op.call { callee := Callee.builtin Builtin.len, args := #[Operand.tmp 24], argTypes := #[91] }, type := 3, pos := "cmd.go:104", after := #[{ on := 4, ground := Ground.data }, { on := 3, ground := Ground.guard }], guard := some (3, false) }) (v := ?_) rfl (by kernel_rfl) (by kernel_rfl) (by kernel_rfl) (fun _ _ _ h => h) (Or.inl ⟨by rfl, ?_⟩) (by assumption) ?_
          rotate_left
          · (intro wS hS; go_simp <;> with_reducible rfl)
          try simp only [Act.put, List.setIfInBounds_toArray, List.set_cons_zero, List.set_cons_succ]
          refine wpAnyH_take (i := 6) (oi := { dst := some 26, op := Op.fieldAddr 24 (Operand.tmp 5) 0, type := 0, pos := "cmd.go:104", after := #[{ on := 3, ground := Ground.guard }], guard := some (3, false) }) (v := ?_) rfl (by kernel_rfl) (by kernel_rfl) (by kernel_rfl) (fun _ _ _ h => h) (Or.inl ⟨by rfl, ?_⟩) (by assumption) ?_
          rotate_left
          · (intro wS hS; go_simp <;> with_reducible rfl)
          try simp only [Act.put, List.setIfInBounds_toArray, List.set_cons_zero, List.set_cons_succ]
          refine wpAnyH_take (i := 7) (oi := { dst := some 27, op := Op.load 3 (Operand.tmp 26), type := 3, pos := "cmd.go:104", after := #[{ on := 6, ground := Ground.data }, { on := 3, ground := Ground.guard }], guard := some (3, false) }) (v := ?_) rfl (by kernel_rfl) (by kernel_rfl) (by kernel_rfl) (fun _ _ _ h => h) (Or.inl ⟨by rfl, ?_⟩) (by assumption) ?_
          rotate_left
          · (intro wS hS; have cW := cell_below hS cW; have cC := cell_below hS cC; go_simp <;> with_reducible rfl)
          try simp only [Act.put, List.setIfInBounds_toArray, List.set_cons_zero, List.set_cons_succ]
          refine wpAnyH_ready (rs := [8]) (by kernel_rfl) (by simp) ?_
          refine AllReadyH.cons (o := { dst := some 28, op := Op.call { callee := Callee.value (Operand.func 52), args := #[Operand.tmp 27], argTypes := #[3] }, type := 3, pos := "cmd.go:104", after := #[{ on := 7, ground := Ground.data }, { on := 3, ground := Ground.chain }, { on := 3, ground := Ground.guard }], guard := some (3, false) }) rfl (fun K hK => ?_) AllReadyH.nil
          go_simp
          refine (KM _).out.mono ?_
          rintro e w108 ⟨rfl, hb⟩
          replace hS : (fun W => Below (w4).heap.size (w4) W) w108 := below_then hS hb (Below.size hS)
          refine hK.out _ _ hS (fun _ => ?_)
          clear hK K hb
          try simp only [Act.put, List.setIfInBounds_toArray, List.set_cons_zero, List.set_cons_succ]
          refine wpAnyH_take (i := 9) (oi := { dst := some 29, op := Op.binOp BinOp.add 3 (Operand.const (Value.int IntKind.i64 1)) (Operand.tmp 28) 3, type := 3, pos := "cmd.go:104", after := #[{ on := 8, ground := Ground.data }, { on := 3, ground := Ground.guard }], guard := some (3, false) }) (v := ?_) rfl (by kernel_rfl) (by kernel_rfl) (by kernel_rfl) (fun _ _ _ h => h) (Or.inl ⟨by rfl, ?_⟩) (by assumption) ?_
          rotate_left
          · (intro wS hS; go_simp <;> with_reducible rfl)
          try simp only [Act.put, List.setIfInBounds_toArray, List.set_cons_zero, List.set_cons_succ]
          refine wpAnyH_take (i := 10) (oi := { dst := some 30, op := Op.binOp BinOp.neq 3 (Operand.tmp 25) (Operand.tmp 29) 3, type := 4, pos := "cmd.go:104", after := #[{ on := 5, ground := Ground.data }, { on := 9, ground := Ground.data }, { on := 3, ground := Ground.guard }], guard := some (3, false) }) (v := ?_) rfl (by kernel_rfl) (by kernel_rfl) (by kernel_rfl) (fun _ _ _ h => h) (Or.inl ⟨by rfl, ?_⟩) (by assumption) ?_
          rotate_left
          · (intro wS hS; go_simp <;> with_reducible rfl)
          try simp only [Act.put, List.setIfInBounds_toArray, List.set_cons_zero, List.set_cons_succ]
          refine wpAnyH_take (i := 11) (oi := { dst := some 31, op := Op.pick (Operand.tmp 23) (Operand.const (Value.bool true)) (Operand.tmp 30), type := 4, pos := "cmd.go:104", after := #[{ on := 3, ground := Ground.data }, { on := 10, ground := Ground.data }], guard := none }) (v := ?_) rfl (by kernel_rfl) (by kernel_rfl) (by kernel_rfl) (fun _ _ _ h => h) (Or.inl ⟨by rfl, ?_⟩) (by assumption) ?_
          rotate_left
          · (intro wS hS; go_simp <;> with_reducible rfl)
          try simp only [Act.put, List.setIfInBounds_toArray, List.set_cons_zero, List.set_cons_succ]
          refine wpAnyH_done (by kernel_rfl) ?_ _
          go_wp2_with fail
          go_meet
          exact ⟨rfl, hS⟩
        case rest =>
          obtain ⟨rfl, hS⟩ := hcut
          replace hR := heap_below hS hR
          replace hB := below_trans hB hS
          obtain ⟨⟨z0, z1, z2⟩, f0, f1, f2⟩ := three_cells' hR
          clear hS cW cC hC hW hr
          go_wp2_with fail
          have hh9 := three_heap (hR) (.int .i64 0) (.int .u64 0) (.int .u64 0)
          have hB9 := below_gbw (three_gb wc w.heap.size (.int .i64 0) (.int .u64 0) (.int .u64 0)) (hB) (Nat.le_refl _)
          obtain ⟨⟨r0, r1, r2⟩, -⟩ := three_cells' hh9
          refine bodyPost_ret (v := .tuple #[cmdV 0 0 0, .int .i64 17]) ?_ rfl ⟨by rw [HP.out]; rfl, hB9⟩
          simp only [three] at r0 r1 r2
          simp [results, Try.results18, go_sem, r0, r1, r2]
end Go.Proofs.Ytefipigdkdopcaa
