/- The text of any reply, or what is wrong; read it is that reply: the statement answers true. No condition. -/
import Derived.Test.YtefipigdkdopcaaRep13
import Derived.Test.YtefipigdkdopcaaRep14
import Derived.Test.YtefipigdkdopcaaRep15
import Derived.Test.YtefipigdkdopcaaRep16
import Derived.Test.YtefipigdkdopcaaRep18
namespace Go.Proofs.Ytefipigdkdopcaa
open Go.RowKit

set_option maxRecDepth 100000 in
set_option maxHeartbeats 8000000 in
theorem replytexts_law (e : Int) (n : Nat) (fs : List Fr) (ls : List (Nat × Nat)) (cs : List Int) (A : Option Addr) (a1 a2 : Nat) (B : Option Addr) (b1 b2 : Nat) (C : Option Addr) (c1 c2 : Nat)
    (e' : Int) (n' : Nat) (fs' : List Fr) (ls' : List (Nat × Nat)) (cs' : List Int) (A' : Option Addr) (a1' a2' : Nat) (B' : Option Addr) (b1' b2' : Nat) (C' : Option Addr) (c1' c2' : Nat) (w : World)
    (hx : R3 w fs ls cs A a1 a2 B b1 b2 C c1 c2) (hy : R3 w fs' ls' cs' A' a1' a2' B' b1' b2' C' c1' c2') :
    Calls Try.prog 9 #[rpl e n A a1 a2 B b1 b2 C c1 c2, rpl e' n' A' a1' a2' B' b1' b2' C' c1' c2'] w fun x w' => x = .returned (.bool true) ∧ Below w.heap.size w w' := by
  have KA := fun W => Lib.hid (awake36_any W)
  have KL1 := fun W (h : R3 W fs ls cs A a1 a2 B b1 b2 C c1 c2) => Lib.hid (light_any e n fs ls cs A a1 a2 B b1 b2 C c1 c2 W h.f h.l h.c)
  have KL2 := fun W (h : R3 W fs' ls' cs' A' a1' a2' B' b1' b2' C' c1' c2') => Lib.hid (light_any e' n' fs' ls' cs' A' a1' a2' B' b1' b2' C' c1' c2' W h.f h.l h.c)
  have hh1 := alloc_new w (.cells (rplCs e n A a1 a2 B b1 b2 C c1 c2) 47 (0, 0))
  have hh2 := alloc_new (w.alloc (.cells (rplCs e n A a1 a2 B b1 b2 C c1 c2) 47)) (.cells (rplCs e' n' A' a1' a2' B' b1' b2' C' c1' c2') 47 (0, 0))
  rw [alloc_size] at hh2
  replace hh1 := heap_below ((Below.refl _ (w.alloc (.cells (rplCs e n A a1 a2 B b1 b2 C c1 c2) 47))).alloc (Nat.le_refl _) (.cells (rplCs e' n' A' a1' a2' B' b1' b2' C' c1' c2') 47)) hh1
  obtain ⟨hB, -, -⟩ := two_cells w (rplCs e n A a1 a2 B b1 b2 C c1 c2) (rplCs e' n' A' a1' a2' B' b1' b2' C' c1' c2') 47 47
  replace hx := hx.below hB
  replace hy := hy.below hB
  obtain ⟨⟨p0, p1, p2, p3, p4⟩, -⟩ := five_cells hh1
  obtain ⟨⟨q0, q1, q2, q3, q4⟩, -⟩ := five_cells hh2
  go_enter Try.func9, Try.ntmps9
  go_upto_region 1 with fail
  generalize (w.alloc (.cells (rplCs e n A a1 a2 B b1 b2 C c1 c2) 47)).alloc (.cells (rplCs e' n' A' a1' a2' B' b1' b2' C' c1' c2') 47) = w1 at *
  go_wp2_with fail
  refine (KL1 _ hx).out.mono ?_
  rintro x w2 ⟨b, rfl, hL1, hb⟩
  replace hx := hx.below hb
  replace hy := hy.below hb
  replace hh1 := heap_below hb hh1
  replace hh2 := heap_below hb hh2
  replace hB := below_trans hB hb
  clear hb KL1 p0 p1 p2 p3 p4 q0 q1 q2 q3 q4
  cases b with
  | false =>
    clear hL1 KL2
    go_wp2_with fail
    refine (KA _).out.mono ?_
    rintro x w3 ⟨rfl, hb⟩
    go_wp2_with fail
    go_ret
    exact ⟨rfl, below_trans hB hb⟩
  | true =>
  have HL1 := Lib.hid (hL1 rfl)
  obtain ⟨⟨p0, p1, p2, p3, p4⟩, -⟩ := five_cells hh1
  obtain ⟨⟨q0, q1, q2, q3, q4⟩, -⟩ := five_cells hh2
  clear hL1
  go_wp2_with fail
  refine (KL2 _ hy).out.mono ?_
  rintro x w3 ⟨b, rfl, hL2, hb⟩
  replace hx := hx.below hb
  replace hy := hy.below hb
  replace hh1 := heap_below hb hh1
  replace hh2 := heap_below hb hh2
  replace hB := below_trans hB hb
  clear hb KL2 p0 p1 p2 p3 p4 q0 q1 q2 q3 q4
  cases b with
  | false =>
    clear hL2
    go_wp2_with fail
    refine (KA _).out.mono ?_
    rintro x w4 ⟨rfl, hb⟩
    go_wp2_with fail
    go_ret
    exact ⟨rfl, below_trans hB hb⟩
  | true =>
  have HL2 := Lib.hid (hL2 rfl)
  clear hL2
  obtain ⟨hN1, hD1⟩ := hx.chk HL1.out
  obtain ⟨hN2, hD2⟩ := hy.chk HL2.out
  clear HL1 HL2
  have KC1 := fun W (h : R3 W fs ls cs A a1 a2 B b1 b2 C c1 c2) => Lib.hid (rchk_any e n fs ls cs A a1 a2 B b1 b2 C c1 c2 W h.f h.l h.c hN1 hD1)
  have KC2 := fun W (h : R3 W fs ls cs A a1 a2 B b1 b2 C c1 c2) => Lib.hid (refchk_any e n fs ls cs A a1 a2 B b1 b2 C c1 c2 W h.f h.l h.c hN1 hD1)
  have KS1 := fun W (h : R3 W fs ls cs A a1 a2 B b1 b2 C c1 c2) (h' : R3 W fs' ls' cs' A' a1' a2' B' b1' b2' C' c1' c2') => Lib.hid (rsame36_any e n fs ls cs A a1 a2 B b1 b2 C c1 c2 e' n' fs' ls' cs' A' a1' a2' B' b1' b2' C' c1' c2' W h.f h.l h.c hN1 h'.f h'.l h'.c hN2)
  have KS2 := fun W (h : R3 W fs ls cs A a1 a2 B b1 b2 C c1 c2) (h' : R3 W fs' ls' cs' A' a1' a2' B' b1' b2' C' c1' c2') => Lib.hid (refsame36_any e n fs ls cs A a1 a2 B b1 b2 C c1 c2 e' n' fs' ls' cs' A' a1' a2' B' b1' b2' C' c1' c2' W h.f h.l h.c hN1 h'.f h'.l h'.c hN2)
  generalize sameR e n fs ls cs e' n' fs' ls' cs' = sm at *
  by_cases hg : GoodR e n fs ls cs
  · have hch := chk_good.2 hg
    rw [hch] at KC1 KC2
    obtain ⟨E, rfl⟩ : ∃ E : Nat, e = E := ⟨e.toNat, by have := hg.e0; omega⟩
    have KT := fun W (h : R3 W fs ls cs A a1 a2 B b1 b2 C c1 c2) => Lib.hid (rtext36_yes E n fs ls cs A a1 a2 B b1 b2 C c1 c2 W h.f h.l h.c hg)
    have KR := fun W (h : R3 W fs ls cs A a1 a2 B b1 b2 C c1 c2) => Lib.hid (reftext36_any E n fs ls cs A a1 a2 B b1 b2 C c1 c2 W h.f h.l h.c hg)
    have htb := textR_bound hg
    have KP : ∀ W, Hid (Calls Try.prog 25 #[.string ⟨(textR E n fs ls cs).toArray⟩] W fun x w' => ∃ A a B b C c, x = .returned (.tuple #[rpl E n A fs.length a B ls.length b C cs.length c, .int .i64 0]) ∧ R3 w' fs ls cs A fs.length a B ls.length b C cs.length c ∧ Below W.heap.size W w') := fun W => Lib.hid ((rparse_any (textR E n fs ls cs) W (by omega)).mono (fun x w' ⟨h1, h2, _⟩ => by
      obtain ⟨hp1, hp2⟩ := prs_text hg
      rw [hp1] at h2
      obtain ⟨A, a, B, b, C, c, h3, h4, h5, h6⟩ := h2 hp2
      rw [Int.toNat_natCast] at h3
      exact ⟨A, a, B, b, C, c, h3, ⟨h4, h5, h6⟩, h1⟩))
    have hf1 := hx.f.flen
    have hl1 := hx.l.plen
    have hc1 := hx.c.ilen
    have KS3 := fun X x0 Y y0 Z z0 W (h : R3 W fs ls cs X fs.length x0 Y ls.length y0 Z cs.length z0) (h' : R3 W fs ls cs A a1 a2 B b1 b2 C c1 c2) => Lib.hid (refsame36_any E n fs ls cs X fs.length x0 Y ls.length y0 Z cs.length z0 E n fs ls cs A a1 a2 B b1 b2 C c1 c2 W h.f h.l h.c (by omega) h'.f h'.l h'.c hN1)
    rw [show sameR E n fs ls cs E n fs ls cs = true from by unfold sameR; simp] at KS3
    clear hg hch htb hf1 hl1 hc1 hN1 hN2 hD1 hD2
    generalize textR E n fs ls cs = tx at *
    obtain ⟨⟨p0, p1, p2, p3, p4⟩, -⟩ := five_cells hh1
    go_wp2_with fail
    refine (KT _ hx).out.mono ?_
    rintro x w4 ⟨rfl, hb⟩
    replace hx := hx.below hb
    replace hy := hy.below hb
    replace hh1 := heap_below hb hh1
    replace hh2 := heap_below hb hh2
    replace hB := below_trans hB hb
    clear hb KT p0 p1 p2 p3 p4
    obtain ⟨⟨p0, p1, p2, p3, p4⟩, -⟩ := five_cells hh1
    go_wp2_with fail
    refine (KC2 _ hx).out.mono ?_
    rintro x w5 ⟨rfl, hb⟩
    replace hx := hx.below hb
    replace hy := hy.below hb
    replace hh1 := heap_below hb hh1
    replace hh2 := heap_below hb hh2
    replace hB := below_trans hB hb
    clear hb KC2 p0 p1 p2 p3 p4
    obtain ⟨⟨p0, p1, p2, p3, p4⟩, -⟩ := five_cells hh1
    obtain ⟨⟨q0, q1, q2, q3, q4⟩, -⟩ := five_cells hh2
    go_upto_region 5 with fail
    refine wp_region_held (S := fun W => Below (w5).heap.size (w5) W) (by kernel_rfl) ?_
    change wpAnyH _ _ _ _ _ _ _ _ (w5).drew
    have hS : (fun W => Below (w5).heap.size (w5) W) (w5).drew := (Below.refl _ _).drew
    refine wpAnyH_take (i := 0) (oi := { dst := some 26, op := Op.load 47 (Operand.tmp 2), type := 47, pos := "law.go:38", after := #[], guard := none }) (v := ?_) rfl (by kernel_rfl) (by kernel_rfl) (by kernel_rfl) (fun _ _ _ h => h) (Or.inl ⟨by rfl, ?_⟩) (by assumption) ?_
    rotate_left
    · (intro wS hS; have p0 := cell_below hS p0; have p1 := cell_below hS p1; have p2 := cell_below hS p2; have p3 := cell_below hS p3; have p4 := cell_below hS p4; have q0 := cell_below hS q0; have q1 := cell_below hS q1; have q2 := cell_below hS q2; have q3 := cell_below hS q3; have q4 := cell_below hS q4; go_simp <;> with_reducible rfl)
    try simp only [Act.put, List.setIfInBounds_toArray, List.set_cons_zero, List.set_cons_succ]
    refine wpAnyH_take (i := 2) (oi := { dst := some 28, op := Op.move (Operand.tmp 7), type := 25, pos := "law.go:38", after := #[], guard := none }) (v := ?_) rfl (by kernel_rfl) (by kernel_rfl) (by kernel_rfl) (fun _ _ _ h => h) (Or.inl ⟨by rfl, ?_⟩) (by assumption) ?_
    rotate_left
    · (intro wS hS; go_simp <;> with_reducible rfl)
    try simp only [Act.put, List.setIfInBounds_toArray, List.set_cons_zero, List.set_cons_succ]
    refine wpAnyH_ready (rs := [1]) (by kernel_rfl) (by simp) ?_
    refine AllReadyH.cons (o := { dst := some 27, op := Op.call { callee := Callee.value (Operand.func 35), args := #[Operand.tmp 26], argTypes := #[47] }, type := 25, pos := "law.go:38", after := #[{ on := 0, ground := Ground.data }], guard := none }) rfl (fun K hK => ?_) AllReadyH.nil
    go_simp
    refine (KC1 _ (hx.below hS)).out.mono ?_
    rintro e w101 ⟨rfl, hb⟩
    replace hS : (fun W => Below (w5).heap.size (w5) W) w101 := below_then hS hb (Below.size hS)
    refine hK.out _ _ hS (fun _ => ?_)
    clear hK K hb
    try simp only [Act.put, List.setIfInBounds_toArray, List.set_cons_zero, List.set_cons_succ]
    refine wpAnyH_take (i := 3) (oi := { dst := some 29, op := Op.binOp BinOp.neq 25 (Operand.tmp 27) (Operand.tmp 28) 25, type := 4, pos := "law.go:38", after := #[{ on := 1, ground := Ground.data }, { on := 2, ground := Ground.data }], guard := none }) (v := ?_) rfl (by kernel_rfl) (by kernel_rfl) (by kernel_rfl) (fun _ _ _ h => h) (Or.inl ⟨by rfl, ?_⟩) (by assumption) ?_
    rotate_left
    · (intro wS hS; go_simp <;> with_reducible rfl)
    try simp only [Act.put, List.setIfInBounds_toArray, List.set_cons_zero, List.set_cons_succ]
    refine wpAnyH_take (i := 4) (oi := { dst := some 30, op := Op.move (Operand.tmp 29), type := 4, pos := "law.go:38", after := #[{ on := 3, ground := Ground.data }, { on := 1, ground := Ground.chain }], guard := none }) (v := ?_) rfl (by kernel_rfl) (by kernel_rfl) (by kernel_rfl) (fun _ _ _ h => h) (Or.inl ⟨by rfl, ?_⟩) (by assumption) ?_
    rotate_left
    · (intro wS hS; go_simp <;> with_reducible rfl)
    try simp only [Act.put, List.setIfInBounds_toArray, List.set_cons_zero, List.set_cons_succ]
    refine wpAnyH_take (i := 5) (oi := { dst := some 31, op := Op.load 47 (Operand.tmp 2), type := 47, pos := "law.go:38", after := #[{ on := 4, ground := Ground.guard }], guard := some (4, false) }) (v := ?_) rfl (by kernel_rfl) (by kernel_rfl) (by kernel_rfl) (fun _ _ _ h => h) (Or.inl ⟨by rfl, ?_⟩) (by assumption) ?_
    rotate_left
    · (intro wS hS; have p0 := cell_below hS p0; have p1 := cell_below hS p1; have p2 := cell_below hS p2; have p3 := cell_below hS p3; have p4 := cell_below hS p4; have q0 := cell_below hS q0; have q1 := cell_below hS q1; have q2 := cell_below hS q2; have q3 := cell_below hS q3; have q4 := cell_below hS q4; go_simp <;> with_reducible rfl)
    try simp only [Act.put, List.setIfInBounds_toArray, List.set_cons_zero, List.set_cons_succ]
    refine wpAnyH_take (i := 6) (oi := { dst := some 32, op := Op.load 47 (Operand.tmp 3), type := 47, pos := "law.go:38", after := #[{ on := 4, ground := Ground.guard }], guard := some (4, false) }) (v := ?_) rfl (by kernel_rfl) (by kernel_rfl) (by kernel_rfl) (fun _ _ _ h => h) (Or.inl ⟨by rfl, ?_⟩) (by assumption) ?_
    rotate_left
    · (intro wS hS; have p0 := cell_below hS p0; have p1 := cell_below hS p1; have p2 := cell_below hS p2; have p3 := cell_below hS p3; have p4 := cell_below hS p4; have q0 := cell_below hS q0; have q1 := cell_below hS q1; have q2 := cell_below hS q2; have q3 := cell_below hS q3; have q4 := cell_below hS q4; go_simp <;> with_reducible rfl)
    try simp only [Act.put, List.setIfInBounds_toArray, List.set_cons_zero, List.set_cons_succ]
    refine wpAnyH_take (i := 8) (oi := { dst := some 34, op := Op.load 47 (Operand.tmp 2), type := 47, pos := "law.go:38", after := #[{ on := 4, ground := Ground.guard }], guard := some (4, false) }) (v := ?_) rfl (by kernel_rfl) (by kernel_rfl) (by kernel_rfl) (fun _ _ _ h => h) (Or.inl ⟨by rfl, ?_⟩) (by assumption) ?_
    rotate_left
    · (intro wS hS; have p0 := cell_below hS p0; have p1 := cell_below hS p1; have p2 := cell_below hS p2; have p3 := cell_below hS p3; have p4 := cell_below hS p4; have q0 := cell_below hS q0; have q1 := cell_below hS q1; have q2 := cell_below hS q2; have q3 := cell_below hS q3; have q4 := cell_below hS q4; go_simp <;> with_reducible rfl)
    try simp only [Act.put, List.setIfInBounds_toArray, List.set_cons_zero, List.set_cons_succ]
    refine wpAnyH_take (i := 9) (oi := { dst := some 35, op := Op.load 47 (Operand.tmp 3), type := 47, pos := "law.go:38", after := #[{ on := 4, ground := Ground.guard }], guard := some (4, false) }) (v := ?_) rfl (by kernel_rfl) (by kernel_rfl) (by kernel_rfl) (fun _ _ _ h => h) (Or.inl ⟨by rfl, ?_⟩) (by assumption) ?_
    rotate_left
    · (intro wS hS; have p0 := cell_below hS p0; have p1 := cell_below hS p1; have p2 := cell_below hS p2; have p3 := cell_below hS p3; have p4 := cell_below hS p4; have q0 := cell_below hS q0; have q1 := cell_below hS q1; have q2 := cell_below hS q2; have q3 := cell_below hS q3; have q4 := cell_below hS q4; go_simp <;> with_reducible rfl)
    try simp only [Act.put, List.setIfInBounds_toArray, List.set_cons_zero, List.set_cons_succ]
    refine wpAnyH_ready (rs := [7]) (by kernel_rfl) (by simp) ?_
    refine AllReadyH.cons (o := { dst := some 33, op := Op.call { callee := Callee.value (Operand.func 36), args := #[Operand.tmp 31, Operand.tmp 32], argTypes := #[47, 47] }, type := 4, pos := "law.go:38", after := #[{ on := 5, ground := Ground.data }, { on := 6, ground := Ground.data }, { on := 4, ground := Ground.chain }, { on := 4, ground := Ground.guard }], guard := some (4, false) }) rfl (fun K hK => ?_) AllReadyH.nil
    go_simp
    refine (KS1 _ (hx.below hS) (hy.below hS)).out.mono ?_
    rintro e w107 ⟨rfl, hb⟩
    replace hS : (fun W => Below (w5).heap.size (w5) W) w107 := below_then hS hb (Below.size hS)
    refine hK.out _ _ hS (fun _ => ?_)
    clear hK K hb
    try simp only [Act.put, List.setIfInBounds_toArray, List.set_cons_zero, List.set_cons_succ]
    refine wpAnyH_ready (rs := [10]) (by kernel_rfl) (by simp) ?_
    refine AllReadyH.cons (o := { dst := some 36, op := Op.call { callee := Callee.value (Operand.func 26), args := #[Operand.tmp 34, Operand.tmp 35], argTypes := #[47, 47] }, type := 4, pos := "law.go:38", after := #[{ on := 8, ground := Ground.data }, { on := 9, ground := Ground.data }, { on := 7, ground := Ground.chain }, { on := 4, ground := Ground.guard }], guard := some (4, false) }) rfl (fun K hK => ?_) AllReadyH.nil
    go_simp
    refine (KS2 _ (hx.below hS) (hy.below hS)).out.mono ?_
    rintro e w110 ⟨rfl, hb⟩
    replace hS : (fun W => Below (w5).heap.size (w5) W) w110 := below_then hS hb (Below.size hS)
    refine hK.out _ _ hS (fun _ => ?_)
    clear hK K hb
    try simp only [Act.put, List.setIfInBounds_toArray, List.set_cons_zero, List.set_cons_succ]
    refine wpAnyH_take (i := 11) (oi := { dst := some 37, op := Op.binOp BinOp.neq 4 (Operand.tmp 33) (Operand.tmp 36) 4, type := 4, pos := "law.go:38", after := #[{ on := 7, ground := Ground.data }, { on := 10, ground := Ground.data }, { on := 4, ground := Ground.guard }], guard := some (4, false) }) (v := ?_) rfl (by kernel_rfl) (by kernel_rfl) (by kernel_rfl) (fun _ _ _ h => h) (Or.inl ⟨by rfl, ?_⟩) (by assumption) ?_
    rotate_left
    · (intro wS hS; go_simp <;> with_reducible rfl)
    try simp only [Act.put, List.setIfInBounds_toArray, List.set_cons_zero, List.set_cons_succ]
    refine wpAnyH_take (i := 12) (oi := { dst := some 38, op := Op.pick (Operand.tmp 30) (Operand.const (Value.bool true)) (Operand.tmp 37), type := 4, pos := "law.go:38", after := #[{ on := 4, ground := Ground.data }, { on := 11, ground := Ground.data }], guard := none }) (v := ?_) rfl (by kernel_rfl) (by kernel_rfl) (by kernel_rfl) (fun _ _ _ h => h) (Or.inl ⟨by rfl, ?_⟩) (by assumption) ?_
    rotate_left
    · (intro wS hS; go_simp <;> with_reducible rfl)
    try simp only [Act.put, List.setIfInBounds_toArray, List.set_cons_zero, List.set_cons_succ]
    refine wpAnyH_done (by kernel_rfl) ?_ _
    replace hx := hx.below hS
    replace hh1 := heap_below hS hh1
    replace hB := below_trans hB hS
    clear hS KC1 KS1 KS2 hy hh2 p0 p1 p2 p3 p4 q0 q1 q2 q3 q4
    go_wp2_with fail
    refine (KP _).out.mono ?_
    rintro x w6 ⟨X, x0, Y, y0, Z, z0, rfl, hz, hb⟩
    replace hx := hx.below hb
    replace hh1 := heap_below hb hh1
    replace hB := below_trans hB hb
    obtain ⟨hb1, -⟩ := one_cells w6 (rplCs E n X fs.length x0 Y ls.length y0 Z cs.length z0) 47
    have hh3 := alloc_new w6 (.cells (rplCs E n X fs.length x0 Y ls.length y0 Z cs.length z0) 47 (0, 0))
    replace hx := hx.below hb1
    replace hz := hz.below hb1
    replace hh1 := heap_below hb1 hh1
    replace hB := below_trans hB hb1
    clear hb hb1 KP
    go_upto_region 10 with fail
    generalize w6.alloc (.cells (rplCs E n X fs.length x0 Y ls.length y0 Z cs.length z0) 47) = w7 at *
    go_wp2_with fail
    refine (KA _).out.mono ?_
    rintro x w8 ⟨rfl, hb⟩
    replace hx := hx.below hb
    replace hz := hz.below hb
    replace hh1 := heap_below hb hh1
    replace hh3 := heap_below hb hh3
    replace hB := below_trans hB hb
    clear hb
    obtain ⟨⟨p0, p1, p2, p3, p4⟩, -⟩ := five_cells hh1
    go_wp2_with fail
    refine (KR _ hx).out.mono ?_
    rintro x w9 ⟨rfl, hb⟩
    replace hx := hx.below hb
    replace hz := hz.below hb
    replace hh1 := heap_below hb hh1
    replace hh3 := heap_below hb hh3
    replace hB := below_trans hB hb
    clear hb KR p0 p1 p2 p3 p4
    obtain ⟨⟨p0, p1, p2, p3, p4⟩, -⟩ := five_cells hh1
    obtain ⟨⟨q0, q1, q2, q3, q4⟩, -⟩ := five_cells hh3
    go_wp2_with fail
    refine (KS3 _ _ _ _ _ _ _ hz hx).out.mono ?_
    rintro x w10 ⟨rfl, hb⟩
    go_wp2_with fail
    go_ret
    exact ⟨rfl, below_trans hB hb⟩
  · have hch : chkR e n fs ls cs ≠ 0 := fun h => hg (chk_good.1 h)
    have KT := fun W (h : R3 W fs ls cs A a1 a2 B b1 b2 C c1 c2) => Lib.hid (rtext36_no e n fs ls cs A a1 a2 B b1 b2 C c1 c2 W h.f h.l h.c hN1 hD1 hch)
    have hce : ((chkR e n fs ls cs : Int) != 0) = true := by rw [bne_iff_ne]; omega
    clear hg hch hN1 hN2 hD1 hD2
    generalize chkR e n fs ls cs = ch at *
    obtain ⟨⟨p0, p1, p2, p3, p4⟩, -⟩ := five_cells hh1
    go_wp2_with fail
    refine (KT _ hx).out.mono ?_
    rintro x w4 ⟨rfl, hb⟩
    replace hx := hx.below hb
    replace hy := hy.below hb
    replace hh1 := heap_below hb hh1
    replace hh2 := heap_below hb hh2
    replace hB := below_trans hB hb
    clear hb KT p0 p1 p2 p3 p4
    obtain ⟨⟨p0, p1, p2, p3, p4⟩, -⟩ := five_cells hh1
    go_wp2_with fail
    refine (KC2 _ hx).out.mono ?_
    rintro x w5 ⟨rfl, hb⟩
    replace hx := hx.below hb
    replace hy := hy.below hb
    replace hh1 := heap_below hb hh1
    replace hh2 := heap_below hb hh2
    replace hB := below_trans hB hb
    clear hb KC2 p0 p1 p2 p3 p4
    obtain ⟨⟨p0, p1, p2, p3, p4⟩, -⟩ := five_cells hh1
    obtain ⟨⟨q0, q1, q2, q3, q4⟩, -⟩ := five_cells hh2
    go_upto_region 5 with fail
    refine wp_region_held (S := fun W => Below (w5).heap.size (w5) W) (by kernel_rfl) ?_
    change wpAnyH _ _ _ _ _ _ _ _ (w5).drew
    have hS : (fun W => Below (w5).heap.size (w5) W) (w5).drew := (Below.refl _ _).drew
    refine wpAnyH_take (i := 0) (oi := { dst := some 26, op := Op.load 47 (Operand.tmp 2), type := 47, pos := "law.go:38", after := #[], guard := none }) (v := ?_) rfl (by kernel_rfl) (by kernel_rfl) (by kernel_rfl) (fun _ _ _ h => h) (Or.inl ⟨by rfl, ?_⟩) (by assumption) ?_
    rotate_left
    · (intro wS hS; have p0 := cell_below hS p0; have p1 := cell_below hS p1; have p2 := cell_below hS p2; have p3 := cell_below hS p3; have p4 := cell_below hS p4; have q0 := cell_below hS q0; have q1 := cell_below hS q1; have q2 := cell_below hS q2; have q3 := cell_below hS q3; have q4 := cell_below hS q4; go_simp <;> with_reducible rfl)
    try simp only [Act.put, List.setIfInBounds_toArray, List.set_cons_zero, List.set_cons_succ]
    refine wpAnyH_take (i := 2) (oi := { dst := some 28, op := Op.move (Operand.tmp 7), type := 25, pos := "law.go:38", after := #[], guard := none }) (v := ?_) rfl (by kernel_rfl) (by kernel_rfl) (by kernel_rfl) (fun _ _ _ h => h) (Or.inl ⟨by rfl, ?_⟩) (by assumption) ?_
    rotate_left
    · (intro wS hS; go_simp <;> with_reducible rfl)
    try simp only [Act.put, List.setIfInBounds_toArray, List.set_cons_zero, List.set_cons_succ]
    refine wpAnyH_ready (rs := [1]) (by kernel_rfl) (by simp) ?_
    refine AllReadyH.cons (o := { dst := some 27, op := Op.call { callee := Callee.value (Operand.func 35), args := #[Operand.tmp 26], argTypes := #[47] }, type := 25, pos := "law.go:38", after := #[{ on := 0, ground := Ground.data }], guard := none }) rfl (fun K hK => ?_) AllReadyH.nil
    go_simp
    refine (KC1 _ (hx.below hS)).out.mono ?_
    rintro e w101 ⟨rfl, hb⟩
    replace hS : (fun W => Below (w5).heap.size (w5) W) w101 := below_then hS hb (Below.size hS)
    refine hK.out _ _ hS (fun _ => ?_)
    clear hK K hb
    try simp only [Act.put, List.setIfInBounds_toArray, List.set_cons_zero, List.set_cons_succ]
    refine wpAnyH_take (i := 3) (oi := { dst := some 29, op := Op.binOp BinOp.neq 25 (Operand.tmp 27) (Operand.tmp 28) 25, type := 4, pos := "law.go:38", after := #[{ on := 1, ground := Ground.data }, { on := 2, ground := Ground.data }], guard := none }) (v := ?_) rfl (by kernel_rfl) (by kernel_rfl) (by kernel_rfl) (fun _ _ _ h => h) (Or.inl ⟨by rfl, ?_⟩) (by assumption) ?_
    rotate_left
    · (intro wS hS; go_simp <;> with_reducible rfl)
    try simp only [Act.put, List.setIfInBounds_toArray, List.set_cons_zero, List.set_cons_succ]
    refine wpAnyH_take (i := 4) (oi := { dst := some 30, op := Op.move (Operand.tmp 29), type := 4, pos := "law.go:38", after := #[{ on := 3, ground := Ground.data }, { on := 1, ground := Ground.chain }], guard := none }) (v := ?_) rfl (by kernel_rfl) (by kernel_rfl) (by kernel_rfl) (fun _ _ _ h => h) (Or.inl ⟨by rfl, ?_⟩) (by assumption) ?_
    rotate_left
    · (intro wS hS; go_simp <;> with_reducible rfl)
    try simp only [Act.put, List.setIfInBounds_toArray, List.set_cons_zero, List.set_cons_succ]
    refine wpAnyH_take (i := 5) (oi := { dst := some 31, op := Op.load 47 (Operand.tmp 2), type := 47, pos := "law.go:38", after := #[{ on := 4, ground := Ground.guard }], guard := some (4, false) }) (v := ?_) rfl (by kernel_rfl) (by kernel_rfl) (by kernel_rfl) (fun _ _ _ h => h) (Or.inl ⟨by rfl, ?_⟩) (by assumption) ?_
    rotate_left
    · (intro wS hS; have p0 := cell_below hS p0; have p1 := cell_below hS p1; have p2 := cell_below hS p2; have p3 := cell_below hS p3; have p4 := cell_below hS p4; have q0 := cell_below hS q0; have q1 := cell_below hS q1; have q2 := cell_below hS q2; have q3 := cell_below hS q3; have q4 := cell_below hS q4; go_simp <;> with_reducible rfl)
    try simp only [Act.put, List.setIfInBounds_toArray, List.set_cons_zero, List.set_cons_succ]
    refine wpAnyH_take (i := 6) (oi := { dst := some 32, op := Op.load 47 (Operand.tmp 3), type := 47, pos := "law.go:38", after := #[{ on := 4, ground := Ground.guard }], guard := some (4, false) }) (v := ?_) rfl (by kernel_rfl) (by kernel_rfl) (by kernel_rfl) (fun _ _ _ h => h) (Or.inl ⟨by rfl, ?_⟩) (by assumption) ?_
    rotate_left
    · (intro wS hS; have p0 := cell_below hS p0; have p1 := cell_below hS p1; have p2 := cell_below hS p2; have p3 := cell_below hS p3; have p4 := cell_below hS p4; have q0 := cell_below hS q0; have q1 := cell_below hS q1; have q2 := cell_below hS q2; have q3 := cell_below hS q3; have q4 := cell_below hS q4; go_simp <;> with_reducible rfl)
    try simp only [Act.put, List.setIfInBounds_toArray, List.set_cons_zero, List.set_cons_succ]
    refine wpAnyH_take (i := 8) (oi := { dst := some 34, op := Op.load 47 (Operand.tmp 2), type := 47, pos := "law.go:38", after := #[{ on := 4, ground := Ground.guard }], guard := some (4, false) }) (v := ?_) rfl (by kernel_rfl) (by kernel_rfl) (by kernel_rfl) (fun _ _ _ h => h) (Or.inl ⟨by rfl, ?_⟩) (by assumption) ?_
    rotate_left
    · (intro wS hS; have p0 := cell_below hS p0; have p1 := cell_below hS p1; have p2 := cell_below hS p2; have p3 := cell_below hS p3; have p4 := cell_below hS p4; have q0 := cell_below hS q0; have q1 := cell_below hS q1; have q2 := cell_below hS q2; have q3 := cell_below hS q3; have q4 := cell_below hS q4; go_simp <;> with_reducible rfl)
    try simp only [Act.put, List.setIfInBounds_toArray, List.set_cons_zero, List.set_cons_succ]
    refine wpAnyH_take (i := 9) (oi := { dst := some 35, op := Op.load 47 (Operand.tmp 3), type := 47, pos := "law.go:38", after := #[{ on := 4, ground := Ground.guard }], guard := some (4, false) }) (v := ?_) rfl (by kernel_rfl) (by kernel_rfl) (by kernel_rfl) (fun _ _ _ h => h) (Or.inl ⟨by rfl, ?_⟩) (by assumption) ?_
    rotate_left
    · (intro wS hS; have p0 := cell_below hS p0; have p1 := cell_below hS p1; have p2 := cell_below hS p2; have p3 := cell_below hS p3; have p4 := cell_below hS p4; have q0 := cell_below hS q0; have q1 := cell_below hS q1; have q2 := cell_below hS q2; have q3 := cell_below hS q3; have q4 := cell_below hS q4; go_simp <;> with_reducible rfl)
    try simp only [Act.put, List.setIfInBounds_toArray, List.set_cons_zero, List.set_cons_succ]
    refine wpAnyH_ready (rs := [7]) (by kernel_rfl) (by simp) ?_
    refine AllReadyH.cons (o := { dst := some 33, op := Op.call { callee := Callee.value (Operand.func 36), args := #[Operand.tmp 31, Operand.tmp 32], argTypes := #[47, 47] }, type := 4, pos := "law.go:38", after := #[{ on := 5, ground := Ground.data }, { on := 6, ground := Ground.data }, { on := 4, ground := Ground.chain }, { on := 4, ground := Ground.guard }], guard := some (4, false) }) rfl (fun K hK => ?_) AllReadyH.nil
    go_simp
    refine (KS1 _ (hx.below hS) (hy.below hS)).out.mono ?_
    rintro e w107 ⟨rfl, hb⟩
    replace hS : (fun W => Below (w5).heap.size (w5) W) w107 := below_then hS hb (Below.size hS)
    refine hK.out _ _ hS (fun _ => ?_)
    clear hK K hb
    try simp only [Act.put, List.setIfInBounds_toArray, List.set_cons_zero, List.set_cons_succ]
    refine wpAnyH_ready (rs := [10]) (by kernel_rfl) (by simp) ?_
    refine AllReadyH.cons (o := { dst := some 36, op := Op.call { callee := Callee.value (Operand.func 26), args := #[Operand.tmp 34, Operand.tmp 35], argTypes := #[47, 47] }, type := 4, pos := "law.go:38", after := #[{ on := 8, ground := Ground.data }, { on := 9, ground := Ground.data }, { on := 7, ground := Ground.chain }, { on := 4, ground := Ground.guard }], guard := some (4, false) }) rfl (fun K hK => ?_) AllReadyH.nil
    go_simp
    refine (KS2 _ (hx.below hS) (hy.below hS)).out.mono ?_
    rintro e w110 ⟨rfl, hb⟩
    replace hS : (fun W => Below (w5).heap.size (w5) W) w110 := below_then hS hb (Below.size hS)
    refine hK.out _ _ hS (fun _ => ?_)
    clear hK K hb
    try simp only [Act.put, List.setIfInBounds_toArray, List.set_cons_zero, List.set_cons_succ]
    refine wpAnyH_take (i := 11) (oi := { dst := some 37, op := Op.binOp BinOp.neq 4 (Operand.tmp 33) (Operand.tmp 36) 4, type := 4, pos := "law.go:38", after := #[{ on := 7, ground := Ground.data }, { on := 10, ground := Ground.data }, { on := 4, ground := Ground.guard }], guard := some (4, false) }) (v := ?_) rfl (by kernel_rfl) (by kernel_rfl) (by kernel_rfl) (fun _ _ _ h => h) (Or.inl ⟨by rfl, ?_⟩) (by assumption) ?_
    rotate_left
    · (intro wS hS; go_simp <;> with_reducible rfl)
    try simp only [Act.put, List.setIfInBounds_toArray, List.set_cons_zero, List.set_cons_succ]
    refine wpAnyH_take (i := 12) (oi := { dst := some 38, op := Op.pick (Operand.tmp 30) (Operand.const (Value.bool true)) (Operand.tmp 37), type := 4, pos := "law.go:38", after := #[{ on := 4, ground := Ground.data }, { on := 11, ground := Ground.data }], guard := none }) (v := ?_) rfl (by kernel_rfl) (by kernel_rfl) (by kernel_rfl) (fun _ _ _ h => h) (Or.inl ⟨by rfl, ?_⟩) (by assumption) ?_
    rotate_left
    · (intro wS hS; go_simp <;> with_reducible rfl)
    try simp only [Act.put, List.setIfInBounds_toArray, List.set_cons_zero, List.set_cons_succ]
    refine wpAnyH_done (by kernel_rfl) ?_ _
    replace hB := below_trans hB hS
    clear hS KC1 KS1 KS2 hy hh2 hx hh1 p0 p1 p2 p3 p4 q0 q1 q2 q3 q4
    go_wp2_with fail
    refine (KA _).out.mono ?_
    rintro x w6 ⟨rfl, hb⟩
    go_wp2_with fail
    go_ret
    exact ⟨rfl, below_trans hB hb⟩
end Go.Proofs.Ytefipigdkdopcaa
