/- Layer 41 (tape): contracts of take at a fault's line. No condition but lengths' bounds. -/
import Derived.Test.YtefipigdkdopcaaTap8
namespace Go.Proofs.Ytefipigdkdopcaa
open Go.RowKit

def ftOf (u : List UInt8) (k : Int) (A : Option Addr) (m c : Nat) (v : List UInt8) : FtV := ⟨numF u, k, A, m, c, bytesW v⟩

set_option maxRecDepth 100000 in
set_option maxHeartbeats 8000000 in
theorem take_fail (W0 : World) (B gs : Nat) (Kp : World → Prop) (x y z : Int) (bl : List Int) (fs : List FtV) (ss : List StV) (vb vf vs : Value) (w : World) (h : TSt W0 B gs Kp x y z bl fs ss vb vf vs w) (hP : TPl W0 B gs)
    (u v : List UInt8) (A : Option Addr) (c : Nat) (hx : RdS w A 3 c [wFail, u, v]) (hu : u.length ≤ 100000 ∧ v.length ≤ 20000) (hN : fs.length ≤ 1000000) :
    Calls Try.prog 124 #[.pointer (some ⟨gs, 0, none⟩), .slice A 3 c] w fun e w' => e = .returned (.string ⟨(harmS (numF u) 1 (bytesW v)).toArray⟩) ∧ ∃ vf' A5 m5 c5, TSt W0 B gs Kp x y z bl (fs ++ [ftOf u 1 A5 m5 c5 v]) ss vb vf' vs w' := by
  obtain ⟨ad, rfl⟩ := hx.some_of_pos (by omega)
  have e0 : w.cell? ad = some (.string ⟨#[102, 97, 105, 108]⟩) := by
    have := hx.scell 0 (by omega)
    have e : ad.add 0 = ad := by unfold Addr.add; simp
    rw [e] at this
    exact this
  have e2 : w.cell? ⟨ad.block, ad.off + 2, none⟩ = some (.string ⟨v.toArray⟩) := by
    have := hx.scell 2 (by simp)
    simpa [Addr.add] using this
  have hab := cell_lt e0
  have hP1 := hP.h1
  have hP5 := hP.h5
  have hBw := h.sz
  have hvb : ∀ k, w.heap.size ≤ k → (vb.ownBlock = none ∨ vb.ownBlock ≠ some k) := fun k hk => .inr (fun e => by have := (h.ob.lt k e).2; omega)
  have hvf : ∀ k, w.heap.size ≤ k → (vf.ownBlock = none ∨ vf.ownBlock ≠ some k) := fun k hk => .inr (fun e => by have := (h.of.lt k e).2; omega)
  have hvs : ∀ k, w.heap.size ≤ k → (vs.ownBlock = none ∨ vs.ownBlock ≠ some k) := fun k hk => .inr (fun e => by have := (h.os.lt k e).2; omega)
  have hvm : ∀ f ∈ fs, ∀ k, w.heap.size ≤ k → ((Value.slice f.A f.m f.c).ownBlock = none ∨ (Value.slice f.A f.m f.c).ownBlock ≠ some k) := fun f hf k hk => .inr (fun e => by have := ((h.om f hf).lt k e).2; omega)
  have hcm := hx.cm
  have hnc := hx.nc
  unfold maxLen at hcm
  have K1 : ∀ W, RdS W (some ad) 3 c [wFail, u, v] → Hid (Calls Try.prog 88 #[.slice (some ad) 3 c, .int .i64 1] W fun e w' => ∃ (A : Option Addr) (m k : Nat), e = .returned (.int .i64 (numF u)) ∧ True ∧ Below W.heap.size W w') := fun W h => Lib.hid ((tnum_any [wFail, u, v] 1 (some ad) 3 c W h (by omega) (by omega) hu.1).mono (fun e w' h => ⟨none, 0, 0, h.1, trivial, h.2⟩))
  have K2 := fun W => Lib.hid (tbytes_own v W (by omega))
  have b1 := numF_bounds u
  unfold farN at b1
  have hbl2 : (bytesW v).length ≤ 10000 := by have := bytesW_len v; omega
  have HFT : ∀ k A m c, Hid ((⟨numF u, k, A, m, c, bytesW v⟩ : FtV) = ftOf u k A m c v) := fun k A m c => Lib.hid rfl
  generalize bytesW v = bv at *
  generalize numF u = nu at *
  clear hu
  go_enter Try.func124, Try.ntmps124
  go_upto_region 9 with fail
  go_cut [6] (fun s6 wx => ∃ g6 A5 m5 c5, s6 = .pointer (some ⟨g6, 0, none⟩) ∧ w.heap.size ≤ g6 ∧ wx.heap[g6]? = some (.cells #[.int .i64 nu, .int .i64 1, .slice A5 m5 c5] 130 (0, 0)) ∧ wx.ownsRow B 5 1 (.slice A5 m5 c5) bv.length (bs bv) ∧ RdS wx (some ad) 3 c [wFail, u, v] ∧ TSt W0 B gs Kp x y z bl fs ss vb vf vs wx)
  case first =>
    have hB := h.sz
    have hws : w.heap.size ≤ w.drew.heap.size := Nat.le_refl _
    replace h := h.kept ((Below.refl w.heap.size w).drew)
    replace hx := hx.below ((Below.refl w.heap.size w).drew)
    replace e2 := cell_below ((Below.refl w.heap.size w).drew) e2
    clear e0
    have hzi : Try.prog.info? 130 = Try.prog.info? 130 := rfl
    refine wp_region_held (S := fun W => W.cell? ⟨ad.block, ad.off + 2, none⟩ = some (.string ⟨v.toArray⟩)) (by kernel_rfl) ?_
    change wpAnyH _ _ _ _ _ _ _ _ (w).drew
    have hS : (fun W => W.cell? ⟨ad.block, ad.off + 2, none⟩ = some (.string ⟨v.toArray⟩)) (w).drew := e2
    generalize (w).drew = wd at hS hx h hws ⊢
    refine wpAnyH_take (i := 0) (oi := { dst := some 44, op := Op.move (Operand.tmp 1), type := 91, pos := "tape.go:180", after := #[], guard := none }) (v := ?_) rfl (by kernel_rfl) (by kernel_rfl) (by kernel_rfl) (fun _ _ _ h => h) (Or.inl ⟨by rfl, ?_⟩) (by assumption) ?_
    rotate_left
    · (intro wS hS; go_simp <;> with_reducible rfl)
    try simp only [Act.put, List.setIfInBounds_toArray, List.set_cons_zero, List.set_cons_succ]
    refine wpAnyH_take (i := 2) (oi := { dst := some 46, op := Op.move (Operand.tmp 1), type := 91, pos := "tape.go:180", after := #[], guard := none }) (v := ?_) rfl (by kernel_rfl) (by kernel_rfl) (by kernel_rfl) (fun _ _ _ h => h) (Or.inl ⟨by rfl, ?_⟩) (by assumption) ?_
    rotate_left
    · (intro wS hS; go_simp <;> with_reducible rfl)
    try simp only [Act.put, List.setIfInBounds_toArray, List.set_cons_zero, List.set_cons_succ]
    refine wpAnyH_take (i := 3) (oi := { dst := some 47, op := Op.indexAddr 91 (Operand.tmp 46) (Operand.const (Value.int IntKind.i64 2)), type := 0, pos := "tape.go:180", after := #[{ on := 2, ground := Ground.data }], guard := none }) (v := ?_) rfl (by kernel_rfl) (by kernel_rfl) (by kernel_rfl) (fun _ _ _ h => h) (Or.inl ⟨by rfl, ?_⟩) (by assumption) ?_
    rotate_left
    · (intro wS hS; go_simp <;> with_reducible rfl)
    try simp only [Act.put, List.setIfInBounds_toArray, List.set_cons_zero, List.set_cons_succ]
    refine wpAnyH_take (i := 4) (oi := { dst := some 48, op := Op.load 9 (Operand.tmp 47), type := 9, pos := "tape.go:180", after := #[{ on := 3, ground := Ground.data }], guard := none }) (v := ?_) rfl (by kernel_rfl) (by kernel_rfl) (by kernel_rfl) (fun _ _ _ h => h) (Or.inl ⟨by rfl, ?_⟩) (by assumption) ?_
    rotate_left
    · (intro wS hS; have q0 := hS; go_simp <;> with_reducible rfl)
    try simp only [Act.put, List.setIfInBounds_toArray, List.set_cons_zero, List.set_cons_succ]
    refine wpAnyH_ready (rs := [1, 7]) (by kernel_rfl) (by simp) ?_
    refine AllReadyH.cons (o := { dst := some 45, op := Op.call { callee := Callee.value (Operand.func 88), args := #[Operand.tmp 44, Operand.const (Value.int IntKind.i64 1)], argTypes := #[91, 3] }, type := 3, pos := "tape.go:180", after := #[{ on := 0, ground := Ground.data }], guard := none }) rfl (fun K hK => ?_) (AllReadyH.cons (o := { dst := some 6, op := Op.alloc 130, type := 0, pos := "tape.go:180", after := #[], guard := none }) rfl (fun K hK => ?_) (AllReadyH.nil))
    · have q0 := hS
      go_simp
      refine (K1 _ hx).out.mono ?_
      rintro e w101 ⟨A5, m5, c5, rfl, hr5, hb⟩
      replace hS : (fun W => W.cell? ⟨ad.block, ad.off + 2, none⟩ = some (.string ⟨v.toArray⟩)) w101 := cell_below hb hS
      try replace hr5 := ownsRow_base hr5 hws
      replace hx := hx.below hb
      replace h := h.kept hb
      replace hws := Nat.le_trans hws hb.size
      refine hK.out _ _ hS (fun _ => ?_)
      clear hK K hb
      try simp only [Act.put, List.setIfInBounds_toArray, List.set_cons_zero, List.set_cons_succ]
      refine wpAnyH_ready (rs := [5, 7]) (by kernel_rfl) (by simp) ?_
      refine AllReadyH.cons (o := { dst := some 49, op := Op.call { callee := Callee.value (Operand.func 89), args := #[Operand.tmp 48], argTypes := #[9] }, type := 53, pos := "tape.go:180", after := #[{ on := 4, ground := Ground.data }, { on := 1, ground := Ground.chain }], guard := none }) rfl (fun K hK => ?_) (AllReadyH.cons (o := { dst := some 6, op := Op.alloc 130, type := 0, pos := "tape.go:180", after := #[], guard := none }) rfl (fun K hK => ?_) (AllReadyH.nil))
      · have q0 := hS
        go_simp
        refine (K2 _).out.mono ?_
        rintro e w105 ⟨A5, m5, c5, rfl, hr5, hb⟩
        replace hS : (fun W => W.cell? ⟨ad.block, ad.off + 2, none⟩ = some (.string ⟨v.toArray⟩)) w105 := cell_below hb hS
        try replace hr5 := ownsRow_base hr5 hws
        replace hx := hx.below hb
        replace h := h.kept hb
        replace hws := Nat.le_trans hws hb.size
        refine hK.out _ _ hS (fun _ => ?_)
        clear hK K hb
        try simp only [Act.put, List.setIfInBounds_toArray, List.set_cons_zero, List.set_cons_succ]
        refine wpAnyH_take (i := 6) (oi := { dst := some 50, op := Op.build 130 #[(0, Operand.tmp 45), (1, Operand.const (Value.int IntKind.i64 1)), (2, Operand.tmp 49)], type := 130, pos := "tape.go:180", after := #[{ on := 1, ground := Ground.data }, { on := 5, ground := Ground.data }], guard := none }) (v := ?_) rfl (by kernel_rfl) (by kernel_rfl) (by kernel_rfl) (fun _ _ _ h => h) (Or.inl ⟨by rfl, ?_⟩) (by assumption) ?_
        rotate_left
        · (intro wS hS; go_simp <;> with_reducible rfl)
        try simp only [Act.put, List.setIfInBounds_toArray, List.set_cons_zero, List.set_cons_succ]
        refine wpAnyH_ready (rs := [7]) (by kernel_rfl) (by simp) ?_
        refine AllReadyH.cons (o := { dst := some 6, op := Op.alloc 130, type := 0, pos := "tape.go:180", after := #[], guard := none }) rfl (fun K hK => ?_) (AllReadyH.nil)
        go_simp
        have hbA := (one_cells w105 #[.int .i64 0, .int .i64 0, .slice none 0 0] 130).1
        have hhA := alloc_new w105 (.cells #[.int .i64 0, .int .i64 0, .slice none 0 0] 130 (0, 0))
        try replace hr5 := own_below hr5 hbA
        replace hx := hx.below hbA
        replace h := h.kept hbA
        have hws0 := hws
        replace hws := Nat.le_trans hws hbA.size
        replace hS := cell_below hbA hS
        refine hK.out _ _ hS (fun _ => ?_)
        clear hK K hbA
        try simp only [Act.put, List.setIfInBounds_toArray, List.set_cons_zero, List.set_cons_succ]
        generalize hgB2 : World.heap w105 = hpB at *
        generalize World.alloc w105 (.cells #[.int .i64 0, .int .i64 0, .slice none 0 0] 130) = wA at *
        clear hgB2
        refine wpAnyH_ready (rs := [8]) (by kernel_rfl) (by simp) ?_
        refine AllReadyH.cons (o := { dst := none, op := Op.store 130 (Operand.tmp 6) (Operand.tmp 50), type := 0, pos := "tape.go:180", after := #[{ on := 7, ground := Ground.data }, { on := 6, ground := Ground.data }, { on := 5, ground := Ground.chain }, { on := 0, ground := Ground.phase }, { on := 1, ground := Ground.phase }, { on := 2, ground := Ground.phase }, { on := 3, ground := Ground.phase }, { on := 4, ground := Ground.phase }, { on := 5, ground := Ground.phase }, { on := 6, ground := Ground.phase }, { on := 7, ground := Ground.phase }], guard := none }) rfl (fun K hK => ?_) (AllReadyH.nil)
        have hh5 := set_heap (o := 2) (set_heap (o := 1) (set_heap (o := 0) hhA (.int .i64 nu)) (.int .i64 1)) (.slice A5 m5 c5)
        have hG5 := ((gb_set wA hpB.size 0 (.int .i64 nu)).trans (gb_set _ hpB.size 1 (.int .i64 1))).trans (gb_set _ hpB.size 2 (.slice A5 m5 c5))
        have y0 := cell_heap (o := 0) hhA
        have y1 := cell_heap (o := 1) hhA
        have y2 := cell_heap (o := 2) hhA
        have k0 := frozen_heap (o := 0) hhA
        have k1 := frozen_heap (o := 1) hhA
        have k2 := frozen_heap (o := 2) hhA
        go_simp
        refine hK.out _ _ (World.grownBy.cell hG5 hS (by simp; omega)) (fun _ => ?_)
        clear hK K
        try simp only [Act.put, List.setIfInBounds_toArray, List.set_cons_zero, List.set_cons_succ]
        refine wpAnyH_done (by kernel_rfl) ?_ _
        go_wp2_with fail
        go_meet
        exact ⟨hpB.size, A5, m5, c5, rfl, hws0, hh5, (ownsRow_base hr5 hB).kept hG5 (own_ne6 (ownsRow_base hr5 hB) hhA (by decide)), hx.kept hG5 (fun ad2 e => by cases e; simp; omega), h.other hG5 (by omega) (by omega) (by omega) (hvb _ hws0) (hvf _ hws0) (hvs _ hws0) (fun f hf => hvm f hf _ hws0)⟩
      · go_simp
        have hbA := (one_cells w101 #[.int .i64 0, .int .i64 0, .slice none 0 0] 130).1
        have hhA := alloc_new w101 (.cells #[.int .i64 0, .int .i64 0, .slice none 0 0] 130 (0, 0))
        try replace hr5 := own_below hr5 hbA
        replace hx := hx.below hbA
        replace h := h.kept hbA
        have hws0 := hws
        replace hws := Nat.le_trans hws hbA.size
        replace hS := cell_below hbA hS
        refine hK.out _ _ hS (fun _ => ?_)
        clear hK K hbA
        try simp only [Act.put, List.setIfInBounds_toArray, List.set_cons_zero, List.set_cons_succ]
        generalize hgB2 : World.heap w101 = hpB at *
        generalize World.alloc w101 (.cells #[.int .i64 0, .int .i64 0, .slice none 0 0] 130) = wA at *
        clear hgB2
        refine wpAnyH_ready (rs := [5]) (by kernel_rfl) (by simp) ?_
        refine AllReadyH.cons (o := { dst := some 49, op := Op.call { callee := Callee.value (Operand.func 89), args := #[Operand.tmp 48], argTypes := #[9] }, type := 53, pos := "tape.go:180", after := #[{ on := 4, ground := Ground.data }, { on := 1, ground := Ground.chain }], guard := none }) rfl (fun K hK => ?_) (AllReadyH.nil)
        have q0 := hS
        go_simp
        refine (K2 _).out.mono ?_
        rintro e w105 ⟨A5, m5, c5, rfl, hr5, hb⟩
        replace hS : (fun W => W.cell? ⟨ad.block, ad.off + 2, none⟩ = some (.string ⟨v.toArray⟩)) w105 := cell_below hb hS
        try replace hr5 := ownsRow_base hr5 hws
        replace hx := hx.below hb
        replace h := h.kept hb
        replace hws := Nat.le_trans hws hb.size
        replace hhA := heap_below hb hhA
        refine hK.out _ _ hS (fun _ => ?_)
        clear hK K hb
        try simp only [Act.put, List.setIfInBounds_toArray, List.set_cons_zero, List.set_cons_succ]
        refine wpAnyH_take (i := 6) (oi := { dst := some 50, op := Op.build 130 #[(0, Operand.tmp 45), (1, Operand.const (Value.int IntKind.i64 1)), (2, Operand.tmp 49)], type := 130, pos := "tape.go:180", after := #[{ on := 1, ground := Ground.data }, { on := 5, ground := Ground.data }], guard := none }) (v := ?_) rfl (by kernel_rfl) (by kernel_rfl) (by kernel_rfl) (fun _ _ _ h => h) (Or.inl ⟨by rfl, ?_⟩) (by assumption) ?_
        rotate_left
        · (intro wS hS; go_simp <;> with_reducible rfl)
        try simp only [Act.put, List.setIfInBounds_toArray, List.set_cons_zero, List.set_cons_succ]
        refine wpAnyH_ready (rs := [8]) (by kernel_rfl) (by simp) ?_
        refine AllReadyH.cons (o := { dst := none, op := Op.store 130 (Operand.tmp 6) (Operand.tmp 50), type := 0, pos := "tape.go:180", after := #[{ on := 7, ground := Ground.data }, { on := 6, ground := Ground.data }, { on := 5, ground := Ground.chain }, { on := 0, ground := Ground.phase }, { on := 1, ground := Ground.phase }, { on := 2, ground := Ground.phase }, { on := 3, ground := Ground.phase }, { on := 4, ground := Ground.phase }, { on := 5, ground := Ground.phase }, { on := 6, ground := Ground.phase }, { on := 7, ground := Ground.phase }], guard := none }) rfl (fun K hK => ?_) (AllReadyH.nil)
        have hh5 := set_heap (o := 2) (set_heap (o := 1) (set_heap (o := 0) hhA (.int .i64 nu)) (.int .i64 1)) (.slice A5 m5 c5)
        have hG5 := ((gb_set w105 hpB.size 0 (.int .i64 nu)).trans (gb_set _ hpB.size 1 (.int .i64 1))).trans (gb_set _ hpB.size 2 (.slice A5 m5 c5))
        have y0 := cell_heap (o := 0) hhA
        have y1 := cell_heap (o := 1) hhA
        have y2 := cell_heap (o := 2) hhA
        have k0 := frozen_heap (o := 0) hhA
        have k1 := frozen_heap (o := 1) hhA
        have k2 := frozen_heap (o := 2) hhA
        go_simp
        refine hK.out _ _ (World.grownBy.cell hG5 hS (by simp; omega)) (fun _ => ?_)
        clear hK K
        try simp only [Act.put, List.setIfInBounds_toArray, List.set_cons_zero, List.set_cons_succ]
        refine wpAnyH_done (by kernel_rfl) ?_ _
        go_wp2_with fail
        go_meet
        exact ⟨hpB.size, A5, m5, c5, rfl, hws0, hh5, (ownsRow_base hr5 hB).kept hG5 (own_ne6 (ownsRow_base hr5 hB) hhA (by decide)), hx.kept hG5 (fun ad2 e => by cases e; simp; omega), h.other hG5 (by omega) (by omega) (by omega) (hvb _ hws0) (hvf _ hws0) (hvs _ hws0) (fun f hf => hvm f hf _ hws0)⟩
    · go_simp
      have hbA := (one_cells wd #[.int .i64 0, .int .i64 0, .slice none 0 0] 130).1
      have hhA := alloc_new wd (.cells #[.int .i64 0, .int .i64 0, .slice none 0 0] 130 (0, 0))
      try replace hr5 := own_below hr5 hbA
      replace hx := hx.below hbA
      replace h := h.kept hbA
      have hws0 := hws
      replace hws := Nat.le_trans hws hbA.size
      replace hS := cell_below hbA hS
      refine hK.out _ _ hS (fun _ => ?_)
      clear hK K hbA
      try simp only [Act.put, List.setIfInBounds_toArray, List.set_cons_zero, List.set_cons_succ]
      generalize hgB2 : World.heap wd = hpB at *
      generalize World.alloc wd (.cells #[.int .i64 0, .int .i64 0, .slice none 0 0] 130) = wA at *
      clear hgB2
      refine wpAnyH_ready (rs := [1]) (by kernel_rfl) (by simp) ?_
      refine AllReadyH.cons (o := { dst := some 45, op := Op.call { callee := Callee.value (Operand.func 88), args := #[Operand.tmp 44, Operand.const (Value.int IntKind.i64 1)], argTypes := #[91, 3] }, type := 3, pos := "tape.go:180", after := #[{ on := 0, ground := Ground.data }], guard := none }) rfl (fun K hK => ?_) (AllReadyH.nil)
      have q0 := hS
      go_simp
      refine (K1 _ hx).out.mono ?_
      rintro e w101 ⟨A5, m5, c5, rfl, hr5, hb⟩
      replace hS : (fun W => W.cell? ⟨ad.block, ad.off + 2, none⟩ = some (.string ⟨v.toArray⟩)) w101 := cell_below hb hS
      try replace hr5 := ownsRow_base hr5 hws
      replace hx := hx.below hb
      replace h := h.kept hb
      replace hws := Nat.le_trans hws hb.size
      replace hhA := heap_below hb hhA
      refine hK.out _ _ hS (fun _ => ?_)
      clear hK K hb
      try simp only [Act.put, List.setIfInBounds_toArray, List.set_cons_zero, List.set_cons_succ]
      refine wpAnyH_ready (rs := [5]) (by kernel_rfl) (by simp) ?_
      refine AllReadyH.cons (o := { dst := some 49, op := Op.call { callee := Callee.value (Operand.func 89), args := #[Operand.tmp 48], argTypes := #[9] }, type := 53, pos := "tape.go:180", after := #[{ on := 4, ground := Ground.data }, { on := 1, ground := Ground.chain }], guard := none }) rfl (fun K hK => ?_) (AllReadyH.nil)
      have q0 := hS
      go_simp
      refine (K2 _).out.mono ?_
      rintro e w105 ⟨A5, m5, c5, rfl, hr5, hb⟩
      replace hS : (fun W => W.cell? ⟨ad.block, ad.off + 2, none⟩ = some (.string ⟨v.toArray⟩)) w105 := cell_below hb hS
      try replace hr5 := ownsRow_base hr5 hws
      replace hx := hx.below hb
      replace h := h.kept hb
      replace hws := Nat.le_trans hws hb.size
      replace hhA := heap_below hb hhA
      refine hK.out _ _ hS (fun _ => ?_)
      clear hK K hb
      try simp only [Act.put, List.setIfInBounds_toArray, List.set_cons_zero, List.set_cons_succ]
      refine wpAnyH_take (i := 6) (oi := { dst := some 50, op := Op.build 130 #[(0, Operand.tmp 45), (1, Operand.const (Value.int IntKind.i64 1)), (2, Operand.tmp 49)], type := 130, pos := "tape.go:180", after := #[{ on := 1, ground := Ground.data }, { on := 5, ground := Ground.data }], guard := none }) (v := ?_) rfl (by kernel_rfl) (by kernel_rfl) (by kernel_rfl) (fun _ _ _ h => h) (Or.inl ⟨by rfl, ?_⟩) (by assumption) ?_
      rotate_left
      · (intro wS hS; go_simp <;> with_reducible rfl)
      try simp only [Act.put, List.setIfInBounds_toArray, List.set_cons_zero, List.set_cons_succ]
      refine wpAnyH_ready (rs := [8]) (by kernel_rfl) (by simp) ?_
      refine AllReadyH.cons (o := { dst := none, op := Op.store 130 (Operand.tmp 6) (Operand.tmp 50), type := 0, pos := "tape.go:180", after := #[{ on := 7, ground := Ground.data }, { on := 6, ground := Ground.data }, { on := 5, ground := Ground.chain }, { on := 0, ground := Ground.phase }, { on := 1, ground := Ground.phase }, { on := 2, ground := Ground.phase }, { on := 3, ground := Ground.phase }, { on := 4, ground := Ground.phase }, { on := 5, ground := Ground.phase }, { on := 6, ground := Ground.phase }, { on := 7, ground := Ground.phase }], guard := none }) rfl (fun K hK => ?_) (AllReadyH.nil)
      have hh5 := set_heap (o := 2) (set_heap (o := 1) (set_heap (o := 0) hhA (.int .i64 nu)) (.int .i64 1)) (.slice A5 m5 c5)
      have hG5 := ((gb_set w105 hpB.size 0 (.int .i64 nu)).trans (gb_set _ hpB.size 1 (.int .i64 1))).trans (gb_set _ hpB.size 2 (.slice A5 m5 c5))
      have y0 := cell_heap (o := 0) hhA
      have y1 := cell_heap (o := 1) hhA
      have y2 := cell_heap (o := 2) hhA
      have k0 := frozen_heap (o := 0) hhA
      have k1 := frozen_heap (o := 1) hhA
      have k2 := frozen_heap (o := 2) hhA
      go_simp
      refine hK.out _ _ (World.grownBy.cell hG5 hS (by simp; omega)) (fun _ => ?_)
      clear hK K
      try simp only [Act.put, List.setIfInBounds_toArray, List.set_cons_zero, List.set_cons_succ]
      refine wpAnyH_done (by kernel_rfl) ?_ _
      go_wp2_with fail
      go_meet
      exact ⟨hpB.size, A5, m5, c5, rfl, hws0, hh5, (ownsRow_base hr5 hB).kept hG5 (own_ne6 (ownsRow_base hr5 hB) hhA (by decide)), hx.kept hG5 (fun ad2 e => by cases e; simp; omega), h.other hG5 (by omega) (by omega) (by omega) (hvb _ hws0) (hvf _ hws0) (hvs _ hws0) (fun f hf => hvm f hf _ hws0)⟩
  case rest =>
    obtain ⟨g6, A5, m5, c5, rfl, hg6, hhA, hmo, hx, hT⟩ := hcut
    clear K1 K2 h e2
    have d1 : wc.cell? ad = some (.string ⟨#[102, 97, 105, 108]⟩) := by
      have := hx.scell 0 (by omega)
      have e : ad.add 0 = ad := by unfold Addr.add; simp
      rw [e] at this
      exact this
    have y0 := cell_heap (o := 0) hhA
    have y1 := cell_heap (o := 1) hhA
    have y2 := cell_heap (o := 2) hhA
    have k0 := frozen_heap (o := 0) hhA
    have k1 := frozen_heap (o := 1) hhA
    have k2 := frozen_heap (o := 2) hhA
    go_upto_region 12 with fail
    generalize wc = w5 at *
    clear d1 y0 y1 y2 k0 k1 k2 hx
    replace hT := hT.kept ((Below.refl w5.heap.size w5).drew)
    replace hhA := heap_below ((Below.refl w5.heap.size w5).drew) hhA
    replace hmo := own_below hmo ((Below.refl w5.heap.size w5).drew)
    have hS0 : w5.drew.cell? ⟨g6, 0, none⟩ = some (.int .i64 nu) ∧ w5.drew.cell? ⟨g6, 1, none⟩ = some (.int .i64 1) ∧ w5.drew.cell? ⟨g6, 2, none⟩ = some (.slice A5 m5 c5) := ⟨cell_heap hhA, cell_heap hhA, cell_heap hhA⟩
    obtain ⟨ii, hii, hi0, hi1, hi2⟩ := info_parts info_ft
    go_cut [6] (fun s6 wx => s6 = .pointer (some ⟨g6, 0, none⟩) ∧ wx.heap[g6]? = some (.cells #[.int .i64 nu, .int .i64 1, .slice A5 m5 c5] 130 (0, 0)) ∧ wx.ownsRow B 5 1 (.slice A5 m5 c5) bv.length (bs bv) ∧ ∃ vf', TSt W0 B gs Kp x y z bl (fs ++ [⟨nu, 1, A5, m5, c5, bv⟩]) ss vb vf' vs wx)
    case first =>
      refine wp_region_held (S := fun W => W.cell? ⟨g6, 0, none⟩ = some (.int .i64 nu) ∧ W.cell? ⟨g6, 1, none⟩ = some (.int .i64 1) ∧ W.cell? ⟨g6, 2, none⟩ = some (.slice A5 m5 c5)) (by kernel_rfl) ?_
      change wpAnyH _ _ _ _ _ _ _ _ (w5).drew
      have hS : (fun W => W.cell? ⟨g6, 0, none⟩ = some (.int .i64 nu) ∧ W.cell? ⟨g6, 1, none⟩ = some (.int .i64 1) ∧ W.cell? ⟨g6, 2, none⟩ = some (.slice A5 m5 c5)) (w5).drew := hS0
      generalize (w5).drew = wd at hS hT hhA hmo ⊢
      refine wpAnyH_take (i := 0) (oi := { dst := some 56, op := Op.move (Operand.tmp 0), type := 163, pos := "tape.go:184", after := #[], guard := none }) (v := ?_) rfl (by kernel_rfl) (by kernel_rfl) (by kernel_rfl) (fun _ _ _ h => h) (Or.inl ⟨by rfl, ?_⟩) (by assumption) ?_
      rotate_left
      · (intro wS hS; go_simp <;> with_reducible rfl)
      try simp only [Act.put, List.setIfInBounds_toArray, List.set_cons_zero, List.set_cons_succ]
      refine wpAnyH_take (i := 1) (oi := { dst := some 57, op := Op.move (Operand.tmp 0), type := 163, pos := "tape.go:184", after := #[], guard := none }) (v := ?_) rfl (by kernel_rfl) (by kernel_rfl) (by kernel_rfl) (fun _ _ _ h => h) (Or.inl ⟨by rfl, ?_⟩) (by assumption) ?_
      rotate_left
      · (intro wS hS; go_simp <;> with_reducible rfl)
      try simp only [Act.put, List.setIfInBounds_toArray, List.set_cons_zero, List.set_cons_succ]
      refine wpAnyH_take (i := 2) (oi := { dst := some 58, op := Op.nilCheck (Operand.tmp 57), type := 0, pos := "tape.go:184", after := #[{ on := 1, ground := Ground.data }], guard := none }) (v := ?_) rfl (by kernel_rfl) (by kernel_rfl) (by kernel_rfl) (fun _ _ _ h => h) (Or.inl ⟨by rfl, ?_⟩) (by assumption) ?_
      rotate_left
      · (intro wS hS; go_simp <;> with_reducible rfl)
      try simp only [Act.put, List.setIfInBounds_toArray, List.set_cons_zero, List.set_cons_succ]
      refine wpAnyH_take (i := 3) (oi := { dst := some 59, op := Op.fieldAddr 69 (Operand.tmp 58) 2, type := 0, pos := "tape.go:184", after := #[{ on := 2, ground := Ground.data }], guard := none }) (v := ?_) rfl (by kernel_rfl) (by kernel_rfl) (by kernel_rfl) (fun _ _ _ h => h) (Or.inl ⟨by rfl, ?_⟩) (by assumption) ?_
      rotate_left
      · (intro wS hS; go_simp <;> with_reducible rfl)
      try simp only [Act.put, List.setIfInBounds_toArray, List.set_cons_zero, List.set_cons_succ]
      refine wpAnyH_take (i := 5) (oi := { dst := some 61, op := Op.load 130 (Operand.tmp 6), type := 130, pos := "tape.go:184", after := #[], guard := none }) (v := ?_) rfl (by kernel_rfl) (by kernel_rfl) (by kernel_rfl) (fun _ _ _ h => h) (Or.inl ⟨by rfl, ?_⟩) (by assumption) ?_
      rotate_left
      · (intro wS hS; have q0 := hS.1; have q1 := hS.2.1; have q2 := hS.2.2; go_simp <;> with_reducible rfl)
      try simp only [Act.put, List.setIfInBounds_toArray, List.set_cons_zero, List.set_cons_succ]
      refine wpAnyH_ready (rs := [4, 6]) (by kernel_rfl) (by simp) ?_
      refine AllReadyH.cons (o := { dst := some 60, op := Op.load 66 (Operand.tmp 59), type := 66, pos := "tape.go:184", after := #[{ on := 3, ground := Ground.data }], guard := none }) rfl (fun K hK => ?_) (AllReadyH.cons (o := { dst := some 62, op := Op.buildSlice 66 1 #[(0, Operand.tmp 61)], type := 66, pos := "tape.go:184", after := #[{ on := 5, ground := Ground.data }], guard := none }) rfl (fun K hK => ?_) (AllReadyH.nil))
      · have k3 := cell_heap (o := 4) hT.hs
        go_simp
        refine hK.out _ _ hS (fun _ => ?_)
        clear hK K k3
        try simp only [Act.put, List.setIfInBounds_toArray, List.set_cons_zero, List.set_cons_succ]
        refine wpAnyH_ready (rs := [6]) (by kernel_rfl) (by simp) ?_
        refine AllReadyH.cons (o := { dst := some 62, op := Op.buildSlice 66 1 #[(0, Operand.tmp 61)], type := 66, pos := "tape.go:184", after := #[{ on := 5, ground := Ground.data }], guard := none }) rfl (fun K hK => ?_) (AllReadyH.nil)
        go_simp
        have hbA := (one_cells wd #[.int .i64 nu, .int .i64 1, .slice A5 m5 c5] 130).1
        have hnb := World.news_of_block (alloc_new wd (.cells #[.int .i64 nu, .int .i64 1, .slice A5 m5 c5] 130 (0, 0)))
        replace hT := hT.kept hbA
        replace hhA := heap_below hbA hhA
        replace hmo := own_below hmo hbA
        have hS2 := And.intro (cell_below hbA hS.1) (And.intro (cell_below hbA hS.2.1) (cell_below hbA hS.2.2))
        refine hK.out _ _ hS2 (fun _ => ?_)
        clear hK K hbA hS
        have hS := hS2
        clear hS2
        try simp only [Act.put, List.setIfInBounds_toArray, List.set_cons_zero, List.set_cons_succ]
        generalize hgB2 : World.heap wd = hpB at *
        generalize World.alloc wd (.cells #[.int .i64 nu, .int .i64 1, .slice A5 m5 c5] 130) = wA at *
        clear hgB2
        refine wpAnyH_ready (rs := [7]) (by kernel_rfl) (by simp) ?_
        refine AllReadyH.cons (o := { dst := some 63, op := Op.call { callee := Callee.builtin Builtin.append, args := #[Operand.tmp 60, Operand.tmp 62], argTypes := #[66, 66] }, type := 66, pos := "tape.go:184", after := #[{ on := 4, ground := Ground.data }, { on := 6, ground := Ground.data }], guard := none }) rfl (fun K hK => ?_) (AllReadyH.nil)
        refine step_append_lies _ rfl (.tmp 60) (.tmp 62) 66 rfl B 130 ii (.agg #[.int .i64 0, .int .i64 0, .slice none 0 0]) 3 40 Try.underlying66 hii hi0 hi1 hi2 rfl (by decide) _ fs.length _ rfl hT.of ⟨hpB.size, 0, none⟩ 1 1 [.int .i64 nu, .int .i64 1, .slice A5 m5 c5] rfl rfl hnb (by simp [Value.oneCell']) (by decide) (by unfold maxLen; omega) (by omega) hT.sz _ rfl ?_
        intro gX capX wR7 ho' hg' hor hltX
        have hne6 : some g6 ≠ vf.ownBlock := ne_of_or (hvf g6 hg6)
        have hS3 := And.intro (World.grownBy.cell hg' hS.1 hne6) (And.intro (World.grownBy.cell hg' hS.2.1 hne6) (World.grownBy.cell hg' hS.2.2 hne6))
        refine hK.out _ _ hS3 (fun _ => ?_)
        clear hK K
        try simp only [Act.put, List.setIfInBounds_toArray, List.set_cons_zero, List.set_cons_succ]
        refine wpAnyH_take (i := 8) (oi := { dst := some 64, op := Op.nilCheck (Operand.tmp 56), type := 0, pos := "tape.go:184", after := #[{ on := 0, ground := Ground.data }, { on := 0, ground := Ground.phase }, { on := 1, ground := Ground.phase }, { on := 2, ground := Ground.phase }, { on := 3, ground := Ground.phase }, { on := 4, ground := Ground.phase }, { on := 5, ground := Ground.phase }, { on := 6, ground := Ground.phase }, { on := 7, ground := Ground.phase }], guard := none }) (v := ?_) rfl (by kernel_rfl) (by kernel_rfl) (by kernel_rfl) (fun _ _ _ h => h) (Or.inl ⟨by rfl, ?_⟩) (by assumption) ?_
        rotate_left
        · (intro wS hS; go_simp <;> with_reducible rfl)
        try simp only [Act.put, List.setIfInBounds_toArray, List.set_cons_zero, List.set_cons_succ]
        refine wpAnyH_take (i := 9) (oi := { dst := some 65, op := Op.fieldAddr 69 (Operand.tmp 64) 2, type := 0, pos := "tape.go:184", after := #[{ on := 8, ground := Ground.data }, { on := 0, ground := Ground.phase }, { on := 1, ground := Ground.phase }, { on := 2, ground := Ground.phase }, { on := 3, ground := Ground.phase }, { on := 4, ground := Ground.phase }, { on := 5, ground := Ground.phase }, { on := 6, ground := Ground.phase }, { on := 7, ground := Ground.phase }], guard := none }) (v := ?_) rfl (by kernel_rfl) (by kernel_rfl) (by kernel_rfl) (fun _ _ _ h => h) (Or.inl ⟨by rfl, ?_⟩) (by assumption) ?_
        rotate_left
        · (intro wS hS; go_simp <;> with_reducible rfl)
        try simp only [Act.put, List.setIfInBounds_toArray, List.set_cons_zero, List.set_cons_succ]
        refine wpAnyH_ready (rs := [10]) (by kernel_rfl) (by simp) ?_
        refine AllReadyH.cons (o := { dst := none, op := Op.store 66 (Operand.tmp 65) (Operand.tmp 63), type := 0, pos := "tape.go:184", after := #[{ on := 9, ground := Ground.data }, { on := 7, ground := Ground.data }, { on := 7, ground := Ground.chain }, { on := 0, ground := Ground.phase }, { on := 1, ground := Ground.phase }, { on := 2, ground := Ground.phase }, { on := 3, ground := Ground.phase }, { on := 4, ground := Ground.phase }, { on := 5, ground := Ground.phase }, { on := 6, ground := Ground.phase }, { on := 7, ground := Ground.phase }], guard := none }) rfl (fun K hK => ?_) (AllReadyH.nil)
        have hr7 := gb_heap hg' hT.hs (own_ne' hT.of hP.h1)
        have fz := frozen_heap (o := 4) hr7
        have fy : wR7.cell? ⟨gs, 4, none⟩ = some vf := cell_heap hr7
        have hGs := gb_set wR7 gs 4 (.slice (some ⟨gX, 0, none⟩) (fs.length + 1) capX)
        have hm2 := hmo.kept hg' (own_other hT.of hmo (by decide))
        have h8 := hT.put hP (fs' := fs ++ [⟨nu, 1, A5, m5, c5, bv⟩]) hg' (fun k hk => own_ne' hT.of hk) (fun k hk => (hT.of.lt k hk).1) hGs (set_heap (o := 4) hr7 (.slice (some ⟨gX, 0, none⟩) (fs.length + 1) capX)) (hT.ob.kept hg' (own_other hT.of hT.ob (by decide))) (by rw [List.length_append, ftCs_append]; exact ho') (hT.os.kept hg' (own_other hT.of hT.os (by decide))) (all_snoc (fun f hf => (hT.om f hf).kept hg' (own_other hT.of (hT.om f hf) (by decide))) hm2)
        have hne7 : some g6 ≠ some gs := by (simp; omega)
        have hS4 := And.intro (World.grownBy.cell hGs hS3.1 hne7) (And.intro (World.grownBy.cell hGs hS3.2.1 hne7) (World.grownBy.cell hGs hS3.2.2 hne7))
        have hhB := gb_heap hGs (gb_heap hg' hhA hne6) hne7
        have hm3 := hm2.kept hGs (own_ne hm2 hP.h1)
        go_simp
        refine hK.out _ _ hS4 (fun _ => ?_)
        clear hK K
        try simp only [Act.put, List.setIfInBounds_toArray, List.set_cons_zero, List.set_cons_succ]
        refine wpAnyH_done (by kernel_rfl) ?_ _
        go_wp2_with fail
        go_meet
        exact ⟨rfl, hhB, hm3, _, h8⟩
      · go_simp
        have hbA := (one_cells wd #[.int .i64 nu, .int .i64 1, .slice A5 m5 c5] 130).1
        have hnb := World.news_of_block (alloc_new wd (.cells #[.int .i64 nu, .int .i64 1, .slice A5 m5 c5] 130 (0, 0)))
        replace hT := hT.kept hbA
        replace hhA := heap_below hbA hhA
        replace hmo := own_below hmo hbA
        have hS2 := And.intro (cell_below hbA hS.1) (And.intro (cell_below hbA hS.2.1) (cell_below hbA hS.2.2))
        refine hK.out _ _ hS2 (fun _ => ?_)
        clear hK K hbA hS
        have hS := hS2
        clear hS2
        try simp only [Act.put, List.setIfInBounds_toArray, List.set_cons_zero, List.set_cons_succ]
        generalize hgB2 : World.heap wd = hpB at *
        generalize World.alloc wd (.cells #[.int .i64 nu, .int .i64 1, .slice A5 m5 c5] 130) = wA at *
        clear hgB2
        refine wpAnyH_ready (rs := [4]) (by kernel_rfl) (by simp) ?_
        refine AllReadyH.cons (o := { dst := some 60, op := Op.load 66 (Operand.tmp 59), type := 66, pos := "tape.go:184", after := #[{ on := 3, ground := Ground.data }], guard := none }) rfl (fun K hK => ?_) (AllReadyH.nil)
        have k3 := cell_heap (o := 4) hT.hs
        go_simp
        refine hK.out _ _ hS (fun _ => ?_)
        clear hK K k3
        try simp only [Act.put, List.setIfInBounds_toArray, List.set_cons_zero, List.set_cons_succ]
        refine wpAnyH_ready (rs := [7]) (by kernel_rfl) (by simp) ?_
        refine AllReadyH.cons (o := { dst := some 63, op := Op.call { callee := Callee.builtin Builtin.append, args := #[Operand.tmp 60, Operand.tmp 62], argTypes := #[66, 66] }, type := 66, pos := "tape.go:184", after := #[{ on := 4, ground := Ground.data }, { on := 6, ground := Ground.data }], guard := none }) rfl (fun K hK => ?_) (AllReadyH.nil)
        refine step_append_lies _ rfl (.tmp 60) (.tmp 62) 66 rfl B 130 ii (.agg #[.int .i64 0, .int .i64 0, .slice none 0 0]) 3 40 Try.underlying66 hii hi0 hi1 hi2 rfl (by decide) _ fs.length _ rfl hT.of ⟨hpB.size, 0, none⟩ 1 1 [.int .i64 nu, .int .i64 1, .slice A5 m5 c5] rfl rfl hnb (by simp [Value.oneCell']) (by decide) (by unfold maxLen; omega) (by omega) hT.sz _ rfl ?_
        intro gX capX wR7 ho' hg' hor hltX
        have hne6 : some g6 ≠ vf.ownBlock := ne_of_or (hvf g6 hg6)
        have hS3 := And.intro (World.grownBy.cell hg' hS.1 hne6) (And.intro (World.grownBy.cell hg' hS.2.1 hne6) (World.grownBy.cell hg' hS.2.2 hne6))
        refine hK.out _ _ hS3 (fun _ => ?_)
        clear hK K
        try simp only [Act.put, List.setIfInBounds_toArray, List.set_cons_zero, List.set_cons_succ]
        refine wpAnyH_take (i := 8) (oi := { dst := some 64, op := Op.nilCheck (Operand.tmp 56), type := 0, pos := "tape.go:184", after := #[{ on := 0, ground := Ground.data }, { on := 0, ground := Ground.phase }, { on := 1, ground := Ground.phase }, { on := 2, ground := Ground.phase }, { on := 3, ground := Ground.phase }, { on := 4, ground := Ground.phase }, { on := 5, ground := Ground.phase }, { on := 6, ground := Ground.phase }, { on := 7, ground := Ground.phase }], guard := none }) (v := ?_) rfl (by kernel_rfl) (by kernel_rfl) (by kernel_rfl) (fun _ _ _ h => h) (Or.inl ⟨by rfl, ?_⟩) (by assumption) ?_
        rotate_left
        · (intro wS hS; go_simp <;> with_reducible rfl)
        try simp only [Act.put, List.setIfInBounds_toArray, List.set_cons_zero, List.set_cons_succ]
        refine wpAnyH_take (i := 9) (oi := { dst := some 65, op := Op.fieldAddr 69 (Operand.tmp 64) 2, type := 0, pos := "tape.go:184", after := #[{ on := 8, ground := Ground.data }, { on := 0, ground := Ground.phase }, { on := 1, ground := Ground.phase }, { on := 2, ground := Ground.phase }, { on := 3, ground := Ground.phase }, { on := 4, ground := Ground.phase }, { on := 5, ground := Ground.phase }, { on := 6, ground := Ground.phase }, { on := 7, ground := Ground.phase }], guard := none }) (v := ?_) rfl (by kernel_rfl) (by kernel_rfl) (by kernel_rfl) (fun _ _ _ h => h) (Or.inl ⟨by rfl, ?_⟩) (by assumption) ?_
        rotate_left
        · (intro wS hS; go_simp <;> with_reducible rfl)
        try simp only [Act.put, List.setIfInBounds_toArray, List.set_cons_zero, List.set_cons_succ]
        refine wpAnyH_ready (rs := [10]) (by kernel_rfl) (by simp) ?_
        refine AllReadyH.cons (o := { dst := none, op := Op.store 66 (Operand.tmp 65) (Operand.tmp 63), type := 0, pos := "tape.go:184", after := #[{ on := 9, ground := Ground.data }, { on := 7, ground := Ground.data }, { on := 7, ground := Ground.chain }, { on := 0, ground := Ground.phase }, { on := 1, ground := Ground.phase }, { on := 2, ground := Ground.phase }, { on := 3, ground := Ground.phase }, { on := 4, ground := Ground.phase }, { on := 5, ground := Ground.phase }, { on := 6, ground := Ground.phase }, { on := 7, ground := Ground.phase }], guard := none }) rfl (fun K hK => ?_) (AllReadyH.nil)
        have hr7 := gb_heap hg' hT.hs (own_ne' hT.of hP.h1)
        have fz := frozen_heap (o := 4) hr7
        have fy : wR7.cell? ⟨gs, 4, none⟩ = some vf := cell_heap hr7
        have hGs := gb_set wR7 gs 4 (.slice (some ⟨gX, 0, none⟩) (fs.length + 1) capX)
        have hm2 := hmo.kept hg' (own_other hT.of hmo (by decide))
        have h8 := hT.put hP (fs' := fs ++ [⟨nu, 1, A5, m5, c5, bv⟩]) hg' (fun k hk => own_ne' hT.of hk) (fun k hk => (hT.of.lt k hk).1) hGs (set_heap (o := 4) hr7 (.slice (some ⟨gX, 0, none⟩) (fs.length + 1) capX)) (hT.ob.kept hg' (own_other hT.of hT.ob (by decide))) (by rw [List.length_append, ftCs_append]; exact ho') (hT.os.kept hg' (own_other hT.of hT.os (by decide))) (all_snoc (fun f hf => (hT.om f hf).kept hg' (own_other hT.of (hT.om f hf) (by decide))) hm2)
        have hne7 : some g6 ≠ some gs := by (simp; omega)
        have hS4 := And.intro (World.grownBy.cell hGs hS3.1 hne7) (And.intro (World.grownBy.cell hGs hS3.2.1 hne7) (World.grownBy.cell hGs hS3.2.2 hne7))
        have hhB := gb_heap hGs (gb_heap hg' hhA hne6) hne7
        have hm3 := hm2.kept hGs (own_ne hm2 hP.h1)
        go_simp
        refine hK.out _ _ hS4 (fun _ => ?_)
        clear hK K
        try simp only [Act.put, List.setIfInBounds_toArray, List.set_cons_zero, List.set_cons_succ]
        refine wpAnyH_done (by kernel_rfl) ?_ _
        go_wp2_with fail
        go_meet
        exact ⟨rfl, hhB, hm3, _, h8⟩
    case rest =>
      obtain ⟨rfl, hhA, hmo, vf', hT⟩ := hcut
      obtain ⟨hrm, hm5⟩ := Rd.of_own' hmo
      have KD : Hid (Calls Try.prog 93 #[.agg #[.int .i64 nu, .int .i64 1, .slice A5 m5 c5]] wc fun e w' => e = .returned (.string ⟨(harmS nu 1 bv).toArray⟩) ∧ Below wc.heap.size wc w') := Lib.hid (harm_any ⟨nu, 1, A5, m5, c5, bv⟩ wc (by unfold i64; dsimp only; omega) (by rw [hm5]; exact hrm) (by dsimp only; omega))
      have y0 : wc.cell? ⟨g6, 0, none⟩ = some (.int .i64 nu) := cell_heap hhA
      have y1 : wc.cell? ⟨g6, 1, none⟩ = some (.int .i64 1) := cell_heap hhA
      have y2 : wc.cell? ⟨g6, 2, none⟩ = some (.slice A5 m5 c5) := cell_heap hhA
      rw [(HFT 1 A5 m5 c5).out] at hT
      clear hrm hmo HFT hvb hvf hvs hvm hm5
      go_wp2_with fail
      refine KD.out.mono ?_
      rintro e w6 ⟨rfl, hb⟩
      go_wp2_with fail
      go_ret
      exact ⟨rfl, vf', A5, m5, c5, hT.kept hb⟩

set_option maxRecDepth 100000 in
set_option maxHeartbeats 8000000 in
theorem take_cut (W0 : World) (B gs : Nat) (Kp : World → Prop) (x y z : Int) (bl : List Int) (fs : List FtV) (ss : List StV) (vb vf vs : Value) (w : World) (h : TSt W0 B gs Kp x y z bl fs ss vb vf vs w) (hP : TPl W0 B gs)
    (u v : List UInt8) (A : Option Addr) (c : Nat) (hx : RdS w A 3 c [wCut, u, v]) (hu : u.length ≤ 100000 ∧ v.length ≤ 20000) (hN : fs.length ≤ 1000000) :
    Calls Try.prog 124 #[.pointer (some ⟨gs, 0, none⟩), .slice A 3 c] w fun e w' => e = .returned (.string ⟨(harmS (numF u) 2 (bytesW v)).toArray⟩) ∧ ∃ vf' A5 m5 c5, TSt W0 B gs Kp x y z bl (fs ++ [ftOf u 2 A5 m5 c5 v]) ss vb vf' vs w' := by
  obtain ⟨ad, rfl⟩ := hx.some_of_pos (by omega)
  have e0 : w.cell? ad = some (.string ⟨#[99, 117, 116]⟩) := by
    have := hx.scell 0 (by omega)
    have e : ad.add 0 = ad := by unfold Addr.add; simp
    rw [e] at this
    exact this
  have e2 : w.cell? ⟨ad.block, ad.off + 2, none⟩ = some (.string ⟨v.toArray⟩) := by
    have := hx.scell 2 (by simp)
    simpa [Addr.add] using this
  have hab := cell_lt e0
  have hP1 := hP.h1
  have hP5 := hP.h5
  have hBw := h.sz
  have hvb : ∀ k, w.heap.size ≤ k → (vb.ownBlock = none ∨ vb.ownBlock ≠ some k) := fun k hk => .inr (fun e => by have := (h.ob.lt k e).2; omega)
  have hvf : ∀ k, w.heap.size ≤ k → (vf.ownBlock = none ∨ vf.ownBlock ≠ some k) := fun k hk => .inr (fun e => by have := (h.of.lt k e).2; omega)
  have hvs : ∀ k, w.heap.size ≤ k → (vs.ownBlock = none ∨ vs.ownBlock ≠ some k) := fun k hk => .inr (fun e => by have := (h.os.lt k e).2; omega)
  have hvm : ∀ f ∈ fs, ∀ k, w.heap.size ≤ k → ((Value.slice f.A f.m f.c).ownBlock = none ∨ (Value.slice f.A f.m f.c).ownBlock ≠ some k) := fun f hf k hk => .inr (fun e => by have := ((h.om f hf).lt k e).2; omega)
  have hcm := hx.cm
  have hnc := hx.nc
  unfold maxLen at hcm
  have K1 : ∀ W, RdS W (some ad) 3 c [wCut, u, v] → Hid (Calls Try.prog 88 #[.slice (some ad) 3 c, .int .i64 1] W fun e w' => ∃ (A : Option Addr) (m k : Nat), e = .returned (.int .i64 (numF u)) ∧ True ∧ Below W.heap.size W w') := fun W h => Lib.hid ((tnum_any [wCut, u, v] 1 (some ad) 3 c W h (by omega) (by omega) hu.1).mono (fun e w' h => ⟨none, 0, 0, h.1, trivial, h.2⟩))
  have K2 := fun W => Lib.hid (tbytes_own v W (by omega))
  have b1 := numF_bounds u
  unfold farN at b1
  have hbl2 : (bytesW v).length ≤ 10000 := by have := bytesW_len v; omega
  have HFT : ∀ k A m c, Hid ((⟨numF u, k, A, m, c, bytesW v⟩ : FtV) = ftOf u k A m c v) := fun k A m c => Lib.hid rfl
  generalize bytesW v = bv at *
  generalize numF u = nu at *
  clear hu
  go_enter Try.func124, Try.ntmps124
  go_upto_region 9 with fail
  go_cut [6] (fun s6 wx => ∃ g6 A5 m5 c5, s6 = .pointer (some ⟨g6, 0, none⟩) ∧ w.heap.size ≤ g6 ∧ wx.heap[g6]? = some (.cells #[.int .i64 nu, .int .i64 1, .slice A5 m5 c5] 130 (0, 0)) ∧ wx.ownsRow B 5 1 (.slice A5 m5 c5) bv.length (bs bv) ∧ RdS wx (some ad) 3 c [wCut, u, v] ∧ TSt W0 B gs Kp x y z bl fs ss vb vf vs wx)
  case first =>
    have hB := h.sz
    have hws : w.heap.size ≤ w.drew.heap.size := Nat.le_refl _
    replace h := h.kept ((Below.refl w.heap.size w).drew)
    replace hx := hx.below ((Below.refl w.heap.size w).drew)
    replace e2 := cell_below ((Below.refl w.heap.size w).drew) e2
    clear e0
    have hzi : Try.prog.info? 130 = Try.prog.info? 130 := rfl
    refine wp_region_held (S := fun W => W.cell? ⟨ad.block, ad.off + 2, none⟩ = some (.string ⟨v.toArray⟩)) (by kernel_rfl) ?_
    change wpAnyH _ _ _ _ _ _ _ _ (w).drew
    have hS : (fun W => W.cell? ⟨ad.block, ad.off + 2, none⟩ = some (.string ⟨v.toArray⟩)) (w).drew := e2
    generalize (w).drew = wd at hS hx h hws ⊢
    refine wpAnyH_take (i := 0) (oi := { dst := some 44, op := Op.move (Operand.tmp 1), type := 91, pos := "tape.go:180", after := #[], guard := none }) (v := ?_) rfl (by kernel_rfl) (by kernel_rfl) (by kernel_rfl) (fun _ _ _ h => h) (Or.inl ⟨by rfl, ?_⟩) (by assumption) ?_
    rotate_left
    · (intro wS hS; go_simp <;> with_reducible rfl)
    try simp only [Act.put, List.setIfInBounds_toArray, List.set_cons_zero, List.set_cons_succ]
    refine wpAnyH_take (i := 2) (oi := { dst := some 46, op := Op.move (Operand.tmp 1), type := 91, pos := "tape.go:180", after := #[], guard := none }) (v := ?_) rfl (by kernel_rfl) (by kernel_rfl) (by kernel_rfl) (fun _ _ _ h => h) (Or.inl ⟨by rfl, ?_⟩) (by assumption) ?_
    rotate_left
    · (intro wS hS; go_simp <;> with_reducible rfl)
    try simp only [Act.put, List.setIfInBounds_toArray, List.set_cons_zero, List.set_cons_succ]
    refine wpAnyH_take (i := 3) (oi := { dst := some 47, op := Op.indexAddr 91 (Operand.tmp 46) (Operand.const (Value.int IntKind.i64 2)), type := 0, pos := "tape.go:180", after := #[{ on := 2, ground := Ground.data }], guard := none }) (v := ?_) rfl (by kernel_rfl) (by kernel_rfl) (by kernel_rfl) (fun _ _ _ h => h) (Or.inl ⟨by rfl, ?_⟩) (by assumption) ?_
    rotate_left
    · (intro wS hS; go_simp <;> with_reducible rfl)
    try simp only [Act.put, List.setIfInBounds_toArray, List.set_cons_zero, List.set_cons_succ]
    refine wpAnyH_take (i := 4) (oi := { dst := some 48, op := Op.load 9 (Operand.tmp 47), type := 9, pos := "tape.go:180", after := #[{ on := 3, ground := Ground.data }], guard := none }) (v := ?_) rfl (by kernel_rfl) (by kernel_rfl) (by kernel_rfl) (fun _ _ _ h => h) (Or.inl ⟨by rfl, ?_⟩) (by assumption) ?_
    rotate_left
    · (intro wS hS; have q0 := hS; go_simp <;> with_reducible rfl)
    try simp only [Act.put, List.setIfInBounds_toArray, List.set_cons_zero, List.set_cons_succ]
    refine wpAnyH_ready (rs := [1, 7]) (by kernel_rfl) (by simp) ?_
    refine AllReadyH.cons (o := { dst := some 45, op := Op.call { callee := Callee.value (Operand.func 88), args := #[Operand.tmp 44, Operand.const (Value.int IntKind.i64 1)], argTypes := #[91, 3] }, type := 3, pos := "tape.go:180", after := #[{ on := 0, ground := Ground.data }], guard := none }) rfl (fun K hK => ?_) (AllReadyH.cons (o := { dst := some 6, op := Op.alloc 130, type := 0, pos := "tape.go:180", after := #[], guard := none }) rfl (fun K hK => ?_) (AllReadyH.nil))
    · have q0 := hS
      go_simp
      refine (K1 _ hx).out.mono ?_
      rintro e w101 ⟨A5, m5, c5, rfl, hr5, hb⟩
      replace hS : (fun W => W.cell? ⟨ad.block, ad.off + 2, none⟩ = some (.string ⟨v.toArray⟩)) w101 := cell_below hb hS
      try replace hr5 := ownsRow_base hr5 hws
      replace hx := hx.below hb
      replace h := h.kept hb
      replace hws := Nat.le_trans hws hb.size
      refine hK.out _ _ hS (fun _ => ?_)
      clear hK K hb
      try simp only [Act.put, List.setIfInBounds_toArray, List.set_cons_zero, List.set_cons_succ]
      refine wpAnyH_ready (rs := [5, 7]) (by kernel_rfl) (by simp) ?_
      refine AllReadyH.cons (o := { dst := some 49, op := Op.call { callee := Callee.value (Operand.func 89), args := #[Operand.tmp 48], argTypes := #[9] }, type := 53, pos := "tape.go:180", after := #[{ on := 4, ground := Ground.data }, { on := 1, ground := Ground.chain }], guard := none }) rfl (fun K hK => ?_) (AllReadyH.cons (o := { dst := some 6, op := Op.alloc 130, type := 0, pos := "tape.go:180", after := #[], guard := none }) rfl (fun K hK => ?_) (AllReadyH.nil))
      · have q0 := hS
        go_simp
        refine (K2 _).out.mono ?_
        rintro e w105 ⟨A5, m5, c5, rfl, hr5, hb⟩
        replace hS : (fun W => W.cell? ⟨ad.block, ad.off + 2, none⟩ = some (.string ⟨v.toArray⟩)) w105 := cell_below hb hS
        try replace hr5 := ownsRow_base hr5 hws
        replace hx := hx.below hb
        replace h := h.kept hb
        replace hws := Nat.le_trans hws hb.size
        refine hK.out _ _ hS (fun _ => ?_)
        clear hK K hb
        try simp only [Act.put, List.setIfInBounds_toArray, List.set_cons_zero, List.set_cons_succ]
        refine wpAnyH_take (i := 6) (oi := { dst := some 50, op := Op.build 130 #[(0, Operand.tmp 45), (1, Operand.const (Value.int IntKind.i64 1)), (2, Operand.tmp 49)], type := 130, pos := "tape.go:180", after := #[{ on := 1, ground := Ground.data }, { on := 5, ground := Ground.data }], guard := none }) (v := ?_) rfl (by kernel_rfl) (by kernel_rfl) (by kernel_rfl) (fun _ _ _ h => h) (Or.inl ⟨by rfl, ?_⟩) (by assumption) ?_
        rotate_left
        · (intro wS hS; go_simp <;> with_reducible rfl)
        try simp only [Act.put, List.setIfInBounds_toArray, List.set_cons_zero, List.set_cons_succ]
        refine wpAnyH_ready (rs := [7]) (by kernel_rfl) (by simp) ?_
        refine AllReadyH.cons (o := { dst := some 6, op := Op.alloc 130, type := 0, pos := "tape.go:180", after := #[], guard := none }) rfl (fun K hK => ?_) (AllReadyH.nil)
        go_simp
        have hbA := (one_cells w105 #[.int .i64 0, .int .i64 0, .slice none 0 0] 130).1
        have hhA := alloc_new w105 (.cells #[.int .i64 0, .int .i64 0, .slice none 0 0] 130 (0, 0))
        try replace hr5 := own_below hr5 hbA
        replace hx := hx.below hbA
        replace h := h.kept hbA
        have hws0 := hws
        replace hws := Nat.le_trans hws hbA.size
        replace hS := cell_below hbA hS
        refine hK.out _ _ hS (fun _ => ?_)
        clear hK K hbA
        try simp only [Act.put, List.setIfInBounds_toArray, List.set_cons_zero, List.set_cons_succ]
        generalize hgB2 : World.heap w105 = hpB at *
        generalize World.alloc w105 (.cells #[.int .i64 0, .int .i64 0, .slice none 0 0] 130) = wA at *
        clear hgB2
        refine wpAnyH_ready (rs := [8]) (by kernel_rfl) (by simp) ?_
        refine AllReadyH.cons (o := { dst := none, op := Op.store 130 (Operand.tmp 6) (Operand.tmp 50), type := 0, pos := "tape.go:180", after := #[{ on := 7, ground := Ground.data }, { on := 6, ground := Ground.data }, { on := 5, ground := Ground.chain }, { on := 0, ground := Ground.phase }, { on := 1, ground := Ground.phase }, { on := 2, ground := Ground.phase }, { on := 3, ground := Ground.phase }, { on := 4, ground := Ground.phase }, { on := 5, ground := Ground.phase }, { on := 6, ground := Ground.phase }, { on := 7, ground := Ground.phase }], guard := none }) rfl (fun K hK => ?_) (AllReadyH.nil)
        have hh5 := set_heap (o := 2) (set_heap (o := 1) (set_heap (o := 0) hhA (.int .i64 nu)) (.int .i64 1)) (.slice A5 m5 c5)
        have hG5 := ((gb_set wA hpB.size 0 (.int .i64 nu)).trans (gb_set _ hpB.size 1 (.int .i64 1))).trans (gb_set _ hpB.size 2 (.slice A5 m5 c5))
        have y0 := cell_heap (o := 0) hhA
        have y1 := cell_heap (o := 1) hhA
        have y2 := cell_heap (o := 2) hhA
        have k0 := frozen_heap (o := 0) hhA
        have k1 := frozen_heap (o := 1) hhA
        have k2 := frozen_heap (o := 2) hhA
        go_simp
        refine hK.out _ _ (World.grownBy.cell hG5 hS (by simp; omega)) (fun _ => ?_)
        clear hK K
        try simp only [Act.put, List.setIfInBounds_toArray, List.set_cons_zero, List.set_cons_succ]
        refine wpAnyH_done (by kernel_rfl) ?_ _
        go_wp2_with fail
        go_meet
        exact ⟨hpB.size, A5, m5, c5, rfl, hws0, hh5, (ownsRow_base hr5 hB).kept hG5 (own_ne6 (ownsRow_base hr5 hB) hhA (by decide)), hx.kept hG5 (fun ad2 e => by cases e; simp; omega), h.other hG5 (by omega) (by omega) (by omega) (hvb _ hws0) (hvf _ hws0) (hvs _ hws0) (fun f hf => hvm f hf _ hws0)⟩
      · go_simp
        have hbA := (one_cells w101 #[.int .i64 0, .int .i64 0, .slice none 0 0] 130).1
        have hhA := alloc_new w101 (.cells #[.int .i64 0, .int .i64 0, .slice none 0 0] 130 (0, 0))
        try replace hr5 := own_below hr5 hbA
        replace hx := hx.below hbA
        replace h := h.kept hbA
        have hws0 := hws
        replace hws := Nat.le_trans hws hbA.size
        replace hS := cell_below hbA hS
        refine hK.out _ _ hS (fun _ => ?_)
        clear hK K hbA
        try simp only [Act.put, List.setIfInBounds_toArray, List.set_cons_zero, List.set_cons_succ]
        generalize hgB2 : World.heap w101 = hpB at *
        generalize World.alloc w101 (.cells #[.int .i64 0, .int .i64 0, .slice none 0 0] 130) = wA at *
        clear hgB2
        refine wpAnyH_ready (rs := [5]) (by kernel_rfl) (by simp) ?_
        refine AllReadyH.cons (o := { dst := some 49, op := Op.call { callee := Callee.value (Operand.func 89), args := #[Operand.tmp 48], argTypes := #[9] }, type := 53, pos := "tape.go:180", after := #[{ on := 4, ground := Ground.data }, { on := 1, ground := Ground.chain }], guard := none }) rfl (fun K hK => ?_) (AllReadyH.nil)
        have q0 := hS
        go_simp
        refine (K2 _).out.mono ?_
        rintro e w105 ⟨A5, m5, c5, rfl, hr5, hb⟩
        replace hS : (fun W => W.cell? ⟨ad.block, ad.off + 2, none⟩ = some (.string ⟨v.toArray⟩)) w105 := cell_below hb hS
        try replace hr5 := ownsRow_base hr5 hws
        replace hx := hx.below hb
        replace h := h.kept hb
        replace hws := Nat.le_trans hws hb.size
        replace hhA := heap_below hb hhA
        refine hK.out _ _ hS (fun _ => ?_)
        clear hK K hb
        try simp only [Act.put, List.setIfInBounds_toArray, List.set_cons_zero, List.set_cons_succ]
        refine wpAnyH_take (i := 6) (oi := { dst := some 50, op := Op.build 130 #[(0, Operand.tmp 45), (1, Operand.const (Value.int IntKind.i64 1)), (2, Operand.tmp 49)], type := 130, pos := "tape.go:180", after := #[{ on := 1, ground := Ground.data }, { on := 5, ground := Ground.data }], guard := none }) (v := ?_) rfl (by kernel_rfl) (by kernel_rfl) (by kernel_rfl) (fun _ _ _ h => h) (Or.inl ⟨by rfl, ?_⟩) (by assumption) ?_
        rotate_left
        · (intro wS hS; go_simp <;> with_reducible rfl)
        try simp only [Act.put, List.setIfInBounds_toArray, List.set_cons_zero, List.set_cons_succ]
        refine wpAnyH_ready (rs := [8]) (by kernel_rfl) (by simp) ?_
        refine AllReadyH.cons (o := { dst := none, op := Op.store 130 (Operand.tmp 6) (Operand.tmp 50), type := 0, pos := "tape.go:180", after := #[{ on := 7, ground := Ground.data }, { on := 6, ground := Ground.data }, { on := 5, ground := Ground.chain }, { on := 0, ground := Ground.phase }, { on := 1, ground := Ground.phase }, { on := 2, ground := Ground.phase }, { on := 3, ground := Ground.phase }, { on := 4, ground := Ground.phase }, { on := 5, ground := Ground.phase }, { on := 6, ground := Ground.phase }, { on := 7, ground := Ground.phase }], guard := none }) rfl (fun K hK => ?_) (AllReadyH.nil)
        have hh5 := set_heap (o := 2) (set_heap (o := 1) (set_heap (o := 0) hhA (.int .i64 nu)) (.int .i64 1)) (.slice A5 m5 c5)
        have hG5 := ((gb_set w105 hpB.size 0 (.int .i64 nu)).trans (gb_set _ hpB.size 1 (.int .i64 1))).trans (gb_set _ hpB.size 2 (.slice A5 m5 c5))
        have y0 := cell_heap (o := 0) hhA
        have y1 := cell_heap (o := 1) hhA
        have y2 := cell_heap (o := 2) hhA
        have k0 := frozen_heap (o := 0) hhA
        have k1 := frozen_heap (o := 1) hhA
        have k2 := frozen_heap (o := 2) hhA
        go_simp
        refine hK.out _ _ (World.grownBy.cell hG5 hS (by simp; omega)) (fun _ => ?_)
        clear hK K
        try simp only [Act.put, List.setIfInBounds_toArray, List.set_cons_zero, List.set_cons_succ]
        refine wpAnyH_done (by kernel_rfl) ?_ _
        go_wp2_with fail
        go_meet
        exact ⟨hpB.size, A5, m5, c5, rfl, hws0, hh5, (ownsRow_base hr5 hB).kept hG5 (own_ne6 (ownsRow_base hr5 hB) hhA (by decide)), hx.kept hG5 (fun ad2 e => by cases e; simp; omega), h.other hG5 (by omega) (by omega) (by omega) (hvb _ hws0) (hvf _ hws0) (hvs _ hws0) (fun f hf => hvm f hf _ hws0)⟩
    · go_simp
      have hbA := (one_cells wd #[.int .i64 0, .int .i64 0, .slice none 0 0] 130).1
      have hhA := alloc_new wd (.cells #[.int .i64 0, .int .i64 0, .slice none 0 0] 130 (0, 0))
      try replace hr5 := own_below hr5 hbA
      replace hx := hx.below hbA
      replace h := h.kept hbA
      have hws0 := hws
      replace hws := Nat.le_trans hws hbA.size
      replace hS := cell_below hbA hS
      refine hK.out _ _ hS (fun _ => ?_)
      clear hK K hbA
      try simp only [Act.put, List.setIfInBounds_toArray, List.set_cons_zero, List.set_cons_succ]
      generalize hgB2 : World.heap wd = hpB at *
      generalize World.alloc wd (.cells #[.int .i64 0, .int .i64 0, .slice none 0 0] 130) = wA at *
      clear hgB2
      refine wpAnyH_ready (rs := [1]) (by kernel_rfl) (by simp) ?_
      refine AllReadyH.cons (o := { dst := some 45, op := Op.call { callee := Callee.value (Operand.func 88), args := #[Operand.tmp 44, Operand.const (Value.int IntKind.i64 1)], argTypes := #[91, 3] }, type := 3, pos := "tape.go:180", after := #[{ on := 0, ground := Ground.data }], guard := none }) rfl (fun K hK => ?_) (AllReadyH.nil)
      have q0 := hS
      go_simp
      refine (K1 _ hx).out.mono ?_
      rintro e w101 ⟨A5, m5, c5, rfl, hr5, hb⟩
      replace hS : (fun W => W.cell? ⟨ad.block, ad.off + 2, none⟩ = some (.string ⟨v.toArray⟩)) w101 := cell_below hb hS
      try replace hr5 := ownsRow_base hr5 hws
      replace hx := hx.below hb
      replace h := h.kept hb
      replace hws := Nat.le_trans hws hb.size
      replace hhA := heap_below hb hhA
      refine hK.out _ _ hS (fun _ => ?_)
      clear hK K hb
      try simp only [Act.put, List.setIfInBounds_toArray, List.set_cons_zero, List.set_cons_succ]
      refine wpAnyH_ready (rs := [5]) (by kernel_rfl) (by simp) ?_
      refine AllReadyH.cons (o := { dst := some 49, op := Op.call { callee := Callee.value (Operand.func 89), args := #[Operand.tmp 48], argTypes := #[9] }, type := 53, pos := "tape.go:180", after := #[{ on := 4, ground := Ground.data }, { on := 1, ground := Ground.chain }], guard := none }) rfl (fun K hK => ?_) (AllReadyH.nil)
      have q0 := hS
      go_simp
      refine (K2 _).out.mono ?_
      rintro e w105 ⟨A5, m5, c5, rfl, hr5, hb⟩
      replace hS : (fun W => W.cell? ⟨ad.block, ad.off + 2, none⟩ = some (.string ⟨v.toArray⟩)) w105 := cell_below hb hS
      try replace hr5 := ownsRow_base hr5 hws
      replace hx := hx.below hb
      replace h := h.kept hb
      replace hws := Nat.le_trans hws hb.size
      replace hhA := heap_below hb hhA
      refine hK.out _ _ hS (fun _ => ?_)
      clear hK K hb
      try simp only [Act.put, List.setIfInBounds_toArray, List.set_cons_zero, List.set_cons_succ]
      refine wpAnyH_take (i := 6) (oi := { dst := some 50, op := Op.build 130 #[(0, Operand.tmp 45), (1, Operand.const (Value.int IntKind.i64 1)), (2, Operand.tmp 49)], type := 130, pos := "tape.go:180", after := #[{ on := 1, ground := Ground.data }, { on := 5, ground := Ground.data }], guard := none }) (v := ?_) rfl (by kernel_rfl) (by kernel_rfl) (by kernel_rfl) (fun _ _ _ h => h) (Or.inl ⟨by rfl, ?_⟩) (by assumption) ?_
      rotate_left
      · (intro wS hS; go_simp <;> with_reducible rfl)
      try simp only [Act.put, List.setIfInBounds_toArray, List.set_cons_zero, List.set_cons_succ]
      refine wpAnyH_ready (rs := [8]) (by kernel_rfl) (by simp) ?_
      refine AllReadyH.cons (o := { dst := none, op := Op.store 130 (Operand.tmp 6) (Operand.tmp 50), type := 0, pos := "tape.go:180", after := #[{ on := 7, ground := Ground.data }, { on := 6, ground := Ground.data }, { on := 5, ground := Ground.chain }, { on := 0, ground := Ground.phase }, { on := 1, ground := Ground.phase }, { on := 2, ground := Ground.phase }, { on := 3, ground := Ground.phase }, { on := 4, ground := Ground.phase }, { on := 5, ground := Ground.phase }, { on := 6, ground := Ground.phase }, { on := 7, ground := Ground.phase }], guard := none }) rfl (fun K hK => ?_) (AllReadyH.nil)
      have hh5 := set_heap (o := 2) (set_heap (o := 1) (set_heap (o := 0) hhA (.int .i64 nu)) (.int .i64 1)) (.slice A5 m5 c5)
      have hG5 := ((gb_set w105 hpB.size 0 (.int .i64 nu)).trans (gb_set _ hpB.size 1 (.int .i64 1))).trans (gb_set _ hpB.size 2 (.slice A5 m5 c5))
      have y0 := cell_heap (o := 0) hhA
      have y1 := cell_heap (o := 1) hhA
      have y2 := cell_heap (o := 2) hhA
      have k0 := frozen_heap (o := 0) hhA
      have k1 := frozen_heap (o := 1) hhA
      have k2 := frozen_heap (o := 2) hhA
      go_simp
      refine hK.out _ _ (World.grownBy.cell hG5 hS (by simp; omega)) (fun _ => ?_)
      clear hK K
      try simp only [Act.put, List.setIfInBounds_toArray, List.set_cons_zero, List.set_cons_succ]
      refine wpAnyH_done (by kernel_rfl) ?_ _
      go_wp2_with fail
      go_meet
      exact ⟨hpB.size, A5, m5, c5, rfl, hws0, hh5, (ownsRow_base hr5 hB).kept hG5 (own_ne6 (ownsRow_base hr5 hB) hhA (by decide)), hx.kept hG5 (fun ad2 e => by cases e; simp; omega), h.other hG5 (by omega) (by omega) (by omega) (hvb _ hws0) (hvf _ hws0) (hvs _ hws0) (fun f hf => hvm f hf _ hws0)⟩
  case rest =>
    obtain ⟨g6, A5, m5, c5, rfl, hg6, hhA, hmo, hx, hT⟩ := hcut
    clear K1 K2 h e2
    have d1 : wc.cell? ad = some (.string ⟨#[99, 117, 116]⟩) := by
      have := hx.scell 0 (by omega)
      have e : ad.add 0 = ad := by unfold Addr.add; simp
      rw [e] at this
      exact this
    have y0 := cell_heap (o := 0) hhA
    have y1 := cell_heap (o := 1) hhA
    have y2 := cell_heap (o := 2) hhA
    have k0 := frozen_heap (o := 0) hhA
    have k1 := frozen_heap (o := 1) hhA
    have k2 := frozen_heap (o := 2) hhA
    have hhB := set_heap (o := 1) hhA (.int .i64 2)
    have hGk := gb_set wc g6 1 (.int .i64 2)
    have h6 := hT.other hGk (by omega) (by omega) (by omega) (hvb _ hg6) (hvf _ hg6) (hvs _ hg6) (fun f hf => hvm f hf _ hg6)
    have hxk := hx.kept hGk (fun ad2 e => by cases e; simp; omega)
    have hmk := hmo.kept hGk (own_ne6 hmo hhA (by decide))
    go_upto_region 12 with fail
    generalize wc.setCell ⟨g6, 1, none⟩ (.int .i64 2) = w5 at *
    clear d1 y0 y1 y2 k0 k1 k2 hGk hhA hT hmo hx
    have hhA := hhB
    have hT := h6
    have hmo := hmk
    clear hhB h6 hmk
    replace hT := hT.kept ((Below.refl w5.heap.size w5).drew)
    replace hhA := heap_below ((Below.refl w5.heap.size w5).drew) hhA
    replace hmo := own_below hmo ((Below.refl w5.heap.size w5).drew)
    have hS0 : w5.drew.cell? ⟨g6, 0, none⟩ = some (.int .i64 nu) ∧ w5.drew.cell? ⟨g6, 1, none⟩ = some (.int .i64 2) ∧ w5.drew.cell? ⟨g6, 2, none⟩ = some (.slice A5 m5 c5) := ⟨cell_heap hhA, cell_heap hhA, cell_heap hhA⟩
    obtain ⟨ii, hii, hi0, hi1, hi2⟩ := info_parts info_ft
    go_cut [6] (fun s6 wx => s6 = .pointer (some ⟨g6, 0, none⟩) ∧ wx.heap[g6]? = some (.cells #[.int .i64 nu, .int .i64 2, .slice A5 m5 c5] 130 (0, 0)) ∧ wx.ownsRow B 5 1 (.slice A5 m5 c5) bv.length (bs bv) ∧ ∃ vf', TSt W0 B gs Kp x y z bl (fs ++ [⟨nu, 2, A5, m5, c5, bv⟩]) ss vb vf' vs wx)
    case first =>
      refine wp_region_held (S := fun W => W.cell? ⟨g6, 0, none⟩ = some (.int .i64 nu) ∧ W.cell? ⟨g6, 1, none⟩ = some (.int .i64 2) ∧ W.cell? ⟨g6, 2, none⟩ = some (.slice A5 m5 c5)) (by kernel_rfl) ?_
      change wpAnyH _ _ _ _ _ _ _ _ (w5).drew
      have hS : (fun W => W.cell? ⟨g6, 0, none⟩ = some (.int .i64 nu) ∧ W.cell? ⟨g6, 1, none⟩ = some (.int .i64 2) ∧ W.cell? ⟨g6, 2, none⟩ = some (.slice A5 m5 c5)) (w5).drew := hS0
      generalize (w5).drew = wd at hS hT hhA hmo ⊢
      refine wpAnyH_take (i := 0) (oi := { dst := some 56, op := Op.move (Operand.tmp 0), type := 163, pos := "tape.go:184", after := #[], guard := none }) (v := ?_) rfl (by kernel_rfl) (by kernel_rfl) (by kernel_rfl) (fun _ _ _ h => h) (Or.inl ⟨by rfl, ?_⟩) (by assumption) ?_
      rotate_left
      · (intro wS hS; go_simp <;> with_reducible rfl)
      try simp only [Act.put, List.setIfInBounds_toArray, List.set_cons_zero, List.set_cons_succ]
      refine wpAnyH_take (i := 1) (oi := { dst := some 57, op := Op.move (Operand.tmp 0), type := 163, pos := "tape.go:184", after := #[], guard := none }) (v := ?_) rfl (by kernel_rfl) (by kernel_rfl) (by kernel_rfl) (fun _ _ _ h => h) (Or.inl ⟨by rfl, ?_⟩) (by assumption) ?_
      rotate_left
      · (intro wS hS; go_simp <;> with_reducible rfl)
      try simp only [Act.put, List.setIfInBounds_toArray, List.set_cons_zero, List.set_cons_succ]
      refine wpAnyH_take (i := 2) (oi := { dst := some 58, op := Op.nilCheck (Operand.tmp 57), type := 0, pos := "tape.go:184", after := #[{ on := 1, ground := Ground.data }], guard := none }) (v := ?_) rfl (by kernel_rfl) (by kernel_rfl) (by kernel_rfl) (fun _ _ _ h => h) (Or.inl ⟨by rfl, ?_⟩) (by assumption) ?_
      rotate_left
      · (intro wS hS; go_simp <;> with_reducible rfl)
      try simp only [Act.put, List.setIfInBounds_toArray, List.set_cons_zero, List.set_cons_succ]
      refine wpAnyH_take (i := 3) (oi := { dst := some 59, op := Op.fieldAddr 69 (Operand.tmp 58) 2, type := 0, pos := "tape.go:184", after := #[{ on := 2, ground := Ground.data }], guard := none }) (v := ?_) rfl (by kernel_rfl) (by kernel_rfl) (by kernel_rfl) (fun _ _ _ h => h) (Or.inl ⟨by rfl, ?_⟩) (by assumption) ?_
      rotate_left
      · (intro wS hS; go_simp <;> with_reducible rfl)
      try simp only [Act.put, List.setIfInBounds_toArray, List.set_cons_zero, List.set_cons_succ]
      refine wpAnyH_take (i := 5) (oi := { dst := some 61, op := Op.load 130 (Operand.tmp 6), type := 130, pos := "tape.go:184", after := #[], guard := none }) (v := ?_) rfl (by kernel_rfl) (by kernel_rfl) (by kernel_rfl) (fun _ _ _ h => h) (Or.inl ⟨by rfl, ?_⟩) (by assumption) ?_
      rotate_left
      · (intro wS hS; have q0 := hS.1; have q1 := hS.2.1; have q2 := hS.2.2; go_simp <;> with_reducible rfl)
      try simp only [Act.put, List.setIfInBounds_toArray, List.set_cons_zero, List.set_cons_succ]
      refine wpAnyH_ready (rs := [4, 6]) (by kernel_rfl) (by simp) ?_
      refine AllReadyH.cons (o := { dst := some 60, op := Op.load 66 (Operand.tmp 59), type := 66, pos := "tape.go:184", after := #[{ on := 3, ground := Ground.data }], guard := none }) rfl (fun K hK => ?_) (AllReadyH.cons (o := { dst := some 62, op := Op.buildSlice 66 1 #[(0, Operand.tmp 61)], type := 66, pos := "tape.go:184", after := #[{ on := 5, ground := Ground.data }], guard := none }) rfl (fun K hK => ?_) (AllReadyH.nil))
      · have k3 := cell_heap (o := 4) hT.hs
        go_simp
        refine hK.out _ _ hS (fun _ => ?_)
        clear hK K k3
        try simp only [Act.put, List.setIfInBounds_toArray, List.set_cons_zero, List.set_cons_succ]
        refine wpAnyH_ready (rs := [6]) (by kernel_rfl) (by simp) ?_
        refine AllReadyH.cons (o := { dst := some 62, op := Op.buildSlice 66 1 #[(0, Operand.tmp 61)], type := 66, pos := "tape.go:184", after := #[{ on := 5, ground := Ground.data }], guard := none }) rfl (fun K hK => ?_) (AllReadyH.nil)
        go_simp
        have hbA := (one_cells wd #[.int .i64 nu, .int .i64 2, .slice A5 m5 c5] 130).1
        have hnb := World.news_of_block (alloc_new wd (.cells #[.int .i64 nu, .int .i64 2, .slice A5 m5 c5] 130 (0, 0)))
        replace hT := hT.kept hbA
        replace hhA := heap_below hbA hhA
        replace hmo := own_below hmo hbA
        have hS2 := And.intro (cell_below hbA hS.1) (And.intro (cell_below hbA hS.2.1) (cell_below hbA hS.2.2))
        refine hK.out _ _ hS2 (fun _ => ?_)
        clear hK K hbA hS
        have hS := hS2
        clear hS2
        try simp only [Act.put, List.setIfInBounds_toArray, List.set_cons_zero, List.set_cons_succ]
        generalize hgB2 : World.heap wd = hpB at *
        generalize World.alloc wd (.cells #[.int .i64 nu, .int .i64 2, .slice A5 m5 c5] 130) = wA at *
        clear hgB2
        refine wpAnyH_ready (rs := [7]) (by kernel_rfl) (by simp) ?_
        refine AllReadyH.cons (o := { dst := some 63, op := Op.call { callee := Callee.builtin Builtin.append, args := #[Operand.tmp 60, Operand.tmp 62], argTypes := #[66, 66] }, type := 66, pos := "tape.go:184", after := #[{ on := 4, ground := Ground.data }, { on := 6, ground := Ground.data }], guard := none }) rfl (fun K hK => ?_) (AllReadyH.nil)
        refine step_append_lies _ rfl (.tmp 60) (.tmp 62) 66 rfl B 130 ii (.agg #[.int .i64 0, .int .i64 0, .slice none 0 0]) 3 40 Try.underlying66 hii hi0 hi1 hi2 rfl (by decide) _ fs.length _ rfl hT.of ⟨hpB.size, 0, none⟩ 1 1 [.int .i64 nu, .int .i64 2, .slice A5 m5 c5] rfl rfl hnb (by simp [Value.oneCell']) (by decide) (by unfold maxLen; omega) (by omega) hT.sz _ rfl ?_
        intro gX capX wR7 ho' hg' hor hltX
        have hne6 : some g6 ≠ vf.ownBlock := ne_of_or (hvf g6 hg6)
        have hS3 := And.intro (World.grownBy.cell hg' hS.1 hne6) (And.intro (World.grownBy.cell hg' hS.2.1 hne6) (World.grownBy.cell hg' hS.2.2 hne6))
        refine hK.out _ _ hS3 (fun _ => ?_)
        clear hK K
        try simp only [Act.put, List.setIfInBounds_toArray, List.set_cons_zero, List.set_cons_succ]
        refine wpAnyH_take (i := 8) (oi := { dst := some 64, op := Op.nilCheck (Operand.tmp 56), type := 0, pos := "tape.go:184", after := #[{ on := 0, ground := Ground.data }, { on := 0, ground := Ground.phase }, { on := 1, ground := Ground.phase }, { on := 2, ground := Ground.phase }, { on := 3, ground := Ground.phase }, { on := 4, ground := Ground.phase }, { on := 5, ground := Ground.phase }, { on := 6, ground := Ground.phase }, { on := 7, ground := Ground.phase }], guard := none }) (v := ?_) rfl (by kernel_rfl) (by kernel_rfl) (by kernel_rfl) (fun _ _ _ h => h) (Or.inl ⟨by rfl, ?_⟩) (by assumption) ?_
        rotate_left
        · (intro wS hS; go_simp <;> with_reducible rfl)
        try simp only [Act.put, List.setIfInBounds_toArray, List.set_cons_zero, List.set_cons_succ]
        refine wpAnyH_take (i := 9) (oi := { dst := some 65, op := Op.fieldAddr 69 (Operand.tmp 64) 2, type := 0, pos := "tape.go:184", after := #[{ on := 8, ground := Ground.data }, { on := 0, ground := Ground.phase }, { on := 1, ground := Ground.phase }, { on := 2, ground := Ground.phase }, { on := 3, ground := Ground.phase }, { on := 4, ground := Ground.phase }, { on := 5, ground := Ground.phase }, { on := 6, ground := Ground.phase }, { on := 7, ground := Ground.phase }], guard := none }) (v := ?_) rfl (by kernel_rfl) (by kernel_rfl) (by kernel_rfl) (fun _ _ _ h => h) (Or.inl ⟨by rfl, ?_⟩) (by assumption) ?_
        rotate_left
        · (intro wS hS; go_simp <;> with_reducible rfl)
        try simp only [Act.put, List.setIfInBounds_toArray, List.set_cons_zero, List.set_cons_succ]
        refine wpAnyH_ready (rs := [10]) (by kernel_rfl) (by simp) ?_
        refine AllReadyH.cons (o := { dst := none, op := Op.store 66 (Operand.tmp 65) (Operand.tmp 63), type := 0, pos := "tape.go:184", after := #[{ on := 9, ground := Ground.data }, { on := 7, ground := Ground.data }, { on := 7, ground := Ground.chain }, { on := 0, ground := Ground.phase }, { on := 1, ground := Ground.phase }, { on := 2, ground := Ground.phase }, { on := 3, ground := Ground.phase }, { on := 4, ground := Ground.phase }, { on := 5, ground := Ground.phase }, { on := 6, ground := Ground.phase }, { on := 7, ground := Ground.phase }], guard := none }) rfl (fun K hK => ?_) (AllReadyH.nil)
        have hr7 := gb_heap hg' hT.hs (own_ne' hT.of hP.h1)
        have fz := frozen_heap (o := 4) hr7
        have fy : wR7.cell? ⟨gs, 4, none⟩ = some vf := cell_heap hr7
        have hGs := gb_set wR7 gs 4 (.slice (some ⟨gX, 0, none⟩) (fs.length + 1) capX)
        have hm2 := hmo.kept hg' (own_other hT.of hmo (by decide))
        have h8 := hT.put hP (fs' := fs ++ [⟨nu, 2, A5, m5, c5, bv⟩]) hg' (fun k hk => own_ne' hT.of hk) (fun k hk => (hT.of.lt k hk).1) hGs (set_heap (o := 4) hr7 (.slice (some ⟨gX, 0, none⟩) (fs.length + 1) capX)) (hT.ob.kept hg' (own_other hT.of hT.ob (by decide))) (by rw [List.length_append, ftCs_append]; exact ho') (hT.os.kept hg' (own_other hT.of hT.os (by decide))) (all_snoc (fun f hf => (hT.om f hf).kept hg' (own_other hT.of (hT.om f hf) (by decide))) hm2)
        have hne7 : some g6 ≠ some gs := by (simp; omega)
        have hS4 := And.intro (World.grownBy.cell hGs hS3.1 hne7) (And.intro (World.grownBy.cell hGs hS3.2.1 hne7) (World.grownBy.cell hGs hS3.2.2 hne7))
        have hhB := gb_heap hGs (gb_heap hg' hhA hne6) hne7
        have hm3 := hm2.kept hGs (own_ne hm2 hP.h1)
        go_simp
        refine hK.out _ _ hS4 (fun _ => ?_)
        clear hK K
        try simp only [Act.put, List.setIfInBounds_toArray, List.set_cons_zero, List.set_cons_succ]
        refine wpAnyH_done (by kernel_rfl) ?_ _
        go_wp2_with fail
        go_meet
        exact ⟨rfl, hhB, hm3, _, h8⟩
      · go_simp
        have hbA := (one_cells wd #[.int .i64 nu, .int .i64 2, .slice A5 m5 c5] 130).1
        have hnb := World.news_of_block (alloc_new wd (.cells #[.int .i64 nu, .int .i64 2, .slice A5 m5 c5] 130 (0, 0)))
        replace hT := hT.kept hbA
        replace hhA := heap_below hbA hhA
        replace hmo := own_below hmo hbA
        have hS2 := And.intro (cell_below hbA hS.1) (And.intro (cell_below hbA hS.2.1) (cell_below hbA hS.2.2))
        refine hK.out _ _ hS2 (fun _ => ?_)
        clear hK K hbA hS
        have hS := hS2
        clear hS2
        try simp only [Act.put, List.setIfInBounds_toArray, List.set_cons_zero, List.set_cons_succ]
        generalize hgB2 : World.heap wd = hpB at *
        generalize World.alloc wd (.cells #[.int .i64 nu, .int .i64 2, .slice A5 m5 c5] 130) = wA at *
        clear hgB2
        refine wpAnyH_ready (rs := [4]) (by kernel_rfl) (by simp) ?_
        refine AllReadyH.cons (o := { dst := some 60, op := Op.load 66 (Operand.tmp 59), type := 66, pos := "tape.go:184", after := #[{ on := 3, ground := Ground.data }], guard := none }) rfl (fun K hK => ?_) (AllReadyH.nil)
        have k3 := cell_heap (o := 4) hT.hs
        go_simp
        refine hK.out _ _ hS (fun _ => ?_)
        clear hK K k3
        try simp only [Act.put, List.setIfInBounds_toArray, List.set_cons_zero, List.set_cons_succ]
        refine wpAnyH_ready (rs := [7]) (by kernel_rfl) (by simp) ?_
        refine AllReadyH.cons (o := { dst := some 63, op := Op.call { callee := Callee.builtin Builtin.append, args := #[Operand.tmp 60, Operand.tmp 62], argTypes := #[66, 66] }, type := 66, pos := "tape.go:184", after := #[{ on := 4, ground := Ground.data }, { on := 6, ground := Ground.data }], guard := none }) rfl (fun K hK => ?_) (AllReadyH.nil)
        refine step_append_lies _ rfl (.tmp 60) (.tmp 62) 66 rfl B 130 ii (.agg #[.int .i64 0, .int .i64 0, .slice none 0 0]) 3 40 Try.underlying66 hii hi0 hi1 hi2 rfl (by decide) _ fs.length _ rfl hT.of ⟨hpB.size, 0, none⟩ 1 1 [.int .i64 nu, .int .i64 2, .slice A5 m5 c5] rfl rfl hnb (by simp [Value.oneCell']) (by decide) (by unfold maxLen; omega) (by omega) hT.sz _ rfl ?_
        intro gX capX wR7 ho' hg' hor hltX
        have hne6 : some g6 ≠ vf.ownBlock := ne_of_or (hvf g6 hg6)
        have hS3 := And.intro (World.grownBy.cell hg' hS.1 hne6) (And.intro (World.grownBy.cell hg' hS.2.1 hne6) (World.grownBy.cell hg' hS.2.2 hne6))
        refine hK.out _ _ hS3 (fun _ => ?_)
        clear hK K
        try simp only [Act.put, List.setIfInBounds_toArray, List.set_cons_zero, List.set_cons_succ]
        refine wpAnyH_take (i := 8) (oi := { dst := some 64, op := Op.nilCheck (Operand.tmp 56), type := 0, pos := "tape.go:184", after := #[{ on := 0, ground := Ground.data }, { on := 0, ground := Ground.phase }, { on := 1, ground := Ground.phase }, { on := 2, ground := Ground.phase }, { on := 3, ground := Ground.phase }, { on := 4, ground := Ground.phase }, { on := 5, ground := Ground.phase }, { on := 6, ground := Ground.phase }, { on := 7, ground := Ground.phase }], guard := none }) (v := ?_) rfl (by kernel_rfl) (by kernel_rfl) (by kernel_rfl) (fun _ _ _ h => h) (Or.inl ⟨by rfl, ?_⟩) (by assumption) ?_
        rotate_left
        · (intro wS hS; go_simp <;> with_reducible rfl)
        try simp only [Act.put, List.setIfInBounds_toArray, List.set_cons_zero, List.set_cons_succ]
        refine wpAnyH_take (i := 9) (oi := { dst := some 65, op := Op.fieldAddr 69 (Operand.tmp 64) 2, type := 0, pos := "tape.go:184", after := #[{ on := 8, ground := Ground.data }, { on := 0, ground := Ground.phase }, { on := 1, ground := Ground.phase }, { on := 2, ground := Ground.phase }, { on := 3, ground := Ground.phase }, { on := 4, ground := Ground.phase }, { on := 5, ground := Ground.phase }, { on := 6, ground := Ground.phase }, { on := 7, ground := Ground.phase }], guard := none }) (v := ?_) rfl (by kernel_rfl) (by kernel_rfl) (by kernel_rfl) (fun _ _ _ h => h) (Or.inl ⟨by rfl, ?_⟩) (by assumption) ?_
        rotate_left
        · (intro wS hS; go_simp <;> with_reducible rfl)
        try simp only [Act.put, List.setIfInBounds_toArray, List.set_cons_zero, List.set_cons_succ]
        refine wpAnyH_ready (rs := [10]) (by kernel_rfl) (by simp) ?_
        refine AllReadyH.cons (o := { dst := none, op := Op.store 66 (Operand.tmp 65) (Operand.tmp 63), type := 0, pos := "tape.go:184", after := #[{ on := 9, ground := Ground.data }, { on := 7, ground := Ground.data }, { on := 7, ground := Ground.chain }, { on := 0, ground := Ground.phase }, { on := 1, ground := Ground.phase }, { on := 2, ground := Ground.phase }, { on := 3, ground := Ground.phase }, { on := 4, ground := Ground.phase }, { on := 5, ground := Ground.phase }, { on := 6, ground := Ground.phase }, { on := 7, ground := Ground.phase }], guard := none }) rfl (fun K hK => ?_) (AllReadyH.nil)
        have hr7 := gb_heap hg' hT.hs (own_ne' hT.of hP.h1)
        have fz := frozen_heap (o := 4) hr7
        have fy : wR7.cell? ⟨gs, 4, none⟩ = some vf := cell_heap hr7
        have hGs := gb_set wR7 gs 4 (.slice (some ⟨gX, 0, none⟩) (fs.length + 1) capX)
        have hm2 := hmo.kept hg' (own_other hT.of hmo (by decide))
        have h8 := hT.put hP (fs' := fs ++ [⟨nu, 2, A5, m5, c5, bv⟩]) hg' (fun k hk => own_ne' hT.of hk) (fun k hk => (hT.of.lt k hk).1) hGs (set_heap (o := 4) hr7 (.slice (some ⟨gX, 0, none⟩) (fs.length + 1) capX)) (hT.ob.kept hg' (own_other hT.of hT.ob (by decide))) (by rw [List.length_append, ftCs_append]; exact ho') (hT.os.kept hg' (own_other hT.of hT.os (by decide))) (all_snoc (fun f hf => (hT.om f hf).kept hg' (own_other hT.of (hT.om f hf) (by decide))) hm2)
        have hne7 : some g6 ≠ some gs := by (simp; omega)
        have hS4 := And.intro (World.grownBy.cell hGs hS3.1 hne7) (And.intro (World.grownBy.cell hGs hS3.2.1 hne7) (World.grownBy.cell hGs hS3.2.2 hne7))
        have hhB := gb_heap hGs (gb_heap hg' hhA hne6) hne7
        have hm3 := hm2.kept hGs (own_ne hm2 hP.h1)
        go_simp
        refine hK.out _ _ hS4 (fun _ => ?_)
        clear hK K
        try simp only [Act.put, List.setIfInBounds_toArray, List.set_cons_zero, List.set_cons_succ]
        refine wpAnyH_done (by kernel_rfl) ?_ _
        go_wp2_with fail
        go_meet
        exact ⟨rfl, hhB, hm3, _, h8⟩
    case rest =>
      obtain ⟨rfl, hhA, hmo, vf', hT⟩ := hcut
      obtain ⟨hrm, hm5⟩ := Rd.of_own' hmo
      have KD : Hid (Calls Try.prog 93 #[.agg #[.int .i64 nu, .int .i64 2, .slice A5 m5 c5]] wc fun e w' => e = .returned (.string ⟨(harmS nu 2 bv).toArray⟩) ∧ Below wc.heap.size wc w') := Lib.hid (harm_any ⟨nu, 2, A5, m5, c5, bv⟩ wc (by unfold i64; dsimp only; omega) (by rw [hm5]; exact hrm) (by dsimp only; omega))
      have y0 : wc.cell? ⟨g6, 0, none⟩ = some (.int .i64 nu) := cell_heap hhA
      have y1 : wc.cell? ⟨g6, 1, none⟩ = some (.int .i64 2) := cell_heap hhA
      have y2 : wc.cell? ⟨g6, 2, none⟩ = some (.slice A5 m5 c5) := cell_heap hhA
      rw [(HFT 2 A5 m5 c5).out] at hT
      clear hrm hmo HFT hvb hvf hvs hvm hm5
      go_wp2_with fail
      refine KD.out.mono ?_
      rintro e w6 ⟨rfl, hb⟩
      go_wp2_with fail
      go_ret
      exact ⟨rfl, vf', A5, m5, c5, hT.kept hb⟩
end Go.Proofs.Ytefipigdkdopcaa
