/- Layer 41 (tape): contracts of hex, line, first, harm. No condition but lengths' bounds. -/
import Derived.Test.YtefipigdkdopcaaTap4
import Derived.Deep.DeepCutAuto
namespace Go.Proofs.Ytefipigdkdopcaa
open Go.RowKit

/-- Bytes as a word; lines. -/
def hexW (d : List UInt8) : List UInt8 := if d = [] then [45] else hexS d
def wIng : List UInt8 := [105, 110, 103, 101, 115, 116]
def wPow : List UInt8 := [112, 111, 119, 101, 114]
def lineS (s : StV) : List UInt8 :=
  if s.k = 8 then [105, 110, 103, 101, 115, 116, 32] ++ digI s.p ++ [32] ++ hexW s.d
  else if s.k = 9 then wPow
  else if cmdCheck s.k s.a s.b = 0 then textK s.k s.a s.b else []
def firstS (x y z : Int) : List UInt8 := [103, 101, 111, 109, 32] ++ digI x ++ [32] ++ digI y ++ [32] ++ digI z
def harmW (k : Int) : List UInt8 := if k = 2 then [99, 117, 116, 32] else [102, 97, 105, 108, 32]
def harmS (t k : Int) (d : List UInt8) : List UInt8 := harmW k ++ digI t ++ [32] ++ hexW d
theorem hexW_length (d : List UInt8) : (hexW d).length ≤ 2 * d.length + 1 := by
  unfold hexW
  split
  · simp
  · rw [hexS_length]; omega
abbrev i64 (n : Int) : Prop := -9223372036854775808 ≤ n ∧ n ≤ 9223372036854775807

set_option maxRecDepth 100000 in
theorem thex_any (xs : List UInt8) (A : Option Addr) (n c : Nat) (w : World) (hx : RdB w A n c xs) (hN : n ≤ 10000) : Calls Try.prog 125 #[.slice A n c] w fun e w' => e = .returned (.string ⟨(hexW xs).toArray⟩) ∧ Below w.heap.size w w' := by
  have hl := hx.blen
  have KH := Lib.hid (rhex_any xs A n c w hx hN)
  by_cases h0 : n = 0
  · have hw : Hid (hexW xs = [45]) := by show _ = _; unfold hexW; rw [if_pos (List.eq_nil_of_length_eq_zero (by omega))]
    subst h0
    clear KH hx
    go_enter Try.func125, Try.ntmps125
    go_wp2_with fail
    go_ret
    exact ⟨by rw [hw.out]; rfl, Below.refl _ _⟩
  · have hw : Hid (hexW xs = hexS xs) := by show _ = _; unfold hexW; rw [if_neg (fun e => h0 (by rw [← hl, e]; rfl))]
    have h1 : ((n : Int) == 0) = false := by rw [beq_eq_false_iff_ne]; omega
    clear hx h0
    go_enter Try.func125, Try.ntmps125
    go_wp2_with fail
    refine KH.out.mono ?_
    rintro e w2 ⟨rfl, hb⟩
    go_wp2_with fail
    go_ret
    exact ⟨by rw [hw.out]; rfl, hb⟩

theorem digits_below (n : Int) (w : World) (h : i64 n) : Calls Try.prog 53 #[.int .i64 n] w fun e w' => e = .returned (.string ⟨(digI n).toArray⟩) ∧ Below w.heap.size w w' :=
  (rdigits_any n w h.1 h.2).mono (fun e w' q => ⟨q.1, q.2 ▸ Below.refl _ _⟩)

set_option maxRecDepth 100000 in
set_option maxHeartbeats 2000000 in
theorem first_any (x y z : Int) (w : World) (hx : i64 x) (hy : i64 y) (hz : i64 z) : Calls Try.prog 92 #[.agg #[.int .i64 x, .int .i64 y, .int .i64 z]] w fun e w' => e = .returned (.string ⟨(firstS x y z).toArray⟩) ∧ Below w.heap.size w w' := by
  have K1 := fun W => Lib.hid (digits_below x W hx)
  have K2 := fun W => Lib.hid (digits_below y W hy)
  have K3 := fun W => Lib.hid (digits_below z W hz)
  have hl1 := digI_len hx.1 hx.2
  have hl2 := digI_len hy.1 hy.2
  have hl3 := digI_len hz.1 hz.2
  obtain ⟨hB, hca⟩ := one_cells w #[.int .i64 x, .int .i64 y, .int .i64 z] 65
  have p0 := hca 0 (.int .i64 x) rfl
  have p1 := hca 1 (.int .i64 y) rfl
  have p2 := hca 2 (.int .i64 z) rfl
  have HF : Hid (firstS x y z = [103, 101, 111, 109, 32] ++ digI x ++ [32] ++ digI y ++ [32] ++ digI z) := rfl
  clear hca hx hy hz
  generalize firstS x y z = fx at *
  generalize digI x = dx at *
  generalize digI y = dy at *
  generalize digI z = dz at *
  have l1 : ¬ (9223372036854775807 < 5 + dx.length) := by omega
  have l2 : ¬ (9223372036854775807 < 5 + dx.length + 1) := by omega
  have l3 : ¬ (9223372036854775807 < 5 + dx.length + 1 + dy.length) := by omega
  have l4 : ¬ (9223372036854775807 < 5 + dx.length + 1 + dy.length + 1) := by omega
  have l5 : ¬ (9223372036854775807 < 5 + dx.length + 1 + dy.length + 1 + dz.length) := by omega
  go_enter Try.func92, Try.ntmps92
  go_upto_region 1 with fail
  generalize w.alloc (.cells #[.int .i64 x, .int .i64 y, .int .i64 z] 65) = w1 at *
  refine wp_region_held (S := fun W => Below (w1).heap.size (w1) W) (by kernel_rfl) ?_
  change wpAnyH _ _ _ _ _ _ _ _ (w1).drew
  have hS : (fun W => Below (w1).heap.size (w1) W) (w1).drew := (Below.refl _ _).drew
  refine wpAnyH_take (i := 0) (oi := { dst := some 3, op := Op.fieldAddr 65 (Operand.tmp 1) 0, type := 0, pos := "tape.go:86", after := #[], guard := none }) (v := ?_) rfl (by kernel_rfl) (by kernel_rfl) (by kernel_rfl) (fun _ _ _ h => h) (Or.inl ⟨by rfl, ?_⟩) (by assumption) ?_
  rotate_left
  · (intro wS hS; go_simp <;> with_reducible rfl)
  try simp only [Act.put, List.setIfInBounds_toArray, List.set_cons_zero, List.set_cons_succ]
  refine wpAnyH_take (i := 1) (oi := { dst := some 4, op := Op.load 3 (Operand.tmp 3), type := 3, pos := "tape.go:86", after := #[{ on := 0, ground := Ground.data }], guard := none }) (v := ?_) rfl (by kernel_rfl) (by kernel_rfl) (by kernel_rfl) (fun _ _ _ h => h) (Or.inl ⟨by rfl, ?_⟩) (by assumption) ?_
  rotate_left
  · (intro wS hS; have p0 := cell_below hS p0; have p1 := cell_below hS p1; have p2 := cell_below hS p2; go_simp <;> with_reducible rfl)
  try simp only [Act.put, List.setIfInBounds_toArray, List.set_cons_zero, List.set_cons_succ]
  refine wpAnyH_take (i := 5) (oi := { dst := some 8, op := Op.fieldAddr 65 (Operand.tmp 1) 1, type := 0, pos := "tape.go:86", after := #[], guard := none }) (v := ?_) rfl (by kernel_rfl) (by kernel_rfl) (by kernel_rfl) (fun _ _ _ h => h) (Or.inl ⟨by rfl, ?_⟩) (by assumption) ?_
  rotate_left
  · (intro wS hS; go_simp <;> with_reducible rfl)
  try simp only [Act.put, List.setIfInBounds_toArray, List.set_cons_zero, List.set_cons_succ]
  refine wpAnyH_take (i := 6) (oi := { dst := some 9, op := Op.load 3 (Operand.tmp 8), type := 3, pos := "tape.go:86", after := #[{ on := 5, ground := Ground.data }], guard := none }) (v := ?_) rfl (by kernel_rfl) (by kernel_rfl) (by kernel_rfl) (fun _ _ _ h => h) (Or.inl ⟨by rfl, ?_⟩) (by assumption) ?_
  rotate_left
  · (intro wS hS; have p0 := cell_below hS p0; have p1 := cell_below hS p1; have p2 := cell_below hS p2; go_simp <;> with_reducible rfl)
  try simp only [Act.put, List.setIfInBounds_toArray, List.set_cons_zero, List.set_cons_succ]
  refine wpAnyH_take (i := 10) (oi := { dst := some 13, op := Op.fieldAddr 65 (Operand.tmp 1) 2, type := 0, pos := "tape.go:86", after := #[], guard := none }) (v := ?_) rfl (by kernel_rfl) (by kernel_rfl) (by kernel_rfl) (fun _ _ _ h => h) (Or.inl ⟨by rfl, ?_⟩) (by assumption) ?_
  rotate_left
  · (intro wS hS; go_simp <;> with_reducible rfl)
  try simp only [Act.put, List.setIfInBounds_toArray, List.set_cons_zero, List.set_cons_succ]
  refine wpAnyH_take (i := 11) (oi := { dst := some 14, op := Op.load 3 (Operand.tmp 13), type := 3, pos := "tape.go:86", after := #[{ on := 10, ground := Ground.data }], guard := none }) (v := ?_) rfl (by kernel_rfl) (by kernel_rfl) (by kernel_rfl) (fun _ _ _ h => h) (Or.inl ⟨by rfl, ?_⟩) (by assumption) ?_
  rotate_left
  · (intro wS hS; have p0 := cell_below hS p0; have p1 := cell_below hS p1; have p2 := cell_below hS p2; go_simp <;> with_reducible rfl)
  try simp only [Act.put, List.setIfInBounds_toArray, List.set_cons_zero, List.set_cons_succ]
  refine wpAnyH_ready (rs := [2]) (by kernel_rfl) (by simp) ?_
  refine AllReadyH.cons (o := { dst := some 5, op := Op.call { callee := Callee.value (Operand.func 53), args := #[Operand.tmp 4], argTypes := #[3] }, type := 9, pos := "tape.go:86", after := #[{ on := 1, ground := Ground.data }], guard := none }) rfl (fun K hK => ?_) AllReadyH.nil
  go_simp
  refine (K1 _).out.mono ?_
  rintro e w102 ⟨rfl, hb⟩
  replace hS : (fun W => Below (w1).heap.size (w1) W) w102 := below_then hS hb (Below.size hS)
  refine hK.out _ _ hS (fun _ => ?_)
  clear hK K hb
  try simp only [Act.put, List.setIfInBounds_toArray, List.set_cons_zero, List.set_cons_succ]
  refine wpAnyH_take (i := 3) (oi := { dst := some 6, op := Op.binOp BinOp.add 9 (Operand.const (Value.string { data := #[103, 101, 111, 109, 32] })) (Operand.tmp 5) 9, type := 9, pos := "tape.go:86", after := #[{ on := 2, ground := Ground.data }], guard := none }) (v := ?_) rfl (by kernel_rfl) (by kernel_rfl) (by kernel_rfl) (fun _ _ _ h => h) (Or.inl ⟨by rfl, ?_⟩) (by assumption) ?_
  rotate_left
  · (intro wS hS; go_simp <;> with_reducible rfl)
  try simp only [Act.put, List.setIfInBounds_toArray, List.set_cons_zero, List.set_cons_succ]
  refine wpAnyH_take (i := 4) (oi := { dst := some 7, op := Op.binOp BinOp.add 9 (Operand.tmp 6) (Operand.const (Value.string { data := #[32] })) 9, type := 9, pos := "tape.go:86", after := #[{ on := 3, ground := Ground.data }], guard := none }) (v := ?_) rfl (by kernel_rfl) (by kernel_rfl) (by kernel_rfl) (fun _ _ _ h => h) (Or.inl ⟨by rfl, ?_⟩) (by assumption) ?_
  rotate_left
  · (intro wS hS; go_simp <;> with_reducible rfl)
  try simp only [Act.put, List.setIfInBounds_toArray, List.set_cons_zero, List.set_cons_succ]
  refine wpAnyH_ready (rs := [7]) (by kernel_rfl) (by simp) ?_
  refine AllReadyH.cons (o := { dst := some 10, op := Op.call { callee := Callee.value (Operand.func 53), args := #[Operand.tmp 9], argTypes := #[3] }, type := 9, pos := "tape.go:86", after := #[{ on := 6, ground := Ground.data }, { on := 2, ground := Ground.chain }], guard := none }) rfl (fun K hK => ?_) AllReadyH.nil
  go_simp
  refine (K2 _).out.mono ?_
  rintro e w107 ⟨rfl, hb⟩
  replace hS : (fun W => Below (w1).heap.size (w1) W) w107 := below_then hS hb (Below.size hS)
  refine hK.out _ _ hS (fun _ => ?_)
  clear hK K hb
  try simp only [Act.put, List.setIfInBounds_toArray, List.set_cons_zero, List.set_cons_succ]
  refine wpAnyH_take (i := 8) (oi := { dst := some 11, op := Op.binOp BinOp.add 9 (Operand.tmp 7) (Operand.tmp 10) 9, type := 9, pos := "tape.go:86", after := #[{ on := 4, ground := Ground.data }, { on := 7, ground := Ground.data }], guard := none }) (v := ?_) rfl (by kernel_rfl) (by kernel_rfl) (by kernel_rfl) (fun _ _ _ h => h) (Or.inl ⟨by rfl, ?_⟩) (by assumption) ?_
  rotate_left
  · (intro wS hS; go_simp <;> with_reducible rfl)
  try simp only [Act.put, List.setIfInBounds_toArray, List.set_cons_zero, List.set_cons_succ]
  refine wpAnyH_take (i := 9) (oi := { dst := some 12, op := Op.binOp BinOp.add 9 (Operand.tmp 11) (Operand.const (Value.string { data := #[32] })) 9, type := 9, pos := "tape.go:86", after := #[{ on := 8, ground := Ground.data }], guard := none }) (v := ?_) rfl (by kernel_rfl) (by kernel_rfl) (by kernel_rfl) (fun _ _ _ h => h) (Or.inl ⟨by rfl, ?_⟩) (by assumption) ?_
  rotate_left
  · (intro wS hS; go_simp <;> with_reducible rfl)
  try simp only [Act.put, List.setIfInBounds_toArray, List.set_cons_zero, List.set_cons_succ]
  refine wpAnyH_ready (rs := [12]) (by kernel_rfl) (by simp) ?_
  refine AllReadyH.cons (o := { dst := some 15, op := Op.call { callee := Callee.value (Operand.func 53), args := #[Operand.tmp 14], argTypes := #[3] }, type := 9, pos := "tape.go:86", after := #[{ on := 11, ground := Ground.data }, { on := 7, ground := Ground.chain }], guard := none }) rfl (fun K hK => ?_) AllReadyH.nil
  go_simp
  refine (K3 _).out.mono ?_
  rintro e w112 ⟨rfl, hb⟩
  replace hS : (fun W => Below (w1).heap.size (w1) W) w112 := below_then hS hb (Below.size hS)
  refine hK.out _ _ hS (fun _ => ?_)
  clear hK K hb
  try simp only [Act.put, List.setIfInBounds_toArray, List.set_cons_zero, List.set_cons_succ]
  refine wpAnyH_take (i := 13) (oi := { dst := some 16, op := Op.binOp BinOp.add 9 (Operand.tmp 12) (Operand.tmp 15) 9, type := 9, pos := "tape.go:86", after := #[{ on := 9, ground := Ground.data }, { on := 12, ground := Ground.data }], guard := none }) (v := ?_) rfl (by kernel_rfl) (by kernel_rfl) (by kernel_rfl) (fun _ _ _ h => h) (Or.inl ⟨by rfl, ?_⟩) (by assumption) ?_
  rotate_left
  · (intro wS hS; go_simp <;> with_reducible rfl)
  try simp only [Act.put, List.setIfInBounds_toArray, List.set_cons_zero, List.set_cons_succ]
  refine wpAnyH_take (i := 14) (oi := { dst := some 2, op := Op.assign (Operand.tmp 16), type := 9, pos := "tape.go:86", after := #[{ on := 13, ground := Ground.data }, { on := 12, ground := Ground.chain }, { on := 0, ground := Ground.phase }, { on := 1, ground := Ground.phase }, { on := 2, ground := Ground.phase }, { on := 3, ground := Ground.phase }, { on := 4, ground := Ground.phase }, { on := 5, ground := Ground.phase }, { on := 6, ground := Ground.phase }, { on := 7, ground := Ground.phase }, { on := 8, ground := Ground.phase }, { on := 9, ground := Ground.phase }, { on := 10, ground := Ground.phase }, { on := 11, ground := Ground.phase }, { on := 12, ground := Ground.phase }, { on := 13, ground := Ground.phase }], guard := none }) (v := ?_) rfl (by kernel_rfl) (by kernel_rfl) (by kernel_rfl) (fun _ _ _ h => h) (Or.inl ⟨by rfl, ?_⟩) (by assumption) ?_
  rotate_left
  · (intro wS hS; go_simp <;> with_reducible rfl)
  try simp only [Act.put, List.setIfInBounds_toArray, List.set_cons_zero, List.set_cons_succ]
  refine wpAnyH_done (by kernel_rfl) ?_ _
  go_wp2_with fail
  go_ret
  have h : (⟨fx.toArray⟩ : ByteArray) = ⟨#[103, 101, 111, 109, 32]⟩ ++ ⟨dx.toArray⟩ ++ ⟨#[32]⟩ ++ ⟨dy.toArray⟩ ++ ⟨#[32]⟩ ++ ⟨dz.toArray⟩ := by rw [HF.out, ← cat_bytes, ← cat_bytes, ← cat_bytes, ← cat_bytes, ← cat_bytes]
  exact ⟨by rw [h]; rfl, below_trans hB hS⟩

set_option maxRecDepth 100000 in
set_option maxHeartbeats 2000000 in
theorem harm_any (f : FtV) (w : World) (ht : i64 f.at_) (hx : RdB w f.A f.m f.c f.x) (hN : f.m ≤ 10000) : Calls Try.prog 93 #[.agg (ftA f)] w fun e w' => e = .returned (.string ⟨(harmS f.at_ f.k f.x).toArray⟩) ∧ Below w.heap.size w w' := by
  obtain ⟨t, k, A, m, c, x⟩ := f
  dsimp only at ht hx hN ⊢
  have K1 := fun W => Lib.hid (digits_below t W ht)
  have K2 := fun W h => Lib.hid (thex_any x A m c W h hN)
  have hl1 := digI_len ht.1 ht.2
  have hl2 := hexW_length x
  have hxl := hx.blen
  obtain ⟨hB, hca⟩ := one_cells w #[.int .i64 t, .int .i64 k, .slice A m c] 130
  have p0 := hca 0 (.int .i64 t) rfl
  have p1 := hca 1 (.int .i64 k) rfl
  have p2 := hca 2 (.slice A m c) rfl
  replace hx := hx.below hB
  clear hca ht
  by_cases hk : k = 2
  · have HF : Hid (harmS t k x = [99, 117, 116, 32] ++ digI t ++ [32] ++ hexW x) := by show _ = _; unfold harmS harmW; rw [if_pos hk]
    generalize harmS t k x = fx at *
    generalize digI t = dt at *
    generalize hexW x = dx at *
    subst hk
    have l1 : ¬ (9223372036854775807 < 4 + dt.length) := by omega
    have l2 : ¬ (9223372036854775807 < 4 + dt.length + 1) := by omega
    have l3 : ¬ (9223372036854775807 < 4 + dt.length + 1 + dx.length) := by omega
    go_enter Try.func93, Try.ntmps93
    go_upto_region 4 with fail
    generalize w.alloc (.cells #[.int .i64 t, .int .i64 2, .slice A m c] 130) = w1 at *
    refine wp_region_held (S := fun W => Below (w1).heap.size (w1) W) (by kernel_rfl) ?_
    change wpAnyH _ _ _ _ _ _ _ _ (w1).drew
    have hS : (fun W => Below (w1).heap.size (w1) W) (w1).drew := (Below.refl _ _).drew
    refine wpAnyH_take (i := 0) (oi := { dst := some 7, op := Op.move (Operand.tmp 3), type := 9, pos := "tape.go:95", after := #[], guard := none }) (v := ?_) rfl (by kernel_rfl) (by kernel_rfl) (by kernel_rfl) (fun _ _ _ h => h) (Or.inl ⟨by rfl, ?_⟩) (by assumption) ?_
    rotate_left
    · (intro wS hS; go_simp <;> with_reducible rfl)
    try simp only [Act.put, List.setIfInBounds_toArray, List.set_cons_zero, List.set_cons_succ]
    refine wpAnyH_take (i := 1) (oi := { dst := some 8, op := Op.fieldAddr 130 (Operand.tmp 1) 0, type := 0, pos := "tape.go:95", after := #[], guard := none }) (v := ?_) rfl (by kernel_rfl) (by kernel_rfl) (by kernel_rfl) (fun _ _ _ h => h) (Or.inl ⟨by rfl, ?_⟩) (by assumption) ?_
    rotate_left
    · (intro wS hS; go_simp <;> with_reducible rfl)
    try simp only [Act.put, List.setIfInBounds_toArray, List.set_cons_zero, List.set_cons_succ]
    refine wpAnyH_take (i := 2) (oi := { dst := some 9, op := Op.load 3 (Operand.tmp 8), type := 3, pos := "tape.go:95", after := #[{ on := 1, ground := Ground.data }], guard := none }) (v := ?_) rfl (by kernel_rfl) (by kernel_rfl) (by kernel_rfl) (fun _ _ _ h => h) (Or.inl ⟨by rfl, ?_⟩) (by assumption) ?_
    rotate_left
    · (intro wS hS; have p0 := cell_below hS p0; have p2 := cell_below hS p2; go_simp <;> with_reducible rfl)
    try simp only [Act.put, List.setIfInBounds_toArray, List.set_cons_zero, List.set_cons_succ]
    refine wpAnyH_take (i := 6) (oi := { dst := some 13, op := Op.fieldAddr 130 (Operand.tmp 1) 2, type := 0, pos := "tape.go:95", after := #[], guard := none }) (v := ?_) rfl (by kernel_rfl) (by kernel_rfl) (by kernel_rfl) (fun _ _ _ h => h) (Or.inl ⟨by rfl, ?_⟩) (by assumption) ?_
    rotate_left
    · (intro wS hS; go_simp <;> with_reducible rfl)
    try simp only [Act.put, List.setIfInBounds_toArray, List.set_cons_zero, List.set_cons_succ]
    refine wpAnyH_take (i := 7) (oi := { dst := some 14, op := Op.load 53 (Operand.tmp 13), type := 53, pos := "tape.go:95", after := #[{ on := 6, ground := Ground.data }], guard := none }) (v := ?_) rfl (by kernel_rfl) (by kernel_rfl) (by kernel_rfl) (fun _ _ _ h => h) (Or.inl ⟨by rfl, ?_⟩) (by assumption) ?_
    rotate_left
    · (intro wS hS; have p0 := cell_below hS p0; have p2 := cell_below hS p2; go_simp <;> with_reducible rfl)
    try simp only [Act.put, List.setIfInBounds_toArray, List.set_cons_zero, List.set_cons_succ]
    refine wpAnyH_ready (rs := [3]) (by kernel_rfl) (by simp) ?_
    refine AllReadyH.cons (o := { dst := some 10, op := Op.call { callee := Callee.value (Operand.func 53), args := #[Operand.tmp 9], argTypes := #[3] }, type := 9, pos := "tape.go:95", after := #[{ on := 2, ground := Ground.data }], guard := none }) rfl (fun K hK => ?_) AllReadyH.nil
    go_simp
    refine (K1 _).out.mono ?_
    rintro e w103 ⟨rfl, hb⟩
    replace hS : (fun W => Below (w1).heap.size (w1) W) w103 := below_then hS hb (Below.size hS)
    refine hK.out _ _ hS (fun _ => ?_)
    clear hK K hb
    try simp only [Act.put, List.setIfInBounds_toArray, List.set_cons_zero, List.set_cons_succ]
    refine wpAnyH_take (i := 4) (oi := { dst := some 11, op := Op.binOp BinOp.add 9 (Operand.tmp 7) (Operand.tmp 10) 9, type := 9, pos := "tape.go:95", after := #[{ on := 0, ground := Ground.data }, { on := 3, ground := Ground.data }], guard := none }) (v := ?_) rfl (by kernel_rfl) (by kernel_rfl) (by kernel_rfl) (fun _ _ _ h => h) (Or.inl ⟨by rfl, ?_⟩) (by assumption) ?_
    rotate_left
    · (intro wS hS; go_simp <;> with_reducible rfl)
    try simp only [Act.put, List.setIfInBounds_toArray, List.set_cons_zero, List.set_cons_succ]
    refine wpAnyH_take (i := 5) (oi := { dst := some 12, op := Op.binOp BinOp.add 9 (Operand.tmp 11) (Operand.const (Value.string { data := #[32] })) 9, type := 9, pos := "tape.go:95", after := #[{ on := 4, ground := Ground.data }], guard := none }) (v := ?_) rfl (by kernel_rfl) (by kernel_rfl) (by kernel_rfl) (fun _ _ _ h => h) (Or.inl ⟨by rfl, ?_⟩) (by assumption) ?_
    rotate_left
    · (intro wS hS; go_simp <;> with_reducible rfl)
    try simp only [Act.put, List.setIfInBounds_toArray, List.set_cons_zero, List.set_cons_succ]
    refine wpAnyH_ready (rs := [8]) (by kernel_rfl) (by simp) ?_
    refine AllReadyH.cons (o := { dst := some 15, op := Op.call { callee := Callee.value (Operand.func 125), args := #[Operand.tmp 14], argTypes := #[53] }, type := 9, pos := "tape.go:95", after := #[{ on := 7, ground := Ground.data }, { on := 3, ground := Ground.chain }], guard := none }) rfl (fun K hK => ?_) AllReadyH.nil
    go_simp
    refine (K2 _ (Rd.below hx hS)).out.mono ?_
    rintro e w108 ⟨rfl, hb⟩
    replace hS : (fun W => Below (w1).heap.size (w1) W) w108 := below_then hS hb (Below.size hS)
    refine hK.out _ _ hS (fun _ => ?_)
    clear hK K hb
    try simp only [Act.put, List.setIfInBounds_toArray, List.set_cons_zero, List.set_cons_succ]
    refine wpAnyH_take (i := 9) (oi := { dst := some 16, op := Op.binOp BinOp.add 9 (Operand.tmp 12) (Operand.tmp 15) 9, type := 9, pos := "tape.go:95", after := #[{ on := 5, ground := Ground.data }, { on := 8, ground := Ground.data }], guard := none }) (v := ?_) rfl (by kernel_rfl) (by kernel_rfl) (by kernel_rfl) (fun _ _ _ h => h) (Or.inl ⟨by rfl, ?_⟩) (by assumption) ?_
    rotate_left
    · (intro wS hS; go_simp <;> with_reducible rfl)
    try simp only [Act.put, List.setIfInBounds_toArray, List.set_cons_zero, List.set_cons_succ]
    refine wpAnyH_take (i := 10) (oi := { dst := some 2, op := Op.assign (Operand.tmp 16), type := 9, pos := "tape.go:95", after := #[{ on := 9, ground := Ground.data }, { on := 8, ground := Ground.chain }, { on := 0, ground := Ground.phase }, { on := 1, ground := Ground.phase }, { on := 2, ground := Ground.phase }, { on := 3, ground := Ground.phase }, { on := 4, ground := Ground.phase }, { on := 5, ground := Ground.phase }, { on := 6, ground := Ground.phase }, { on := 7, ground := Ground.phase }, { on := 8, ground := Ground.phase }, { on := 9, ground := Ground.phase }], guard := none }) (v := ?_) rfl (by kernel_rfl) (by kernel_rfl) (by kernel_rfl) (fun _ _ _ h => h) (Or.inl ⟨by rfl, ?_⟩) (by assumption) ?_
    rotate_left
    · (intro wS hS; go_simp <;> with_reducible rfl)
    try simp only [Act.put, List.setIfInBounds_toArray, List.set_cons_zero, List.set_cons_succ]
    refine wpAnyH_done (by kernel_rfl) ?_ _
    go_wp2_with fail
    go_ret
    have h : (⟨fx.toArray⟩ : ByteArray) = ⟨#[99, 117, 116, 32]⟩ ++ ⟨dt.toArray⟩ ++ ⟨#[32]⟩ ++ ⟨dx.toArray⟩ := by rw [HF.out, ← cat_bytes, ← cat_bytes, ← cat_bytes]
    exact ⟨by rw [h]; rfl, below_trans hB hS⟩
  · have HF : Hid (harmS t k x = [102, 97, 105, 108, 32] ++ digI t ++ [32] ++ hexW x) := by show _ = _; unfold harmS harmW; rw [if_neg hk]
    have hk2 : (k == 2) = false := by rw [beq_eq_false_iff_ne]; exact hk
    generalize harmS t k x = fx at *
    generalize digI t = dt at *
    generalize hexW x = dx at *
    have l1 : ¬ (9223372036854775807 < 5 + dt.length) := by omega
    have l2 : ¬ (9223372036854775807 < 5 + dt.length + 1) := by omega
    have l3 : ¬ (9223372036854775807 < 5 + dt.length + 1 + dx.length) := by omega
    clear hk
    go_enter Try.func93, Try.ntmps93
    go_upto_region 4 with fail
    generalize w.alloc (.cells #[.int .i64 t, .int .i64 k, .slice A m c] 130) = w1 at *
    refine wp_region_held (S := fun W => Below (w1).heap.size (w1) W) (by kernel_rfl) ?_
    change wpAnyH _ _ _ _ _ _ _ _ (w1).drew
    have hS : (fun W => Below (w1).heap.size (w1) W) (w1).drew := (Below.refl _ _).drew
    refine wpAnyH_take (i := 0) (oi := { dst := some 7, op := Op.move (Operand.tmp 3), type := 9, pos := "tape.go:95", after := #[], guard := none }) (v := ?_) rfl (by kernel_rfl) (by kernel_rfl) (by kernel_rfl) (fun _ _ _ h => h) (Or.inl ⟨by rfl, ?_⟩) (by assumption) ?_
    rotate_left
    · (intro wS hS; go_simp <;> with_reducible rfl)
    try simp only [Act.put, List.setIfInBounds_toArray, List.set_cons_zero, List.set_cons_succ]
    refine wpAnyH_take (i := 1) (oi := { dst := some 8, op := Op.fieldAddr 130 (Operand.tmp 1) 0, type := 0, pos := "tape.go:95", after := #[], guard := none }) (v := ?_) rfl (by kernel_rfl) (by kernel_rfl) (by kernel_rfl) (fun _ _ _ h => h) (Or.inl ⟨by rfl, ?_⟩) (by assumption) ?_
    rotate_left
    · (intro wS hS; go_simp <;> with_reducible rfl)
    try simp only [Act.put, List.setIfInBounds_toArray, List.set_cons_zero, List.set_cons_succ]
    refine wpAnyH_take (i := 2) (oi := { dst := some 9, op := Op.load 3 (Operand.tmp 8), type := 3, pos := "tape.go:95", after := #[{ on := 1, ground := Ground.data }], guard := none }) (v := ?_) rfl (by kernel_rfl) (by kernel_rfl) (by kernel_rfl) (fun _ _ _ h => h) (Or.inl ⟨by rfl, ?_⟩) (by assumption) ?_
    rotate_left
    · (intro wS hS; have p0 := cell_below hS p0; have p2 := cell_below hS p2; go_simp <;> with_reducible rfl)
    try simp only [Act.put, List.setIfInBounds_toArray, List.set_cons_zero, List.set_cons_succ]
    refine wpAnyH_take (i := 6) (oi := { dst := some 13, op := Op.fieldAddr 130 (Operand.tmp 1) 2, type := 0, pos := "tape.go:95", after := #[], guard := none }) (v := ?_) rfl (by kernel_rfl) (by kernel_rfl) (by kernel_rfl) (fun _ _ _ h => h) (Or.inl ⟨by rfl, ?_⟩) (by assumption) ?_
    rotate_left
    · (intro wS hS; go_simp <;> with_reducible rfl)
    try simp only [Act.put, List.setIfInBounds_toArray, List.set_cons_zero, List.set_cons_succ]
    refine wpAnyH_take (i := 7) (oi := { dst := some 14, op := Op.load 53 (Operand.tmp 13), type := 53, pos := "tape.go:95", after := #[{ on := 6, ground := Ground.data }], guard := none }) (v := ?_) rfl (by kernel_rfl) (by kernel_rfl) (by kernel_rfl) (fun _ _ _ h => h) (Or.inl ⟨by rfl, ?_⟩) (by assumption) ?_
    rotate_left
    · (intro wS hS; have p0 := cell_below hS p0; have p2 := cell_below hS p2; go_simp <;> with_reducible rfl)
    try simp only [Act.put, List.setIfInBounds_toArray, List.set_cons_zero, List.set_cons_succ]
    refine wpAnyH_ready (rs := [3]) (by kernel_rfl) (by simp) ?_
    refine AllReadyH.cons (o := { dst := some 10, op := Op.call { callee := Callee.value (Operand.func 53), args := #[Operand.tmp 9], argTypes := #[3] }, type := 9, pos := "tape.go:95", after := #[{ on := 2, ground := Ground.data }], guard := none }) rfl (fun K hK => ?_) AllReadyH.nil
    go_simp
    refine (K1 _).out.mono ?_
    rintro e w103 ⟨rfl, hb⟩
    replace hS : (fun W => Below (w1).heap.size (w1) W) w103 := below_then hS hb (Below.size hS)
    refine hK.out _ _ hS (fun _ => ?_)
    clear hK K hb
    try simp only [Act.put, List.setIfInBounds_toArray, List.set_cons_zero, List.set_cons_succ]
    refine wpAnyH_take (i := 4) (oi := { dst := some 11, op := Op.binOp BinOp.add 9 (Operand.tmp 7) (Operand.tmp 10) 9, type := 9, pos := "tape.go:95", after := #[{ on := 0, ground := Ground.data }, { on := 3, ground := Ground.data }], guard := none }) (v := ?_) rfl (by kernel_rfl) (by kernel_rfl) (by kernel_rfl) (fun _ _ _ h => h) (Or.inl ⟨by rfl, ?_⟩) (by assumption) ?_
    rotate_left
    · (intro wS hS; go_simp <;> with_reducible rfl)
    try simp only [Act.put, List.setIfInBounds_toArray, List.set_cons_zero, List.set_cons_succ]
    refine wpAnyH_take (i := 5) (oi := { dst := some 12, op := Op.binOp BinOp.add 9 (Operand.tmp 11) (Operand.const (Value.string { data := #[32] })) 9, type := 9, pos := "tape.go:95", after := #[{ on := 4, ground := Ground.data }], guard := none }) (v := ?_) rfl (by kernel_rfl) (by kernel_rfl) (by kernel_rfl) (fun _ _ _ h => h) (Or.inl ⟨by rfl, ?_⟩) (by assumption) ?_
    rotate_left
    · (intro wS hS; go_simp <;> with_reducible rfl)
    try simp only [Act.put, List.setIfInBounds_toArray, List.set_cons_zero, List.set_cons_succ]
    refine wpAnyH_ready (rs := [8]) (by kernel_rfl) (by simp) ?_
    refine AllReadyH.cons (o := { dst := some 15, op := Op.call { callee := Callee.value (Operand.func 125), args := #[Operand.tmp 14], argTypes := #[53] }, type := 9, pos := "tape.go:95", after := #[{ on := 7, ground := Ground.data }, { on := 3, ground := Ground.chain }], guard := none }) rfl (fun K hK => ?_) AllReadyH.nil
    go_simp
    refine (K2 _ (Rd.below hx hS)).out.mono ?_
    rintro e w108 ⟨rfl, hb⟩
    replace hS : (fun W => Below (w1).heap.size (w1) W) w108 := below_then hS hb (Below.size hS)
    refine hK.out _ _ hS (fun _ => ?_)
    clear hK K hb
    try simp only [Act.put, List.setIfInBounds_toArray, List.set_cons_zero, List.set_cons_succ]
    refine wpAnyH_take (i := 9) (oi := { dst := some 16, op := Op.binOp BinOp.add 9 (Operand.tmp 12) (Operand.tmp 15) 9, type := 9, pos := "tape.go:95", after := #[{ on := 5, ground := Ground.data }, { on := 8, ground := Ground.data }], guard := none }) (v := ?_) rfl (by kernel_rfl) (by kernel_rfl) (by kernel_rfl) (fun _ _ _ h => h) (Or.inl ⟨by rfl, ?_⟩) (by assumption) ?_
    rotate_left
    · (intro wS hS; go_simp <;> with_reducible rfl)
    try simp only [Act.put, List.setIfInBounds_toArray, List.set_cons_zero, List.set_cons_succ]
    refine wpAnyH_take (i := 10) (oi := { dst := some 2, op := Op.assign (Operand.tmp 16), type := 9, pos := "tape.go:95", after := #[{ on := 9, ground := Ground.data }, { on := 8, ground := Ground.chain }, { on := 0, ground := Ground.phase }, { on := 1, ground := Ground.phase }, { on := 2, ground := Ground.phase }, { on := 3, ground := Ground.phase }, { on := 4, ground := Ground.phase }, { on := 5, ground := Ground.phase }, { on := 6, ground := Ground.phase }, { on := 7, ground := Ground.phase }, { on := 8, ground := Ground.phase }, { on := 9, ground := Ground.phase }], guard := none }) (v := ?_) rfl (by kernel_rfl) (by kernel_rfl) (by kernel_rfl) (fun _ _ _ h => h) (Or.inl ⟨by rfl, ?_⟩) (by assumption) ?_
    rotate_left
    · (intro wS hS; go_simp <;> with_reducible rfl)
    try simp only [Act.put, List.setIfInBounds_toArray, List.set_cons_zero, List.set_cons_succ]
    refine wpAnyH_done (by kernel_rfl) ?_ _
    go_wp2_with fail
    go_ret
    have h : (⟨fx.toArray⟩ : ByteArray) = ⟨#[102, 97, 105, 108, 32]⟩ ++ ⟨dt.toArray⟩ ++ ⟨#[32]⟩ ++ ⟨dx.toArray⟩ := by rw [HF.out, ← cat_bytes, ← cat_bytes, ← cat_bytes]
    exact ⟨by rw [h]; rfl, below_trans hB hS⟩

set_option maxRecDepth 100000 in
set_option maxHeartbeats 4000000 in
theorem line_any (s : StV) (w : World) (hp : i64 s.p) (hd : s.d.length ≤ 10000) : Calls Try.prog 90 #[.agg (stA s)] w fun e w' => e = .returned (.string ⟨(lineS s).toArray⟩) ∧ Below w.heap.size w w' := by
  obtain ⟨k, d, p, a, b⟩ := s
  dsimp only at hp hd
  obtain ⟨hB, hca⟩ := one_cells w #[.int .i64 k, .string ⟨d.toArray⟩, .int .i64 p, .int .u64 (a : Int), .int .u64 (b : Int)] 78
  have p0 := hca 0 (.int .i64 k) rfl
  have p1 := hca 1 (.string ⟨d.toArray⟩) rfl
  have p2 := hca 2 (.int .i64 p) rfl
  have p3 := hca 3 (.int .u64 (a : Int)) rfl
  have p4 := hca 4 (.int .u64 (b : Int)) rfl
  clear hca
  by_cases h8 : k = 8
  · have K1 := fun W => Lib.hid (digits_below p W hp)
    have K2 := fun W A c h => Lib.hid (thex_any d A d.length c W h hd)
    have hl1 := digI_len hp.1 hp.2
    have hl2 := hexW_length d
    have HF : Hid (lineS ⟨k, d, p, a, b⟩ = [105, 110, 103, 101, 115, 116, 32] ++ digI p ++ [32] ++ hexW d) := by show _ = _; unfold lineS; rw [if_pos h8]
    generalize lineS ⟨k, d, p, a, b⟩ = fx at *
    generalize digI p = dp at *
    generalize hexW d = dx at *
    subst h8
    have l1 : ¬ (9223372036854775807 < 7 + dp.length) := by omega
    have l2 : ¬ (9223372036854775807 < 7 + dp.length + 1) := by omega
    have l3 : ¬ (9223372036854775807 < 7 + dp.length + 1 + dx.length) := by omega
    have HE : Hid ((⟨fx.toArray⟩ : ByteArray) = ⟨#[105, 110, 103, 101, 115, 116, 32]⟩ ++ ⟨dp.toArray⟩ ++ ⟨#[32]⟩ ++ ⟨dx.toArray⟩) := by show _ = _; rw [HF.out, ← cat_bytes, ← cat_bytes, ← cat_bytes]
    clear HF hp
    go_enter Try.func90, Try.ntmps90
    go_upto_region 3 with fail
    generalize w.alloc (.cells #[.int .i64 8, .string ⟨d.toArray⟩, .int .i64 p, .int .u64 (a : Int), .int .u64 (b : Int)] 78) = w1 at *
    refine wp_region_held (S := fun W => Below w1.heap.size w1 W) (by kernel_rfl) ?_
    change wpAnyH _ _ _ _ _ _ _ _ (w1).drew
    have hS : (fun W => Below w1.heap.size w1 W) (w1).drew := (Below.refl _ _).drew
    generalize (w1).drew = wd at hS ⊢
    refine wpAnyH_take (i := 0) (oi := { dst := some 9, op := Op.fieldAddr 78 (Operand.tmp 1) 2, type := 0, pos := "tape.go:76", after := #[], guard := none }) (v := ?_) rfl (by kernel_rfl) (by kernel_rfl) (by kernel_rfl) (fun _ _ _ h => h) (Or.inl ⟨by rfl, ?_⟩) (by assumption) ?_
    rotate_left
    · (intro wS hS; go_simp <;> with_reducible rfl)
    try simp only [Act.put, List.setIfInBounds_toArray, List.set_cons_zero, List.set_cons_succ]
    refine wpAnyH_take (i := 1) (oi := { dst := some 10, op := Op.load 3 (Operand.tmp 9), type := 3, pos := "tape.go:76", after := #[{ on := 0, ground := Ground.data }], guard := none }) (v := ?_) rfl (by kernel_rfl) (by kernel_rfl) (by kernel_rfl) (fun _ _ _ h => h) (Or.inl ⟨by rfl, ?_⟩) (by assumption) ?_
    rotate_left
    · (intro wS hS; have q1 := cell_below hS p1; have q2 := cell_below hS p2; go_simp <;> with_reducible rfl)
    try simp only [Act.put, List.setIfInBounds_toArray, List.set_cons_zero, List.set_cons_succ]
    refine wpAnyH_take (i := 5) (oi := { dst := some 14, op := Op.fieldAddr 78 (Operand.tmp 1) 1, type := 0, pos := "tape.go:76", after := #[], guard := none }) (v := ?_) rfl (by kernel_rfl) (by kernel_rfl) (by kernel_rfl) (fun _ _ _ h => h) (Or.inl ⟨by rfl, ?_⟩) (by assumption) ?_
    rotate_left
    · (intro wS hS; go_simp <;> with_reducible rfl)
    try simp only [Act.put, List.setIfInBounds_toArray, List.set_cons_zero, List.set_cons_succ]
    refine wpAnyH_take (i := 6) (oi := { dst := some 15, op := Op.load 9 (Operand.tmp 14), type := 9, pos := "tape.go:76", after := #[{ on := 5, ground := Ground.data }], guard := none }) (v := ?_) rfl (by kernel_rfl) (by kernel_rfl) (by kernel_rfl) (fun _ _ _ h => h) (Or.inl ⟨by rfl, ?_⟩) (by assumption) ?_
    rotate_left
    · (intro wS hS; have q1 := cell_below hS p1; have q2 := cell_below hS p2; go_simp <;> with_reducible rfl)
    try simp only [Act.put, List.setIfInBounds_toArray, List.set_cons_zero, List.set_cons_succ]
    refine wpAnyH_ready (rs := [2, 7]) (by kernel_rfl) (by simp) ?_
    refine AllReadyH.cons (o := { dst := some 11, op := Op.call { callee := Callee.value (Operand.func 53), args := #[Operand.tmp 10], argTypes := #[3] }, type := 9, pos := "tape.go:76", after := #[{ on := 1, ground := Ground.data }], guard := none }) rfl (fun K hK => ?_) (AllReadyH.cons (o := { dst := some 16, op := Op.convert 9 53 (Operand.tmp 15), type := 53, pos := "tape.go:76", after := #[{ on := 6, ground := Ground.data }], guard := none }) rfl (fun K hK => ?_) (AllReadyH.nil))
    · have q1 := cell_below hS p1; have q2 := cell_below hS p2
      go_simp
      refine (K1 _).out.mono ?_
      rintro e w102 ⟨rfl, hb⟩
      replace hS : (fun W => Below w1.heap.size w1 W) w102 := below_then hS hb (Below.size hS)
      try replace hrb := hrb.below hb
      refine hK.out _ _ hS (fun _ => ?_)
      clear hK K hb
      try simp only [Act.put, List.setIfInBounds_toArray, List.set_cons_zero, List.set_cons_succ]
      refine wpAnyH_take (i := 3) (oi := { dst := some 12, op := Op.binOp BinOp.add 9 (Operand.const (Value.string { data := #[105, 110, 103, 101, 115, 116, 32] })) (Operand.tmp 11) 9, type := 9, pos := "tape.go:76", after := #[{ on := 2, ground := Ground.data }], guard := none }) (v := ?_) rfl (by kernel_rfl) (by kernel_rfl) (by kernel_rfl) (fun _ _ _ h => h) (Or.inl ⟨by rfl, ?_⟩) (by assumption) ?_
      rotate_left
      · (intro wS hS; go_simp <;> with_reducible rfl)
      try simp only [Act.put, List.setIfInBounds_toArray, List.set_cons_zero, List.set_cons_succ]
      refine wpAnyH_take (i := 4) (oi := { dst := some 13, op := Op.binOp BinOp.add 9 (Operand.tmp 12) (Operand.const (Value.string { data := #[32] })) 9, type := 9, pos := "tape.go:76", after := #[{ on := 3, ground := Ground.data }], guard := none }) (v := ?_) rfl (by kernel_rfl) (by kernel_rfl) (by kernel_rfl) (fun _ _ _ h => h) (Or.inl ⟨by rfl, ?_⟩) (by assumption) ?_
      rotate_left
      · (intro wS hS; go_simp <;> with_reducible rfl)
      try simp only [Act.put, List.setIfInBounds_toArray, List.set_cons_zero, List.set_cons_succ]
      refine wpAnyH_ready (rs := [7]) (by kernel_rfl) (by simp) ?_
      refine AllReadyH.cons (o := { dst := some 16, op := Op.convert 9 53 (Operand.tmp 15), type := 53, pos := "tape.go:76", after := #[{ on := 6, ground := Ground.data }], guard := none }) rfl (fun K hK => ?_) (AllReadyH.nil)
      have hcv := run_bytes_of d w102
      have hrb := rd_bytesOf w102 d (by unfold maxLen; omega)
      have hbb := bytesWorld_below w102 5 ⟨d.toArray⟩
      replace hS : (fun W => Below w1.heap.size w1 W) (Lib.bytesWorld w102 5 ⟨d.toArray⟩) := below_then hS hbb (Below.size hS)
      go_simp
      refine hK.out _ _ hS (fun _ => ?_)
      clear hK K hcv hbb
      try simp only [Act.put, List.setIfInBounds_toArray, List.set_cons_zero, List.set_cons_succ]
      generalize grownCap w102 d.length 0 5 = gc at *
      generalize hwR : Lib.bytesWorld w102 5 ⟨d.toArray⟩ = wR7 at *
      clear hwR
      generalize hgB2 : World.heap w102 = hpB at *
      clear hgB2
      refine wpAnyH_ready (rs := [8]) (by kernel_rfl) (by simp) ?_
      refine AllReadyH.cons (o := { dst := some 17, op := Op.call { callee := Callee.value (Operand.func 125), args := #[Operand.tmp 16], argTypes := #[53] }, type := 9, pos := "tape.go:76", after := #[{ on := 7, ground := Ground.data }, { on := 2, ground := Ground.chain }], guard := none }) rfl (fun K hK => ?_) (AllReadyH.nil)
      have q1 := cell_below hS p1; have q2 := cell_below hS p2
      go_simp
      refine (K2 _ _ _ hrb).out.mono ?_
      rintro e w108 ⟨rfl, hb⟩
      replace hS : (fun W => Below w1.heap.size w1 W) w108 := below_then hS hb (Below.size hS)
      try replace hrb := hrb.below hb
      refine hK.out _ _ hS (fun _ => ?_)
      clear hK K hb
      try simp only [Act.put, List.setIfInBounds_toArray, List.set_cons_zero, List.set_cons_succ]
      refine wpAnyH_take (i := 9) (oi := { dst := some 18, op := Op.binOp BinOp.add 9 (Operand.tmp 13) (Operand.tmp 17) 9, type := 9, pos := "tape.go:76", after := #[{ on := 4, ground := Ground.data }, { on := 8, ground := Ground.data }], guard := none }) (v := ?_) rfl (by kernel_rfl) (by kernel_rfl) (by kernel_rfl) (fun _ _ _ h => h) (Or.inl ⟨by rfl, ?_⟩) (by assumption) ?_
      rotate_left
      · (intro wS hS; go_simp <;> with_reducible rfl)
      try simp only [Act.put, List.setIfInBounds_toArray, List.set_cons_zero, List.set_cons_succ]
      refine wpAnyH_take (i := 10) (oi := { dst := some 2, op := Op.assign (Operand.tmp 18), type := 9, pos := "tape.go:76", after := #[{ on := 9, ground := Ground.data }, { on := 8, ground := Ground.chain }, { on := 0, ground := Ground.phase }, { on := 1, ground := Ground.phase }, { on := 2, ground := Ground.phase }, { on := 3, ground := Ground.phase }, { on := 4, ground := Ground.phase }, { on := 5, ground := Ground.phase }, { on := 6, ground := Ground.phase }, { on := 7, ground := Ground.phase }, { on := 8, ground := Ground.phase }, { on := 9, ground := Ground.phase }], guard := none }) (v := ?_) rfl (by kernel_rfl) (by kernel_rfl) (by kernel_rfl) (fun _ _ _ h => h) (Or.inl ⟨by rfl, ?_⟩) (by assumption) ?_
      rotate_left
      · (intro wS hS; go_simp <;> with_reducible rfl)
      try simp only [Act.put, List.setIfInBounds_toArray, List.set_cons_zero, List.set_cons_succ]
      refine wpAnyH_done (by kernel_rfl) ?_ _
      go_wp2_with fail
      go_ret
      exact ⟨by rw [HE.out]; rfl, below_trans hB hS⟩
    · have hcv := run_bytes_of d wd
      have hrb := rd_bytesOf wd d (by unfold maxLen; omega)
      have hbb := bytesWorld_below wd 5 ⟨d.toArray⟩
      replace hS : (fun W => Below w1.heap.size w1 W) (Lib.bytesWorld wd 5 ⟨d.toArray⟩) := below_then hS hbb (Below.size hS)
      go_simp
      refine hK.out _ _ hS (fun _ => ?_)
      clear hK K hcv hbb
      try simp only [Act.put, List.setIfInBounds_toArray, List.set_cons_zero, List.set_cons_succ]
      generalize grownCap wd d.length 0 5 = gc at *
      generalize hwR : Lib.bytesWorld wd 5 ⟨d.toArray⟩ = wR7 at *
      clear hwR
      generalize hgB2 : World.heap wd = hpB at *
      clear hgB2
      refine wpAnyH_ready (rs := [2]) (by kernel_rfl) (by simp) ?_
      refine AllReadyH.cons (o := { dst := some 11, op := Op.call { callee := Callee.value (Operand.func 53), args := #[Operand.tmp 10], argTypes := #[3] }, type := 9, pos := "tape.go:76", after := #[{ on := 1, ground := Ground.data }], guard := none }) rfl (fun K hK => ?_) (AllReadyH.nil)
      have q1 := cell_below hS p1; have q2 := cell_below hS p2
      go_simp
      refine (K1 _).out.mono ?_
      rintro e w102 ⟨rfl, hb⟩
      replace hS : (fun W => Below w1.heap.size w1 W) w102 := below_then hS hb (Below.size hS)
      try replace hrb := hrb.below hb
      refine hK.out _ _ hS (fun _ => ?_)
      clear hK K hb
      try simp only [Act.put, List.setIfInBounds_toArray, List.set_cons_zero, List.set_cons_succ]
      refine wpAnyH_take (i := 3) (oi := { dst := some 12, op := Op.binOp BinOp.add 9 (Operand.const (Value.string { data := #[105, 110, 103, 101, 115, 116, 32] })) (Operand.tmp 11) 9, type := 9, pos := "tape.go:76", after := #[{ on := 2, ground := Ground.data }], guard := none }) (v := ?_) rfl (by kernel_rfl) (by kernel_rfl) (by kernel_rfl) (fun _ _ _ h => h) (Or.inl ⟨by rfl, ?_⟩) (by assumption) ?_
      rotate_left
      · (intro wS hS; go_simp <;> with_reducible rfl)
      try simp only [Act.put, List.setIfInBounds_toArray, List.set_cons_zero, List.set_cons_succ]
      refine wpAnyH_take (i := 4) (oi := { dst := some 13, op := Op.binOp BinOp.add 9 (Operand.tmp 12) (Operand.const (Value.string { data := #[32] })) 9, type := 9, pos := "tape.go:76", after := #[{ on := 3, ground := Ground.data }], guard := none }) (v := ?_) rfl (by kernel_rfl) (by kernel_rfl) (by kernel_rfl) (fun _ _ _ h => h) (Or.inl ⟨by rfl, ?_⟩) (by assumption) ?_
      rotate_left
      · (intro wS hS; go_simp <;> with_reducible rfl)
      try simp only [Act.put, List.setIfInBounds_toArray, List.set_cons_zero, List.set_cons_succ]
      refine wpAnyH_ready (rs := [8]) (by kernel_rfl) (by simp) ?_
      refine AllReadyH.cons (o := { dst := some 17, op := Op.call { callee := Callee.value (Operand.func 125), args := #[Operand.tmp 16], argTypes := #[53] }, type := 9, pos := "tape.go:76", after := #[{ on := 7, ground := Ground.data }, { on := 2, ground := Ground.chain }], guard := none }) rfl (fun K hK => ?_) (AllReadyH.nil)
      have q1 := cell_below hS p1; have q2 := cell_below hS p2
      go_simp
      refine (K2 _ _ _ hrb).out.mono ?_
      rintro e w108 ⟨rfl, hb⟩
      replace hS : (fun W => Below w1.heap.size w1 W) w108 := below_then hS hb (Below.size hS)
      try replace hrb := hrb.below hb
      refine hK.out _ _ hS (fun _ => ?_)
      clear hK K hb
      try simp only [Act.put, List.setIfInBounds_toArray, List.set_cons_zero, List.set_cons_succ]
      refine wpAnyH_take (i := 9) (oi := { dst := some 18, op := Op.binOp BinOp.add 9 (Operand.tmp 13) (Operand.tmp 17) 9, type := 9, pos := "tape.go:76", after := #[{ on := 4, ground := Ground.data }, { on := 8, ground := Ground.data }], guard := none }) (v := ?_) rfl (by kernel_rfl) (by kernel_rfl) (by kernel_rfl) (fun _ _ _ h => h) (Or.inl ⟨by rfl, ?_⟩) (by assumption) ?_
      rotate_left
      · (intro wS hS; go_simp <;> with_reducible rfl)
      try simp only [Act.put, List.setIfInBounds_toArray, List.set_cons_zero, List.set_cons_succ]
      refine wpAnyH_take (i := 10) (oi := { dst := some 2, op := Op.assign (Operand.tmp 18), type := 9, pos := "tape.go:76", after := #[{ on := 9, ground := Ground.data }, { on := 8, ground := Ground.chain }, { on := 0, ground := Ground.phase }, { on := 1, ground := Ground.phase }, { on := 2, ground := Ground.phase }, { on := 3, ground := Ground.phase }, { on := 4, ground := Ground.phase }, { on := 5, ground := Ground.phase }, { on := 6, ground := Ground.phase }, { on := 7, ground := Ground.phase }, { on := 8, ground := Ground.phase }, { on := 9, ground := Ground.phase }], guard := none }) (v := ?_) rfl (by kernel_rfl) (by kernel_rfl) (by kernel_rfl) (fun _ _ _ h => h) (Or.inl ⟨by rfl, ?_⟩) (by assumption) ?_
      rotate_left
      · (intro wS hS; go_simp <;> with_reducible rfl)
      try simp only [Act.put, List.setIfInBounds_toArray, List.set_cons_zero, List.set_cons_succ]
      refine wpAnyH_done (by kernel_rfl) ?_ _
      go_wp2_with fail
      go_ret
      exact ⟨by rw [HE.out]; rfl, below_trans hB hS⟩
  have k8 : (k == 8) = false := by rw [beq_eq_false_iff_ne]; exact h8
  by_cases h9 : k = 9
  · have HF : Hid (lineS ⟨k, d, p, a, b⟩ = wPow) := by show _ = _; unfold lineS; rw [if_neg h8, if_pos h9]
    generalize lineS ⟨k, d, p, a, b⟩ = fx at *
    subst h9
    clear h8
    go_enter Try.func90, Try.ntmps90
    go_wp2_with fail
    go_ret
    exact ⟨by rw [HF.out]; rfl, hB⟩
  have k9 : (k == 9) = false := by rw [beq_eq_false_iff_ne]; exact h9
  by_cases hc : cmdCheck k a b = 0
  · have HF : Hid (lineS ⟨k, d, p, a, b⟩ = textK k a b) := by show _ = _; unfold lineS; rw [if_neg h8, if_neg h9, if_pos hc]
    have KT := fun W => Lib.hid (ctext_yes k a b W hc)
    generalize lineS ⟨k, d, p, a, b⟩ = fx at *
    clear h8 h9 hc
    go_enter Try.func90, Try.ntmps90
    go_wp2_with fail
    refine (KT _).out.mono ?_
    rintro e w2 ⟨rfl, hb⟩
    go_wp2_with fail
    go_ret
    exact ⟨by rw [HF.out]; rfl, below_trans hB hb⟩
  · have HF : Hid (lineS ⟨k, d, p, a, b⟩ = []) := by show _ = _; unfold lineS; rw [if_neg h8, if_neg h9, if_neg hc]
    have KT := fun W => Lib.hid (ctext_no k a b (cmdCheck k a b) W rfl hc)
    generalize lineS ⟨k, d, p, a, b⟩ = fx at *
    generalize cmdCheck k a b = ck at *
    clear h8 h9 hc
    go_enter Try.func90, Try.ntmps90
    go_wp2_with fail
    refine (KT _).out.mono ?_
    rintro e w2 ⟨rfl, hb⟩
    go_wp2_with fail
    go_ret
    exact ⟨by rw [HF.out]; rfl, below_trans hB hb⟩
end Go.Proofs.Ytefipigdkdopcaa
