/- Contracts of the reference's Value and Parts. No condition but the lengths' bounds. -/
import Derived.Test.YtefipigdkdopcaaDoorRune4
import Derived.Deep.RegionHeld
import Derived.Deep.DeepCutAuto
namespace Go.Proofs.YtefipigdkdopcaaDoor
open Go.RowKit

/-- The number of the rune that a text begins with; -1: it begins with none. -/
def valR (xs : List UInt8) : Int := if brk xs then -1 else ((decL xs).1 : Int)
theorem size_zero {xs : List UInt8} (h : sizeR xs = 0) (h0 : 0 < xs.length) : brk xs := by
  unfold sizeR at h
  by_cases hb : brk xs
  · exact hb
  · rw [if_neg hb] at h
    by_cases hl : at8 xs 0 < 128
    · rw [decL_low hl] at h; cases h
    · have := (decL_high (xs := xs) (by omega)).2.2.1
      omega
/-- The ways of a rune's value. -/
theorem val_ways (xs : List UInt8) (h0 : 0 < xs.length) :
    (sizeR xs = 0 ∧ valR xs = -1) ∨ (sizeR xs = 1 ∧ at8 xs 0 < 128 ∧ valR xs = at8 xs 0) ∨
    (sizeR xs = 2 ∧ 2 ≤ xs.length ∧ 192 ≤ at8 xs 0 ∧ 128 ≤ at8 xs 1 ∧ valR xs = 64 * ((at8 xs 0 : Int) - 192) + at8 xs 1 - 128) ∨
    (sizeR xs = 3 ∧ 3 ≤ xs.length ∧ 224 ≤ at8 xs 0 ∧ 128 ≤ at8 xs 1 ∧ 128 ≤ at8 xs 2 ∧ valR xs = 4096 * ((at8 xs 0 : Int) - 224) + 64 * ((at8 xs 1 : Int) - 128) + at8 xs 2 - 128) ∨
    (sizeR xs = 4 ∧ 4 ≤ xs.length ∧ 240 ≤ at8 xs 0 ∧ 128 ≤ at8 xs 1 ∧ 128 ≤ at8 xs 2 ∧ 128 ≤ at8 xs 3 ∧ valR xs = 262144 * ((at8 xs 0 : Int) - 240) + 4096 * ((at8 xs 1 : Int) - 128) + 64 * ((at8 xs 2 : Int) - 128) + at8 xs 3 - 128) := by
  by_cases hz : sizeR xs = 0
  · exact .inl ⟨hz, by unfold valR; rw [if_pos (size_zero hz h0)]⟩
  refine .inr ?_
  have hnb : ¬ brk xs := fun hb => hz (by unfold sizeR; rw [if_pos hb])
  have hv : valR xs = ((decL xs).1 : Int) := by unfold valR; rw [if_neg hnb]
  have hs : sizeR xs = (decL xs).2 := by unfold sizeR; rw [if_neg hnb]
  have hlen : ∀ k, 0 < at8 xs k → k < xs.length := by
    intro k hk
    by_cases hkl : k < xs.length
    · exact hkl
    · rw [at8_out (by omega)] at hk; omega
  rw [hv, hs]
  have e := decL_eq xs
  unfold brk at hnb
  by_cases g0 : at8 xs 0 < 128
  · rw [if_pos g0] at e
    rw [e]
    exact .inl ⟨rfl, g0, rfl⟩
  rw [if_neg g0] at e
  by_cases g1 : 192 ≤ at8 xs 0 ∧ at8 xs 0 < 224 ∧ 128 ≤ at8 xs 1 ∧ at8 xs 1 < 192
  · rw [if_pos g1] at e
    split at e
    · rw [e]
      have := hlen 1 (by omega)
      exact .inr (.inl ⟨rfl, by omega, by omega, by omega, by dsimp only; omega⟩)
    · exact absurd e hnb
  rw [if_neg g1] at e
  by_cases g2 : 224 ≤ at8 xs 0 ∧ at8 xs 0 < 240 ∧ (128 ≤ at8 xs 1 ∧ at8 xs 1 < 192) ∧ 128 ≤ at8 xs 2 ∧ at8 xs 2 < 192
  · rw [if_pos g2] at e
    split at e
    · rw [e]
      have := hlen 2 (by omega)
      exact .inr (.inr (.inl ⟨rfl, by omega, by omega, by omega, by omega, by dsimp only; omega⟩))
    · exact absurd e hnb
  rw [if_neg g2] at e
  by_cases g3 : 240 ≤ at8 xs 0 ∧ at8 xs 0 < 248 ∧ (128 ≤ at8 xs 1 ∧ at8 xs 1 < 192) ∧ (128 ≤ at8 xs 2 ∧ at8 xs 2 < 192) ∧ 128 ≤ at8 xs 3 ∧ at8 xs 3 < 192
  · rw [if_pos g3] at e
    split at e
    · rw [e]
      have := hlen 3 (by omega)
      exact .inr (.inr (.inr ⟨rfl, by omega, by omega, by omega, by omega, by omega, by dsimp only; omega⟩))
    · exact absurd e hnb
  rw [if_neg g3] at e
  exact absurd e hnb

set_option maxRecDepth 100000 in
set_option maxHeartbeats 2000000 in
theorem value4_any (xs : List UInt8) (w : World) (h0 : 0 < xs.length) (hN : xs.length ≤ 100000) : Calls Tryd.prog 15 #[.string ⟨xs.toArray⟩] w fun e w' => e = .returned (.int .i64 (valR xs)) ∧ Below w.heap.size w w' := by
  have KS := fun W => Lib.hid (size4_any xs W h0 hN)
  have hidx : ∀ k, (∀ h : k < (⟨xs.toArray⟩ : ByteArray).size, ((⟨xs.toArray⟩ : ByteArray)[k]'h) = xs.getD k 0) ∧ (∀ h : k < xs.length, xs[k]'h = xs.getD k 0) := fun k => ⟨fun h => index_list xs k h, fun h => by rw [List.getD_eq_getElem?_getD, List.getElem?_eq_getElem h]; rfl⟩
  obtain ⟨i0, i00⟩ := hidx 0
  obtain ⟨i1, i10⟩ := hidx 1
  obtain ⟨i2, i20⟩ := hidx 2
  obtain ⟨i3, i30⟩ := hidx 3
  clear hidx
  have b0 := at8_lt xs 0
  have b1 := at8_lt xs 1
  have b2 := at8_lt xs 2
  have b3 := at8_lt xs 3
  have hB := Below.refl w.heap.size w
  have hw := val_ways xs h0
  have hl0 : (0 : Int) < (xs.length : Int) := by omega
  unfold at8 at b0 b1 b2 b3 hw
  generalize hs0 : sizeR xs = sz at *
  generalize hv0 : valR xs = vr at *
  clear hs0 hv0
  generalize xs.getD 0 0 = c0 at *
  generalize xs.getD 1 0 = c1 at *
  generalize xs.getD 2 0 = c2 at *
  generalize xs.getD 3 0 = c3 at *
  generalize hz0 : c0.toNat = z0 at *
  generalize hz1 : c1.toNat = z1 at *
  generalize hz2 : c2.toNat = z2 at *
  generalize hz3 : c3.toNat = z3 at *
  rcases hw with ⟨rfl, rfl⟩ | ⟨rfl, q0, rfl⟩ | ⟨rfl, q, q0, q1, hvr⟩ | ⟨rfl, q, q0, q1, q2, hvr⟩ | ⟨rfl, q, q0, q1, q2, q3, hvr⟩
  · go_enter Tryd.func15, Tryd.ntmps15
    go_wp2_with (refine (KS _).out.mono ?_; rintro e w' ⟨rfl, rfl⟩)
    go_ret
    exact ⟨rfl, hB⟩
  · go_enter Tryd.func15, Tryd.ntmps15
    go_wp2_with (refine (KS _).out.mono ?_; rintro e w' ⟨rfl, rfl⟩)
    go_ret
    exact ⟨rfl, hB⟩
  · have q' : (1 : Int) < (xs.length : Int) := by omega
    have HV := Lib.hid hvr
    clear hvr
    go_enter Tryd.func15, Tryd.ntmps15
    go_wp2_with (refine (KS _).out.mono ?_; rintro e w' ⟨rfl, rfl⟩)
    go_ret
    exact ⟨by rw [HV.out]; rfl, hB⟩
  · have q' : (1 : Int) < (xs.length : Int) := by omega
    have q'' : (2 : Int) < (xs.length : Int) := by omega
    have w1 : IntKind.i64.wrap ((z0 : Int) - 224) = z0 - 224 := by rw [IntKind.wrap_i64]; omega
    have w2 : IntKind.i64.wrap (4096 * ((z0 : Int) - 224)) = 4096 * (z0 - 224) := by rw [IntKind.wrap_i64]; omega
    have w3 : IntKind.i64.wrap ((z1 : Int) - 128) = z1 - 128 := by rw [IntKind.wrap_i64]; omega
    have w4 : IntKind.i64.wrap (64 * ((z1 : Int) - 128)) = 64 * (z1 - 128) := by rw [IntKind.wrap_i64]; omega
    have w5 : IntKind.i64.wrap (4096 * ((z0 : Int) - 224) + 64 * ((z1 : Int) - 128)) = 4096 * (z0 - 224) + 64 * (z1 - 128) := by rw [IntKind.wrap_i64]; omega
    have w6 : IntKind.i64.wrap (4096 * ((z0 : Int) - 224) + 64 * ((z1 : Int) - 128) + z2) = 4096 * (z0 - 224) + 64 * (z1 - 128) + z2 := by rw [IntKind.wrap_i64]; omega
    have w7 : IntKind.i64.wrap (4096 * ((z0 : Int) - 224) + 64 * ((z1 : Int) - 128) + z2 - 128) = 4096 * (z0 - 224) + 64 * (z1 - 128) + z2 - 128 := by rw [IntKind.wrap_i64]; omega
    have w8 : IntKind.i64.wrap (z0 : Int) = z0 := by rw [IntKind.wrap_i64]; omega
    have w9 : IntKind.i64.wrap (z1 : Int) = z1 := by rw [IntKind.wrap_i64]; omega
    have w10 : IntKind.i64.wrap (z2 : Int) = z2 := by rw [IntKind.wrap_i64]; omega
    have HV := Lib.hid hvr
    clear hvr
    go_enter Tryd.func15, Tryd.ntmps15
    go_wp2_with (refine (KS _).out.mono ?_; rintro e w' ⟨rfl, rfl⟩)
    refine wp_region_held (S := fun W => Below (w).heap.size (w) W) (by kernel_rfl) ?_
    change wpAnyH _ _ _ _ _ _ _ _ (w).drew
    have hS : (fun W => Below (w).heap.size (w) W) (w).drew := (Below.refl _ _).drew
    refine wpAnyH_take (i := 0) (oi := { dst := some 24, op := Op.move (Operand.tmp 3), type := 3, pos := "ref.go:51", after := #[], guard := none }) (v := ?_) rfl (by kernel_rfl) (by kernel_rfl) (by kernel_rfl) (fun _ _ _ h => h) (Or.inl ⟨by rfl, ?_⟩) (by assumption) ?_
    rotate_left
    · (intro wS hS; go_simp <;> with_reducible rfl)
    try simp only [Act.put, List.setIfInBounds_toArray, List.set_cons_zero, List.set_cons_succ]
    refine wpAnyH_take (i := 1) (oi := { dst := some 25, op := Op.binOp BinOp.sub 3 (Operand.tmp 24) (Operand.const (Value.int IntKind.i64 224)) 3, type := 3, pos := "ref.go:51", after := #[{ on := 0, ground := Ground.data }], guard := none }) (v := ?_) rfl (by kernel_rfl) (by kernel_rfl) (by kernel_rfl) (fun _ _ _ h => h) (Or.inl ⟨by rfl, ?_⟩) (by assumption) ?_
    rotate_left
    · (intro wS hS; go_simp <;> with_reducible rfl)
    try simp only [Act.put, List.setIfInBounds_toArray, List.set_cons_zero, List.set_cons_succ]
    refine wpAnyH_take (i := 2) (oi := { dst := some 26, op := Op.binOp BinOp.mul 3 (Operand.const (Value.int IntKind.i64 4096)) (Operand.tmp 25) 3, type := 3, pos := "ref.go:51", after := #[{ on := 1, ground := Ground.data }], guard := none }) (v := ?_) rfl (by kernel_rfl) (by kernel_rfl) (by kernel_rfl) (fun _ _ _ h => h) (Or.inl ⟨by rfl, ?_⟩) (by assumption) ?_
    rotate_left
    · (intro wS hS; go_simp <;> with_reducible rfl)
    try simp only [Act.put, List.setIfInBounds_toArray, List.set_cons_zero, List.set_cons_succ]
    refine wpAnyH_take (i := 3) (oi := { dst := some 27, op := Op.move (Operand.tmp 0), type := 9, pos := "ref.go:51", after := #[], guard := none }) (v := ?_) rfl (by kernel_rfl) (by kernel_rfl) (by kernel_rfl) (fun _ _ _ h => h) (Or.inl ⟨by rfl, ?_⟩) (by assumption) ?_
    rotate_left
    · (intro wS hS; go_simp <;> with_reducible rfl)
    try simp only [Act.put, List.setIfInBounds_toArray, List.set_cons_zero, List.set_cons_succ]
    refine wpAnyH_take (i := 4) (oi := { dst := some 28, op := Op.index 9 (Operand.tmp 27) (Operand.const (Value.int IntKind.i64 1)), type := 5, pos := "ref.go:51", after := #[{ on := 3, ground := Ground.data }], guard := none }) (v := ?_) rfl (by kernel_rfl) (by kernel_rfl) (by kernel_rfl) (fun _ _ _ h => h) (Or.inl ⟨by rfl, ?_⟩) (by assumption) ?_
    rotate_left
    · (intro wS hS; go_simp <;> with_reducible rfl)
    try simp only [Act.put, List.setIfInBounds_toArray, List.set_cons_zero, List.set_cons_succ]
    refine wpAnyH_take (i := 5) (oi := { dst := some 29, op := Op.convert 5 3 (Operand.tmp 28), type := 3, pos := "ref.go:51", after := #[{ on := 4, ground := Ground.data }], guard := none }) (v := ?_) rfl (by kernel_rfl) (by kernel_rfl) (by kernel_rfl) (fun _ _ _ h => h) (Or.inl ⟨by rfl, ?_⟩) (by assumption) ?_
    rotate_left
    · (intro wS hS; go_simp <;> with_reducible rfl)
    try simp only [Act.put, List.setIfInBounds_toArray, List.set_cons_zero, List.set_cons_succ]
    refine wpAnyH_take (i := 6) (oi := { dst := some 30, op := Op.binOp BinOp.sub 3 (Operand.tmp 29) (Operand.const (Value.int IntKind.i64 128)) 3, type := 3, pos := "ref.go:51", after := #[{ on := 5, ground := Ground.data }], guard := none }) (v := ?_) rfl (by kernel_rfl) (by kernel_rfl) (by kernel_rfl) (fun _ _ _ h => h) (Or.inl ⟨by rfl, ?_⟩) (by assumption) ?_
    rotate_left
    · (intro wS hS; go_simp <;> with_reducible rfl)
    try simp only [Act.put, List.setIfInBounds_toArray, List.set_cons_zero, List.set_cons_succ]
    refine wpAnyH_take (i := 7) (oi := { dst := some 31, op := Op.binOp BinOp.mul 3 (Operand.const (Value.int IntKind.i64 64)) (Operand.tmp 30) 3, type := 3, pos := "ref.go:51", after := #[{ on := 6, ground := Ground.data }], guard := none }) (v := ?_) rfl (by kernel_rfl) (by kernel_rfl) (by kernel_rfl) (fun _ _ _ h => h) (Or.inl ⟨by rfl, ?_⟩) (by assumption) ?_
    rotate_left
    · (intro wS hS; go_simp <;> with_reducible rfl)
    try simp only [Act.put, List.setIfInBounds_toArray, List.set_cons_zero, List.set_cons_succ]
    refine wpAnyH_take (i := 8) (oi := { dst := some 32, op := Op.binOp BinOp.add 3 (Operand.tmp 26) (Operand.tmp 31) 3, type := 3, pos := "ref.go:51", after := #[{ on := 2, ground := Ground.data }, { on := 7, ground := Ground.data }], guard := none }) (v := ?_) rfl (by kernel_rfl) (by kernel_rfl) (by kernel_rfl) (fun _ _ _ h => h) (Or.inl ⟨by rfl, ?_⟩) (by assumption) ?_
    rotate_left
    · (intro wS hS; go_simp <;> with_reducible rfl)
    try simp only [Act.put, List.setIfInBounds_toArray, List.set_cons_zero, List.set_cons_succ]
    refine wpAnyH_take (i := 9) (oi := { dst := some 33, op := Op.move (Operand.tmp 0), type := 9, pos := "ref.go:51", after := #[], guard := none }) (v := ?_) rfl (by kernel_rfl) (by kernel_rfl) (by kernel_rfl) (fun _ _ _ h => h) (Or.inl ⟨by rfl, ?_⟩) (by assumption) ?_
    rotate_left
    · (intro wS hS; go_simp <;> with_reducible rfl)
    try simp only [Act.put, List.setIfInBounds_toArray, List.set_cons_zero, List.set_cons_succ]
    refine wpAnyH_take (i := 10) (oi := { dst := some 34, op := Op.index 9 (Operand.tmp 33) (Operand.const (Value.int IntKind.i64 2)), type := 5, pos := "ref.go:51", after := #[{ on := 9, ground := Ground.data }], guard := none }) (v := ?_) rfl (by kernel_rfl) (by kernel_rfl) (by kernel_rfl) (fun _ _ _ h => h) (Or.inl ⟨by rfl, ?_⟩) (by assumption) ?_
    rotate_left
    · (intro wS hS; go_simp <;> with_reducible rfl)
    try simp only [Act.put, List.setIfInBounds_toArray, List.set_cons_zero, List.set_cons_succ]
    refine wpAnyH_take (i := 11) (oi := { dst := some 35, op := Op.convert 5 3 (Operand.tmp 34), type := 3, pos := "ref.go:51", after := #[{ on := 10, ground := Ground.data }], guard := none }) (v := ?_) rfl (by kernel_rfl) (by kernel_rfl) (by kernel_rfl) (fun _ _ _ h => h) (Or.inl ⟨by rfl, ?_⟩) (by assumption) ?_
    rotate_left
    · (intro wS hS; go_simp <;> with_reducible rfl)
    try simp only [Act.put, List.setIfInBounds_toArray, List.set_cons_zero, List.set_cons_succ]
    refine wpAnyH_take (i := 12) (oi := { dst := some 36, op := Op.binOp BinOp.add 3 (Operand.tmp 32) (Operand.tmp 35) 3, type := 3, pos := "ref.go:51", after := #[{ on := 8, ground := Ground.data }, { on := 11, ground := Ground.data }], guard := none }) (v := ?_) rfl (by kernel_rfl) (by kernel_rfl) (by kernel_rfl) (fun _ _ _ h => h) (Or.inl ⟨by rfl, ?_⟩) (by assumption) ?_
    rotate_left
    · (intro wS hS; go_simp <;> with_reducible rfl)
    try simp only [Act.put, List.setIfInBounds_toArray, List.set_cons_zero, List.set_cons_succ]
    refine wpAnyH_take (i := 13) (oi := { dst := some 37, op := Op.binOp BinOp.sub 3 (Operand.tmp 36) (Operand.const (Value.int IntKind.i64 128)) 3, type := 3, pos := "ref.go:51", after := #[{ on := 12, ground := Ground.data }], guard := none }) (v := ?_) rfl (by kernel_rfl) (by kernel_rfl) (by kernel_rfl) (fun _ _ _ h => h) (Or.inl ⟨by rfl, ?_⟩) (by assumption) ?_
    rotate_left
    · (intro wS hS; go_simp <;> with_reducible rfl)
    try simp only [Act.put, List.setIfInBounds_toArray, List.set_cons_zero, List.set_cons_succ]
    refine wpAnyH_take (i := 14) (oi := { dst := some 2, op := Op.assign (Operand.tmp 37), type := 3, pos := "ref.go:51", after := #[{ on := 13, ground := Ground.data }, { on := 0, ground := Ground.phase }, { on := 1, ground := Ground.phase }, { on := 2, ground := Ground.phase }, { on := 3, ground := Ground.phase }, { on := 4, ground := Ground.phase }, { on := 5, ground := Ground.phase }, { on := 6, ground := Ground.phase }, { on := 7, ground := Ground.phase }, { on := 8, ground := Ground.phase }, { on := 9, ground := Ground.phase }, { on := 10, ground := Ground.phase }, { on := 11, ground := Ground.phase }, { on := 12, ground := Ground.phase }, { on := 13, ground := Ground.phase }], guard := none }) (v := ?_) rfl (by kernel_rfl) (by kernel_rfl) (by kernel_rfl) (fun _ _ _ h => h) (Or.inl ⟨by rfl, ?_⟩) (by assumption) ?_
    rotate_left
    · (intro wS hS; go_simp <;> with_reducible rfl)
    try simp only [Act.put, List.setIfInBounds_toArray, List.set_cons_zero, List.set_cons_succ]
    refine wpAnyH_done (by kernel_rfl) ?_ _
    go_wp2_with fail
    go_ret
    exact ⟨by rw [HV.out]; rfl, hS⟩
  · have q' : (1 : Int) < (xs.length : Int) := by omega
    have q'' : (2 : Int) < (xs.length : Int) := by omega
    have q''' : (3 : Int) < (xs.length : Int) := by omega
    have w1 : IntKind.i64.wrap ((z0 : Int) - 240) = z0 - 240 := by rw [IntKind.wrap_i64]; omega
    have w2 : IntKind.i64.wrap (262144 * ((z0 : Int) - 240)) = 262144 * (z0 - 240) := by rw [IntKind.wrap_i64]; omega
    have w3 : IntKind.i64.wrap ((z1 : Int) - 128) = z1 - 128 := by rw [IntKind.wrap_i64]; omega
    have w4 : IntKind.i64.wrap (4096 * ((z1 : Int) - 128)) = 4096 * (z1 - 128) := by rw [IntKind.wrap_i64]; omega
    have w5 : IntKind.i64.wrap (262144 * ((z0 : Int) - 240) + 4096 * ((z1 : Int) - 128)) = 262144 * (z0 - 240) + 4096 * (z1 - 128) := by rw [IntKind.wrap_i64]; omega
    have w6 : IntKind.i64.wrap ((z2 : Int) - 128) = z2 - 128 := by rw [IntKind.wrap_i64]; omega
    have w7 : IntKind.i64.wrap (64 * ((z2 : Int) - 128)) = 64 * (z2 - 128) := by rw [IntKind.wrap_i64]; omega
    have w8 : IntKind.i64.wrap (262144 * ((z0 : Int) - 240) + 4096 * ((z1 : Int) - 128) + 64 * ((z2 : Int) - 128)) = 262144 * (z0 - 240) + 4096 * (z1 - 128) + 64 * (z2 - 128) := by rw [IntKind.wrap_i64]; omega
    have w9 : IntKind.i64.wrap (262144 * ((z0 : Int) - 240) + 4096 * ((z1 : Int) - 128) + 64 * ((z2 : Int) - 128) + z3) = 262144 * (z0 - 240) + 4096 * (z1 - 128) + 64 * (z2 - 128) + z3 := by rw [IntKind.wrap_i64]; omega
    have w10 : IntKind.i64.wrap (262144 * ((z0 : Int) - 240) + 4096 * ((z1 : Int) - 128) + 64 * ((z2 : Int) - 128) + z3 - 128) = 262144 * (z0 - 240) + 4096 * (z1 - 128) + 64 * (z2 - 128) + z3 - 128 := by rw [IntKind.wrap_i64]; omega
    have w11 : IntKind.i64.wrap (z0 : Int) = z0 := by rw [IntKind.wrap_i64]; omega
    have w12 : IntKind.i64.wrap (z1 : Int) = z1 := by rw [IntKind.wrap_i64]; omega
    have w13 : IntKind.i64.wrap (z2 : Int) = z2 := by rw [IntKind.wrap_i64]; omega
    have w14 : IntKind.i64.wrap (z3 : Int) = z3 := by rw [IntKind.wrap_i64]; omega
    have HV := Lib.hid hvr
    clear hvr
    go_enter Tryd.func15, Tryd.ntmps15
    go_wp2_with (refine (KS _).out.mono ?_; rintro e w' ⟨rfl, rfl⟩)
    refine wp_region_held (S := fun W => Below (w).heap.size (w) W) (by kernel_rfl) ?_
    change wpAnyH _ _ _ _ _ _ _ _ (w).drew
    have hS : (fun W => Below (w).heap.size (w) W) (w).drew := (Below.refl _ _).drew
    refine wpAnyH_take (i := 0) (oi := { dst := some 40, op := Op.move (Operand.tmp 3), type := 3, pos := "ref.go:53", after := #[], guard := none }) (v := ?_) rfl (by kernel_rfl) (by kernel_rfl) (by kernel_rfl) (fun _ _ _ h => h) (Or.inl ⟨by rfl, ?_⟩) (by assumption) ?_
    rotate_left
    · (intro wS hS; go_simp <;> with_reducible rfl)
    try simp only [Act.put, List.setIfInBounds_toArray, List.set_cons_zero, List.set_cons_succ]
    refine wpAnyH_take (i := 1) (oi := { dst := some 41, op := Op.binOp BinOp.sub 3 (Operand.tmp 40) (Operand.const (Value.int IntKind.i64 240)) 3, type := 3, pos := "ref.go:53", after := #[{ on := 0, ground := Ground.data }], guard := none }) (v := ?_) rfl (by kernel_rfl) (by kernel_rfl) (by kernel_rfl) (fun _ _ _ h => h) (Or.inl ⟨by rfl, ?_⟩) (by assumption) ?_
    rotate_left
    · (intro wS hS; go_simp <;> with_reducible rfl)
    try simp only [Act.put, List.setIfInBounds_toArray, List.set_cons_zero, List.set_cons_succ]
    refine wpAnyH_take (i := 2) (oi := { dst := some 42, op := Op.binOp BinOp.mul 3 (Operand.const (Value.int IntKind.i64 262144)) (Operand.tmp 41) 3, type := 3, pos := "ref.go:53", after := #[{ on := 1, ground := Ground.data }], guard := none }) (v := ?_) rfl (by kernel_rfl) (by kernel_rfl) (by kernel_rfl) (fun _ _ _ h => h) (Or.inl ⟨by rfl, ?_⟩) (by assumption) ?_
    rotate_left
    · (intro wS hS; go_simp <;> with_reducible rfl)
    try simp only [Act.put, List.setIfInBounds_toArray, List.set_cons_zero, List.set_cons_succ]
    refine wpAnyH_take (i := 3) (oi := { dst := some 43, op := Op.move (Operand.tmp 0), type := 9, pos := "ref.go:53", after := #[], guard := none }) (v := ?_) rfl (by kernel_rfl) (by kernel_rfl) (by kernel_rfl) (fun _ _ _ h => h) (Or.inl ⟨by rfl, ?_⟩) (by assumption) ?_
    rotate_left
    · (intro wS hS; go_simp <;> with_reducible rfl)
    try simp only [Act.put, List.setIfInBounds_toArray, List.set_cons_zero, List.set_cons_succ]
    refine wpAnyH_take (i := 4) (oi := { dst := some 44, op := Op.index 9 (Operand.tmp 43) (Operand.const (Value.int IntKind.i64 1)), type := 5, pos := "ref.go:53", after := #[{ on := 3, ground := Ground.data }], guard := none }) (v := ?_) rfl (by kernel_rfl) (by kernel_rfl) (by kernel_rfl) (fun _ _ _ h => h) (Or.inl ⟨by rfl, ?_⟩) (by assumption) ?_
    rotate_left
    · (intro wS hS; go_simp <;> with_reducible rfl)
    try simp only [Act.put, List.setIfInBounds_toArray, List.set_cons_zero, List.set_cons_succ]
    refine wpAnyH_take (i := 5) (oi := { dst := some 45, op := Op.convert 5 3 (Operand.tmp 44), type := 3, pos := "ref.go:53", after := #[{ on := 4, ground := Ground.data }], guard := none }) (v := ?_) rfl (by kernel_rfl) (by kernel_rfl) (by kernel_rfl) (fun _ _ _ h => h) (Or.inl ⟨by rfl, ?_⟩) (by assumption) ?_
    rotate_left
    · (intro wS hS; go_simp <;> with_reducible rfl)
    try simp only [Act.put, List.setIfInBounds_toArray, List.set_cons_zero, List.set_cons_succ]
    refine wpAnyH_take (i := 6) (oi := { dst := some 46, op := Op.binOp BinOp.sub 3 (Operand.tmp 45) (Operand.const (Value.int IntKind.i64 128)) 3, type := 3, pos := "ref.go:53", after := #[{ on := 5, ground := Ground.data }], guard := none }) (v := ?_) rfl (by kernel_rfl) (by kernel_rfl) (by kernel_rfl) (fun _ _ _ h => h) (Or.inl ⟨by rfl, ?_⟩) (by assumption) ?_
    rotate_left
    · (intro wS hS; go_simp <;> with_reducible rfl)
    try simp only [Act.put, List.setIfInBounds_toArray, List.set_cons_zero, List.set_cons_succ]
    refine wpAnyH_take (i := 7) (oi := { dst := some 47, op := Op.binOp BinOp.mul 3 (Operand.const (Value.int IntKind.i64 4096)) (Operand.tmp 46) 3, type := 3, pos := "ref.go:53", after := #[{ on := 6, ground := Ground.data }], guard := none }) (v := ?_) rfl (by kernel_rfl) (by kernel_rfl) (by kernel_rfl) (fun _ _ _ h => h) (Or.inl ⟨by rfl, ?_⟩) (by assumption) ?_
    rotate_left
    · (intro wS hS; go_simp <;> with_reducible rfl)
    try simp only [Act.put, List.setIfInBounds_toArray, List.set_cons_zero, List.set_cons_succ]
    refine wpAnyH_take (i := 8) (oi := { dst := some 48, op := Op.binOp BinOp.add 3 (Operand.tmp 42) (Operand.tmp 47) 3, type := 3, pos := "ref.go:53", after := #[{ on := 2, ground := Ground.data }, { on := 7, ground := Ground.data }], guard := none }) (v := ?_) rfl (by kernel_rfl) (by kernel_rfl) (by kernel_rfl) (fun _ _ _ h => h) (Or.inl ⟨by rfl, ?_⟩) (by assumption) ?_
    rotate_left
    · (intro wS hS; go_simp <;> with_reducible rfl)
    try simp only [Act.put, List.setIfInBounds_toArray, List.set_cons_zero, List.set_cons_succ]
    refine wpAnyH_take (i := 9) (oi := { dst := some 49, op := Op.move (Operand.tmp 0), type := 9, pos := "ref.go:53", after := #[], guard := none }) (v := ?_) rfl (by kernel_rfl) (by kernel_rfl) (by kernel_rfl) (fun _ _ _ h => h) (Or.inl ⟨by rfl, ?_⟩) (by assumption) ?_
    rotate_left
    · (intro wS hS; go_simp <;> with_reducible rfl)
    try simp only [Act.put, List.setIfInBounds_toArray, List.set_cons_zero, List.set_cons_succ]
    refine wpAnyH_take (i := 10) (oi := { dst := some 50, op := Op.index 9 (Operand.tmp 49) (Operand.const (Value.int IntKind.i64 2)), type := 5, pos := "ref.go:53", after := #[{ on := 9, ground := Ground.data }], guard := none }) (v := ?_) rfl (by kernel_rfl) (by kernel_rfl) (by kernel_rfl) (fun _ _ _ h => h) (Or.inl ⟨by rfl, ?_⟩) (by assumption) ?_
    rotate_left
    · (intro wS hS; go_simp <;> with_reducible rfl)
    try simp only [Act.put, List.setIfInBounds_toArray, List.set_cons_zero, List.set_cons_succ]
    refine wpAnyH_take (i := 11) (oi := { dst := some 51, op := Op.convert 5 3 (Operand.tmp 50), type := 3, pos := "ref.go:53", after := #[{ on := 10, ground := Ground.data }], guard := none }) (v := ?_) rfl (by kernel_rfl) (by kernel_rfl) (by kernel_rfl) (fun _ _ _ h => h) (Or.inl ⟨by rfl, ?_⟩) (by assumption) ?_
    rotate_left
    · (intro wS hS; go_simp <;> with_reducible rfl)
    try simp only [Act.put, List.setIfInBounds_toArray, List.set_cons_zero, List.set_cons_succ]
    refine wpAnyH_take (i := 12) (oi := { dst := some 52, op := Op.binOp BinOp.sub 3 (Operand.tmp 51) (Operand.const (Value.int IntKind.i64 128)) 3, type := 3, pos := "ref.go:53", after := #[{ on := 11, ground := Ground.data }], guard := none }) (v := ?_) rfl (by kernel_rfl) (by kernel_rfl) (by kernel_rfl) (fun _ _ _ h => h) (Or.inl ⟨by rfl, ?_⟩) (by assumption) ?_
    rotate_left
    · (intro wS hS; go_simp <;> with_reducible rfl)
    try simp only [Act.put, List.setIfInBounds_toArray, List.set_cons_zero, List.set_cons_succ]
    refine wpAnyH_take (i := 13) (oi := { dst := some 53, op := Op.binOp BinOp.mul 3 (Operand.const (Value.int IntKind.i64 64)) (Operand.tmp 52) 3, type := 3, pos := "ref.go:53", after := #[{ on := 12, ground := Ground.data }], guard := none }) (v := ?_) rfl (by kernel_rfl) (by kernel_rfl) (by kernel_rfl) (fun _ _ _ h => h) (Or.inl ⟨by rfl, ?_⟩) (by assumption) ?_
    rotate_left
    · (intro wS hS; go_simp <;> with_reducible rfl)
    try simp only [Act.put, List.setIfInBounds_toArray, List.set_cons_zero, List.set_cons_succ]
    refine wpAnyH_take (i := 14) (oi := { dst := some 54, op := Op.binOp BinOp.add 3 (Operand.tmp 48) (Operand.tmp 53) 3, type := 3, pos := "ref.go:53", after := #[{ on := 8, ground := Ground.data }, { on := 13, ground := Ground.data }], guard := none }) (v := ?_) rfl (by kernel_rfl) (by kernel_rfl) (by kernel_rfl) (fun _ _ _ h => h) (Or.inl ⟨by rfl, ?_⟩) (by assumption) ?_
    rotate_left
    · (intro wS hS; go_simp <;> with_reducible rfl)
    try simp only [Act.put, List.setIfInBounds_toArray, List.set_cons_zero, List.set_cons_succ]
    refine wpAnyH_take (i := 15) (oi := { dst := some 55, op := Op.move (Operand.tmp 0), type := 9, pos := "ref.go:53", after := #[], guard := none }) (v := ?_) rfl (by kernel_rfl) (by kernel_rfl) (by kernel_rfl) (fun _ _ _ h => h) (Or.inl ⟨by rfl, ?_⟩) (by assumption) ?_
    rotate_left
    · (intro wS hS; go_simp <;> with_reducible rfl)
    try simp only [Act.put, List.setIfInBounds_toArray, List.set_cons_zero, List.set_cons_succ]
    refine wpAnyH_take (i := 16) (oi := { dst := some 56, op := Op.index 9 (Operand.tmp 55) (Operand.const (Value.int IntKind.i64 3)), type := 5, pos := "ref.go:53", after := #[{ on := 15, ground := Ground.data }], guard := none }) (v := ?_) rfl (by kernel_rfl) (by kernel_rfl) (by kernel_rfl) (fun _ _ _ h => h) (Or.inl ⟨by rfl, ?_⟩) (by assumption) ?_
    rotate_left
    · (intro wS hS; go_simp <;> with_reducible rfl)
    try simp only [Act.put, List.setIfInBounds_toArray, List.set_cons_zero, List.set_cons_succ]
    refine wpAnyH_take (i := 17) (oi := { dst := some 57, op := Op.convert 5 3 (Operand.tmp 56), type := 3, pos := "ref.go:53", after := #[{ on := 16, ground := Ground.data }], guard := none }) (v := ?_) rfl (by kernel_rfl) (by kernel_rfl) (by kernel_rfl) (fun _ _ _ h => h) (Or.inl ⟨by rfl, ?_⟩) (by assumption) ?_
    rotate_left
    · (intro wS hS; go_simp <;> with_reducible rfl)
    try simp only [Act.put, List.setIfInBounds_toArray, List.set_cons_zero, List.set_cons_succ]
    refine wpAnyH_take (i := 18) (oi := { dst := some 58, op := Op.binOp BinOp.add 3 (Operand.tmp 54) (Operand.tmp 57) 3, type := 3, pos := "ref.go:53", after := #[{ on := 14, ground := Ground.data }, { on := 17, ground := Ground.data }], guard := none }) (v := ?_) rfl (by kernel_rfl) (by kernel_rfl) (by kernel_rfl) (fun _ _ _ h => h) (Or.inl ⟨by rfl, ?_⟩) (by assumption) ?_
    rotate_left
    · (intro wS hS; go_simp <;> with_reducible rfl)
    try simp only [Act.put, List.setIfInBounds_toArray, List.set_cons_zero, List.set_cons_succ]
    refine wpAnyH_take (i := 19) (oi := { dst := some 59, op := Op.binOp BinOp.sub 3 (Operand.tmp 58) (Operand.const (Value.int IntKind.i64 128)) 3, type := 3, pos := "ref.go:53", after := #[{ on := 18, ground := Ground.data }], guard := none }) (v := ?_) rfl (by kernel_rfl) (by kernel_rfl) (by kernel_rfl) (fun _ _ _ h => h) (Or.inl ⟨by rfl, ?_⟩) (by assumption) ?_
    rotate_left
    · (intro wS hS; go_simp <;> with_reducible rfl)
    try simp only [Act.put, List.setIfInBounds_toArray, List.set_cons_zero, List.set_cons_succ]
    refine wpAnyH_take (i := 20) (oi := { dst := some 2, op := Op.assign (Operand.tmp 59), type := 3, pos := "ref.go:53", after := #[{ on := 19, ground := Ground.data }, { on := 0, ground := Ground.phase }, { on := 1, ground := Ground.phase }, { on := 2, ground := Ground.phase }, { on := 3, ground := Ground.phase }, { on := 4, ground := Ground.phase }, { on := 5, ground := Ground.phase }, { on := 6, ground := Ground.phase }, { on := 7, ground := Ground.phase }, { on := 8, ground := Ground.phase }, { on := 9, ground := Ground.phase }, { on := 10, ground := Ground.phase }, { on := 11, ground := Ground.phase }, { on := 12, ground := Ground.phase }, { on := 13, ground := Ground.phase }, { on := 14, ground := Ground.phase }, { on := 15, ground := Ground.phase }, { on := 16, ground := Ground.phase }, { on := 17, ground := Ground.phase }, { on := 18, ground := Ground.phase }, { on := 19, ground := Ground.phase }], guard := none }) (v := ?_) rfl (by kernel_rfl) (by kernel_rfl) (by kernel_rfl) (fun _ _ _ h => h) (Or.inl ⟨by rfl, ?_⟩) (by assumption) ?_
    rotate_left
    · (intro wS hS; go_simp <;> with_reducible rfl)
    try simp only [Act.put, List.setIfInBounds_toArray, List.set_cons_zero, List.set_cons_succ]
    refine wpAnyH_done (by kernel_rfl) ?_ _
    go_wp2_with fail
    go_ret
    exact ⟨by rw [HV.out]; rfl, hS⟩

/-- A text's runes. -/
def partsF (xs : List UInt8) (i : Nat) : List (List UInt8) :=
  if h : i < xs.length then (xs.drop i).take (widAt xs i) :: partsF xs (i + widAt xs i) else []
termination_by xs.length - i
decreasing_by have := (wid_pos xs i h).1; omega
theorem size_wid (xs : List UInt8) (i : Nat) (h : i < xs.length) : widAt xs i = if sizeR (xs.drop i) = 0 then 1 else sizeR (xs.drop i) := by
  have h0 : 0 < (xs.drop i).length := by rw [List.length_drop]; omega
  by_cases hz : sizeR (xs.drop i) = 0
  · rw [if_pos hz]
    have := size_zero hz h0
    unfold widAt
    rw [this]
  · rw [if_neg hz]
    unfold sizeR at hz ⊢
    by_cases hb : brk (xs.drop i)
    · rw [if_pos hb] at hz; exact absurd rfl hz
    · rw [if_neg hb]; rfl
theorem partsF_len (xs : List UInt8) (i : Nat) : (partsF xs i).length ≤ xs.length - i := by
  fun_induction partsF xs i with
  | case1 i h ih => have := (wid_pos xs i h).1; simp only [List.length_cons]; omega
  | case2 i h => simp

set_option maxRecDepth 100000 in
set_option maxHeartbeats 2000000 in
theorem parts4_any (xs : List UInt8) (w : World) (hN : xs.length ≤ 100000) : Calls Tryd.prog 14 #[.string ⟨xs.toArray⟩] w fun e w' => ∃ A c, e = .returned (.slice A (partsF xs 0).length c) ∧ RdS w' A (partsF xs 0).length c (partsF xs 0) ∧ Below w.heap.size w w' := by
  have hB0 := Below.refl w.heap.size w
  go_enter Tryd.func14, Tryd.ntmps14
  go_wp2_with fail
  go_loopw [3, 4, 5] (fun v i _ wr => ∃ (j : Nat) (acc : List (List UInt8)), i = .int .i64 j ∧ j ≤ xs.length ∧ acc.length ≤ j ∧ Hid (partsF xs 0 = acc ++ partsF xs j) ∧ wr.ownsRow w.heap.size 9 1 v acc.length (strs acc) ∧ Below w.heap.size w wr) (fun _ i _ _ => xs.length - (intOf i).toNat)
  case atStart => exact ⟨0, [], rfl, by omega, by simp, rfl, World.ownsRow_nil _ _ _ _, hB0⟩
  case round =>
    obtain ⟨j, acc, rfl, hj, hacc, HG, hown, hB⟩ := hrel
    clear hB0
    by_cases hlt : j < xs.length
    · have hdl : (xs.drop j).length = xs.length - j := List.length_drop
      have KS := fun W => Lib.hid (size4_any (xs.drop j) W (by omega) (by omega))
      have hx := extract_list xs j xs.length
      rw [List.take_of_length_le (by omega)] at hx
      have HW := Lib.hid (size_wid xs j hlt)
      obtain ⟨hw1, hw2⟩ := wid_pos xs j hlt
      have hP : Hid (partsF xs 0 = (acc ++ [(xs.drop j).take (widAt xs j)]) ++ partsF xs (j + widAt xs j)) := by
        show _ = _
        rw [HG.out]
        conv => lhs; rw [partsF]
        rw [dif_pos hlt]
        simp
      have hx2 := extract_list xs j (j + widAt xs j)
      rw [show j + widAt xs j - j = widAt xs j by omega] at hx2
      generalize (xs.drop j).take (widAt xs j) = p at *
      generalize hq : xs.drop j = q at *
      generalize widAt xs j = wd at *
      clear HG hdl hq
      have hjl : (j : Int) ≤ (xs.length : Int) := by omega
      have hjl2 : ((j : Int) + wd) ≤ (xs.length : Int) := by omega
      have hjl3 : (j : Int) < (xs.length : Int) := by omega
      have HO := fun v2 (h2 : wd = v2) => h2
      by_cases hz : sizeR q = 0
      · have hwd : wd = 1 := by have := HW.out; rwa [if_pos hz] at this
        subst hwd
        rw [hz] at KS
        clear HW hz HO
        go_wp2_with (first
          | (go_at_call 31; refine (KS _).out.mono ?_; rintro e w' ⟨rfl, rfl⟩)
          | (at_builtin; refine wpl_append1 rfl (.tmp 16) (.tmp 23) 32 rfl w.heap.size 9 (.string ⟨#[]⟩) 1 16 Tryd.underlying32 info_str rfl (by decide) _ acc.length _ rfl hown #[.string ⟨p.toArray⟩] (0, 0) 1 rfl rfl (by simp [Value.oneCell']) (by unfold maxLen; omega) (by omega) hB.size ?_; intro v3 w3 hown3 hg3; have hB3 := below_own hB hown hg3; clear hg3))
        go_roundw
        case rel => exact ⟨j + 1, acc ++ [p], by go_num, by omega, by simp; omega, hP, by rw [strs_append]; simpa [strs] using hown3, hB3⟩
        case measure => simp [intOf]; omega
      · have hwd : wd = sizeR q := by have := HW.out; rwa [if_neg hz] at this
        rw [← hwd] at KS hz
        have hz1 : ((wd : Int) == 0) = false := by rw [beq_eq_false_iff_ne]; omega
        clear HW hz HO hwd
        go_wp2_with (first
          | (go_at_call 31; refine (KS _).out.mono ?_; rintro e w' ⟨rfl, rfl⟩)
          | (at_builtin; refine wpl_append1 rfl (.tmp 16) (.tmp 23) 32 rfl w.heap.size 9 (.string ⟨#[]⟩) 1 16 Tryd.underlying32 info_str rfl (by decide) _ acc.length _ rfl hown #[.string ⟨p.toArray⟩] (0, 0) 1 rfl rfl (by simp [Value.oneCell']) (by unfold maxLen; omega) (by omega) hB.size ?_; intro v3 w3 hown3 hg3; have hB3 := below_own hB hown hg3; clear hg3))
        go_roundw
        case rel => exact ⟨j + wd, acc ++ [p], by go_num, by omega, by simp; omega, hP, by rw [strs_append]; simpa [strs] using hown3, hB3⟩
        case measure => simp [intOf]; omega
    · have HG2 : Hid (partsF xs 0 = acc) := by
        show _ = _
        rw [HG.out]
        conv => lhs; rhs; rw [partsF]
        rw [dif_neg hlt]
        simp
      obtain rfl : j = xs.length := by omega
      obtain ⟨A, c, rfl, hr, -⟩ := Rd.of_own hown
      clear HG
      go_wp2_with fail
      go_ret
      exact ⟨A, c, by rw [HG2.out]; rfl, by rw [HG2.out]; exact hr, hB⟩
end Go.Proofs.YtefipigdkdopcaaDoor
