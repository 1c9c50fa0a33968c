/- Contracts of layer 36 (reply): bytes as digits. No condition but the length's bound. -/
import Derived.Test.YtefipigdkdopcaaCmd4
import Derived.Deep.RegionHeld
namespace Go.Proofs.Ytefipigdkdopcaa
open Go.RowKit

/-- A digit below 16; a text's bytes as digits. -/
def hx16 (d : Nat) : UInt8 := if d < 10 then UInt8.ofNat (48 + d) else UInt8.ofNat (87 + d)
def hexS (xs : List UInt8) : List UInt8 := xs.flatMap fun c => [hx16 (c.toNat / 16), hx16 (c.toNat % 16)]
theorem hexS_cons (c : UInt8) (r : List UInt8) : hexS (c :: r) = hx16 (c.toNat / 16) :: hx16 (c.toNat % 16) :: hexS r := rfl
theorem hexS_length (xs : List UInt8) : (hexS xs).length = 2 * xs.length := by
  induction xs with
  | nil => rfl
  | cons c r ih => rw [hexS_cons, List.length_cons, List.length_cons, ih, List.length_cons]; omega
theorem hx_extract (d : Nat) (h : d < 16) : (⟨#[48, 49, 50, 51, 52, 53, 54, 55, 56, 57, 97, 98, 99, 100, 101, 102]⟩ : ByteArray).extract d (d + 1) = ⟨([hx16 d] : List UInt8).toArray⟩ := by
  rcases (by omega : d = 0 ∨ d = 1 ∨ d = 2 ∨ d = 3 ∨ d = 4 ∨ d = 5 ∨ d = 6 ∨ d = 7 ∨ d = 8 ∨ d = 9 ∨ d = 10 ∨ d = 11 ∨ d = 12 ∨ d = 13 ∨ d = 14 ∨ d = 15) with rfl | rfl | rfl | rfl | rfl | rfl | rfl | rfl | rfl | rfl | rfl | rfl | rfl | rfl | rfl | rfl <;> rfl
theorem drop_getD (xs : List UInt8) (j : Nat) (h : j < xs.length) : xs.drop j = xs.getD j 0 :: xs.drop (j + 1) := by
  rw [List.drop_eq_getElem_cons h, List.getD_eq_getElem?_getD, List.getElem?_eq_getElem h]; rfl

set_option maxRecDepth 100000 in
set_option maxHeartbeats 1000000 in
theorem refhex_any (xs : List UInt8) (w : World) (hN : xs.length ≤ 10000) : Calls Try.prog 31 #[.string ⟨xs.toArray⟩] w fun e w' => e = .returned (.string ⟨(hexS xs).toArray⟩) ∧ Below w.heap.size w w' := by
  have HI : Hid (∀ j, (∀ h : j < (⟨xs.toArray⟩ : ByteArray).size, ((⟨xs.toArray⟩ : ByteArray)[j]'h) = xs.getD j 0) ∧ (∀ h : j < xs.length, xs[j]'h = xs.getD j 0)) := fun j => ⟨fun h => index_list xs j h, fun h => by rw [List.getD_eq_getElem?_getD, List.getElem?_eq_getElem h]; rfl⟩
  go_enter Try.func31, Try.ntmps31
  go_wp2_with fail
  go_loopw [4, 5, 6] (fun t i _ wr => ∃ (j : Nat) (acc : List UInt8), t = .string ⟨acc.toArray⟩ ∧ i = .int .i64 j ∧ j ≤ xs.length ∧ acc.length = 2 * j ∧ Hid (hexS xs = acc ++ hexS (xs.drop j)) ∧ Below w.heap.size w wr) (fun _ i _ _ => xs.length - (intOf i).toNat)
  case atStart => exact ⟨0, [], rfl, rfl, by omega, rfl, by show _ = _; simp, Below.refl _ _⟩
  case round =>
    obtain ⟨j, acc, rfl, rfl, hj, hal, HG, hB⟩ := hrel
    by_cases hlt : j < xs.length
    · have hlt' : (j : Int) < (xs.length : Int) := by omega
      obtain ⟨i1, i2⟩ := HI.out j
      have HG2 : Hid (hexS xs = (acc ++ [hx16 ((xs.getD j 0).toNat / 16)] ++ [hx16 ((xs.getD j 0).toNat % 16)]) ++ hexS (xs.drop (j + 1))) := by
        show _ = _
        rw [HG.out, drop_getD xs j hlt, hexS_cons]
        simp
      have i3 : ∀ h : j < (⟨xs.toArray⟩ : ByteArray).size, ((⟨xs.toArray⟩ : ByteArray)[j]'h).toNat = (xs.getD j 0).toNat := fun h => by rw [i1 h]
      have i4 : ∀ h : j < xs.length, (xs[j]'h).toNat = (xs.getD j 0).toNat := fun h => by rw [i2 h]
      clear i1 i2
      have hc := (xs.getD j 0).toNat_lt
      have x1 := hx_extract ((xs.getD j 0).toNat / 16) (by omega)
      have x2 := hx_extract ((xs.getD j 0).toNat % 16) (by omega)
      have hal2 : acc.length ≤ 20000 := by omega
      have Hal := Lib.hid hal
      clear HG hal
      generalize hx16 ((xs.getD j 0).toNat / 16) = a at *
      generalize hx16 ((xs.getD j 0).toNat % 16) = b at *
      generalize (xs.getD j 0).toNat = c at *
      have f1 : ¬ (9223372036854775807 < acc.length + 1) := by omega
      have f2 : ¬ (9223372036854775807 < acc.length + 1 + 1) := by omega
      have g1 : c / 16 < 16 := by omega
      have g2 : c % 16 < 16 := by omega
      have hw1 : IntKind.i64.wrap ((c : Int)) = (c : Int) := by rw [IntKind.wrap_i64]; omega
      have p1 : IntKind.i64.wrap ((c : Int) / 16) = (c : Int) / 16 := by rw [IntKind.wrap_i64]; omega
      have p2 : IntKind.i64.wrap ((c : Int) / 16 + 1) = (c : Int) / 16 + 1 := by rw [IntKind.wrap_i64]; omega
      have p3 : (c : Int).tmod 16 = (c : Int) % 16 := rfl
      have p4 : IntKind.i64.wrap ((c : Int) % 16 + 1) = (c : Int) % 16 + 1 := by rw [IntKind.wrap_i64]; omega
      have p5 : (0 : Int) ≤ (c : Int) / 16 + 1 ∧ (c : Int) / 16 + 1 ≤ 16 := by omega
      have p6 : (0 : Int) ≤ (c : Int) / 16 ∧ (c : Int) / 16 ≤ (c : Int) / 16 + 1 := by omega
      have p7 : (0 : Int) ≤ (c : Int) % 16 + 1 ∧ (c : Int) % 16 + 1 ≤ 16 := by omega
      have p8 : (0 : Int) ≤ (c : Int) % 16 ∧ (c : Int) % 16 ≤ (c : Int) % 16 + 1 := by omega
      have p9 : ((c : Int) / 16).toNat = c / 16 := by omega
      have p10 : ((c : Int) / 16 + 1).toNat = c / 16 + 1 := by omega
      have p11 : ((c : Int) % 16).toNat = c % 16 := by omega
      have p12 : ((c : Int) % 16 + 1).toNat = c % 16 + 1 := by omega
      obtain ⟨p5a, p5b⟩ := p5
      obtain ⟨p6a, p6b⟩ := p6
      obtain ⟨p7a, p7b⟩ := p7
      obtain ⟨p8a, p8b⟩ := p8
      go_upto_region 7 with fail
      refine wp_region_held (S := fun W => Below (wr).heap.size (wr) W) (by kernel_rfl) ?_
      change wpAnyH _ _ _ _ _ _ _ _ (wr).drew
      have hS : (fun W => Below (wr).heap.size (wr) W) (wr).drew := (Below.refl _ _).drew
      refine wpAnyH_take (i := 0) (oi := { dst := some 17, op := Op.move (Operand.tmp 4), type := 9, pos := "ref.go:40", after := #[], guard := none }) (v := ?_) rfl (by kernel_rfl) (by kernel_rfl) (by kernel_rfl) (fun _ _ _ h => h) (Or.inl ⟨by rfl, ?_⟩) (by assumption) ?_
      rotate_left
      · (intro wS hS; go_simp <;> with_reducible rfl)
      try simp only [Act.put, List.setIfInBounds_toArray, List.set_cons_zero, List.set_cons_succ]
      refine wpAnyH_take (i := 1) (oi := { dst := some 18, op := Op.move (Operand.tmp 3), type := 9, pos := "ref.go:40", after := #[], guard := none }) (v := ?_) rfl (by kernel_rfl) (by kernel_rfl) (by kernel_rfl) (fun _ _ _ h => h) (Or.inl ⟨by rfl, ?_⟩) (by assumption) ?_
      rotate_left
      · (intro wS hS; go_simp <;> with_reducible rfl)
      try simp only [Act.put, List.setIfInBounds_toArray, List.set_cons_zero, List.set_cons_succ]
      refine wpAnyH_take (i := 2) (oi := { dst := some 19, op := Op.move (Operand.tmp 6), type := 3, pos := "ref.go:40", after := #[], guard := none }) (v := ?_) rfl (by kernel_rfl) (by kernel_rfl) (by kernel_rfl) (fun _ _ _ h => h) (Or.inl ⟨by rfl, ?_⟩) (by assumption) ?_
      rotate_left
      · (intro wS hS; go_simp <;> with_reducible rfl)
      try simp only [Act.put, List.setIfInBounds_toArray, List.set_cons_zero, List.set_cons_succ]
      refine wpAnyH_take (i := 3) (oi := { dst := some 20, op := Op.binOp BinOp.quo 3 (Operand.tmp 19) (Operand.const (Value.int IntKind.i64 16)) 3, type := 3, pos := "ref.go:40", after := #[{ on := 2, ground := Ground.data }], guard := none }) (v := ?_) rfl (by kernel_rfl) (by kernel_rfl) (by kernel_rfl) (fun _ _ _ h => h) (Or.inl ⟨by rfl, ?_⟩) (by assumption) ?_
      rotate_left
      · (intro wS hS; go_simp <;> with_reducible rfl)
      try simp only [Act.put, List.setIfInBounds_toArray, List.set_cons_zero, List.set_cons_succ]
      refine wpAnyH_take (i := 4) (oi := { dst := some 21, op := Op.move (Operand.tmp 6), type := 3, pos := "ref.go:40", after := #[], guard := none }) (v := ?_) rfl (by kernel_rfl) (by kernel_rfl) (by kernel_rfl) (fun _ _ _ h => h) (Or.inl ⟨by rfl, ?_⟩) (by assumption) ?_
      rotate_left
      · (intro wS hS; go_simp <;> with_reducible rfl)
      try simp only [Act.put, List.setIfInBounds_toArray, List.set_cons_zero, List.set_cons_succ]
      refine wpAnyH_take (i := 5) (oi := { dst := some 22, op := Op.binOp BinOp.quo 3 (Operand.tmp 21) (Operand.const (Value.int IntKind.i64 16)) 3, type := 3, pos := "ref.go:40", after := #[{ on := 4, ground := Ground.data }], guard := none }) (v := ?_) rfl (by kernel_rfl) (by kernel_rfl) (by kernel_rfl) (fun _ _ _ h => h) (Or.inl ⟨by rfl, ?_⟩) (by assumption) ?_
      rotate_left
      · (intro wS hS; go_simp <;> with_reducible rfl)
      try simp only [Act.put, List.setIfInBounds_toArray, List.set_cons_zero, List.set_cons_succ]
      refine wpAnyH_take (i := 6) (oi := { dst := some 23, op := Op.binOp BinOp.add 3 (Operand.tmp 22) (Operand.const (Value.int IntKind.i64 1)) 3, type := 3, pos := "ref.go:40", after := #[{ on := 5, ground := Ground.data }], guard := none }) (v := ?_) rfl (by kernel_rfl) (by kernel_rfl) (by kernel_rfl) (fun _ _ _ h => h) (Or.inl ⟨by rfl, ?_⟩) (by assumption) ?_
      rotate_left
      · (intro wS hS; go_simp <;> with_reducible rfl)
      try simp only [Act.put, List.setIfInBounds_toArray, List.set_cons_zero, List.set_cons_succ]
      refine wpAnyH_take (i := 7) (oi := { dst := some 24, op := Op.slice 9 (Operand.tmp 18) (some (Operand.tmp 20)) (some (Operand.tmp 23)) none, type := 9, pos := "ref.go:40", after := #[{ on := 1, ground := Ground.data }, { on := 3, ground := Ground.data }, { on := 6, ground := Ground.data }], guard := none }) (v := ?_) rfl (by kernel_rfl) (by kernel_rfl) (by kernel_rfl) (fun _ _ _ h => h) (Or.inl ⟨by rfl, ?_⟩) (by assumption) ?_
      rotate_left
      · (intro wS hS; go_simp <;> with_reducible rfl)
      try simp only [Act.put, List.setIfInBounds_toArray, List.set_cons_zero, List.set_cons_succ]
      refine wpAnyH_take (i := 8) (oi := { dst := some 25, op := Op.binOp BinOp.add 9 (Operand.tmp 17) (Operand.tmp 24) 9, type := 9, pos := "ref.go:40", after := #[{ on := 0, ground := Ground.data }, { on := 7, ground := Ground.data }], guard := none }) (v := ?_) rfl (by kernel_rfl) (by kernel_rfl) (by kernel_rfl) (fun _ _ _ h => h) (Or.inl ⟨by rfl, ?_⟩) (by assumption) ?_
      rotate_left
      · (intro wS hS; go_simp <;> with_reducible rfl)
      try simp only [Act.put, List.setIfInBounds_toArray, List.set_cons_zero, List.set_cons_succ]
      refine wpAnyH_take (i := 9) (oi := { dst := some 26, op := Op.move (Operand.tmp 3), type := 9, pos := "ref.go:40", after := #[], guard := none }) (v := ?_) rfl (by kernel_rfl) (by kernel_rfl) (by kernel_rfl) (fun _ _ _ h => h) (Or.inl ⟨by rfl, ?_⟩) (by assumption) ?_
      rotate_left
      · (intro wS hS; go_simp <;> with_reducible rfl)
      try simp only [Act.put, List.setIfInBounds_toArray, List.set_cons_zero, List.set_cons_succ]
      refine wpAnyH_take (i := 10) (oi := { dst := some 27, op := Op.move (Operand.tmp 6), type := 3, pos := "ref.go:40", after := #[], guard := none }) (v := ?_) rfl (by kernel_rfl) (by kernel_rfl) (by kernel_rfl) (fun _ _ _ h => h) (Or.inl ⟨by rfl, ?_⟩) (by assumption) ?_
      rotate_left
      · (intro wS hS; go_simp <;> with_reducible rfl)
      try simp only [Act.put, List.setIfInBounds_toArray, List.set_cons_zero, List.set_cons_succ]
      refine wpAnyH_take (i := 11) (oi := { dst := some 28, op := Op.binOp BinOp.rem 3 (Operand.tmp 27) (Operand.const (Value.int IntKind.i64 16)) 3, type := 3, pos := "ref.go:40", after := #[{ on := 10, ground := Ground.data }], guard := none }) (v := ?_) rfl (by kernel_rfl) (by kernel_rfl) (by kernel_rfl) (fun _ _ _ h => h) (Or.inl ⟨by rfl, ?_⟩) (by assumption) ?_
      rotate_left
      · (intro wS hS; go_simp <;> with_reducible rfl)
      try simp only [Act.put, List.setIfInBounds_toArray, List.set_cons_zero, List.set_cons_succ]
      refine wpAnyH_take (i := 12) (oi := { dst := some 29, op := Op.move (Operand.tmp 6), type := 3, pos := "ref.go:40", after := #[], guard := none }) (v := ?_) rfl (by kernel_rfl) (by kernel_rfl) (by kernel_rfl) (fun _ _ _ h => h) (Or.inl ⟨by rfl, ?_⟩) (by assumption) ?_
      rotate_left
      · (intro wS hS; go_simp <;> with_reducible rfl)
      try simp only [Act.put, List.setIfInBounds_toArray, List.set_cons_zero, List.set_cons_succ]
      refine wpAnyH_take (i := 13) (oi := { dst := some 30, op := Op.binOp BinOp.rem 3 (Operand.tmp 29) (Operand.const (Value.int IntKind.i64 16)) 3, type := 3, pos := "ref.go:40", after := #[{ on := 12, ground := Ground.data }], guard := none }) (v := ?_) rfl (by kernel_rfl) (by kernel_rfl) (by kernel_rfl) (fun _ _ _ h => h) (Or.inl ⟨by rfl, ?_⟩) (by assumption) ?_
      rotate_left
      · (intro wS hS; go_simp <;> with_reducible rfl)
      try simp only [Act.put, List.setIfInBounds_toArray, List.set_cons_zero, List.set_cons_succ]
      refine wpAnyH_take (i := 14) (oi := { dst := some 31, op := Op.binOp BinOp.add 3 (Operand.tmp 30) (Operand.const (Value.int IntKind.i64 1)) 3, type := 3, pos := "ref.go:40", after := #[{ on := 13, ground := Ground.data }], guard := none }) (v := ?_) rfl (by kernel_rfl) (by kernel_rfl) (by kernel_rfl) (fun _ _ _ h => h) (Or.inl ⟨by rfl, ?_⟩) (by assumption) ?_
      rotate_left
      · (intro wS hS; go_simp <;> with_reducible rfl)
      try simp only [Act.put, List.setIfInBounds_toArray, List.set_cons_zero, List.set_cons_succ]
      refine wpAnyH_take (i := 15) (oi := { dst := some 32, op := Op.slice 9 (Operand.tmp 26) (some (Operand.tmp 28)) (some (Operand.tmp 31)) none, type := 9, pos := "ref.go:40", after := #[{ on := 9, ground := Ground.data }, { on := 11, ground := Ground.data }, { on := 14, ground := Ground.data }], guard := none }) (v := ?_) rfl (by kernel_rfl) (by kernel_rfl) (by kernel_rfl) (fun _ _ _ h => h) (Or.inl ⟨by rfl, ?_⟩) (by assumption) ?_
      rotate_left
      · (intro wS hS; go_simp <;> with_reducible rfl)
      try simp only [Act.put, List.setIfInBounds_toArray, List.set_cons_zero, List.set_cons_succ]
      refine wpAnyH_take (i := 16) (oi := { dst := some 33, op := Op.binOp BinOp.add 9 (Operand.tmp 25) (Operand.tmp 32) 9, type := 9, pos := "ref.go:40", after := #[{ on := 8, ground := Ground.data }, { on := 15, ground := Ground.data }], guard := none }) (v := ?_) rfl (by kernel_rfl) (by kernel_rfl) (by kernel_rfl) (fun _ _ _ h => h) (Or.inl ⟨by rfl, ?_⟩) (by assumption) ?_
      rotate_left
      · (intro wS hS; go_simp <;> with_reducible rfl)
      try simp only [Act.put, List.setIfInBounds_toArray, List.set_cons_zero, List.set_cons_succ]
      refine wpAnyH_take (i := 17) (oi := { dst := some 4, op := Op.assign (Operand.tmp 33), type := 9, pos := "ref.go:40", after := #[{ on := 16, ground := Ground.data }, { on := 0, ground := Ground.phase }, { on := 1, ground := Ground.phase }, { on := 2, ground := Ground.phase }, { on := 3, ground := Ground.phase }, { on := 4, ground := Ground.phase }, { on := 5, ground := Ground.phase }, { on := 6, ground := Ground.phase }, { on := 7, ground := Ground.phase }, { on := 8, ground := Ground.phase }, { on := 9, ground := Ground.phase }, { on := 10, ground := Ground.phase }, { on := 11, ground := Ground.phase }, { on := 12, ground := Ground.phase }, { on := 13, ground := Ground.phase }, { on := 14, ground := Ground.phase }, { on := 15, ground := Ground.phase }, { on := 16, ground := Ground.phase }], guard := none }) (v := ?_) rfl (by kernel_rfl) (by kernel_rfl) (by kernel_rfl) (fun _ _ _ h => h) (Or.inl ⟨by rfl, ?_⟩) (by assumption) ?_
      rotate_left
      · (intro wS hS; go_simp <;> with_reducible rfl)
      try simp only [Act.put, List.setIfInBounds_toArray, List.set_cons_zero, List.set_cons_succ]
      refine wpAnyH_done (by kernel_rfl) ?_ _
      go_wp2_with fail
      go_roundw
      case rel => exact ⟨j + 1, acc ++ [a] ++ [b], by simp [cat_bytes], by go_num, by omega, by simp [Hal.out]; omega, HG2, hB.trans (below_of hS hB.size)⟩
      case measure => simp [intOf]; omega
    · have hlt' : ¬ (j : Int) < (xs.length : Int) := by omega
      obtain rfl : j = xs.length := by omega
      have HG2 : Hid (hexS xs = acc) := by
        show _ = _
        rw [HG.out, List.drop_eq_nil_of_le (Nat.le_refl _)]
        simp [hexS]
      clear HG
      go_wp2_with fail
      go_ret
      exact ⟨by rw [HG2.out] <;> rfl, hB⟩
end Go.Proofs.Ytefipigdkdopcaa
