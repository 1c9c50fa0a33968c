/- Contract of the reference's Line. No condition but the length's bound. -/
import Derived.Test.YtefipigdkdopcaaCmd7
import Derived.Deep.DeepCutAuto
import Derived.Deep.RegionHeld
namespace Go.Proofs.Ytefipigdkdopcaa
open Go.RowKit

set_option maxRecDepth 100000 in
set_option maxHeartbeats 2000000 in
theorem r35line_any (s : List UInt8) (w : World) (hN : s.length ≤ 90000) : Calls Try.prog 20 #[.string ⟨s.toArray⟩] w fun e w' => e = .returned (.bool (lineB s)) ∧ Below w.heap.size w w' := by
  have KS : ∀ W, Hid (Calls Try.prog 61 #[.string ⟨s.toArray⟩, .int .u8 32, .int .u8 9, .bool true] W fun e w' => ∃ A c, e = .returned (.slice A (wordsL s).length c) ∧ RdS w' A (wordsL s).length c (wordsL s) ∧ Below W.heap.size W w') := fun W => Lib.hid (split_rd s 32 9 true 32 9 rfl rfl W (by omega))
  have HL : Hid (lineB s = match wordsL s with
    | [] => true
    | h :: r => decide (kindK h = 0 ∨ r.length ≠ manyK (kindK h : Nat))) := rfl
  have hlen : (wordsL s).length ≤ s.length + 1 := split2_length 32 9 true s
  generalize wordsL s = l at *
  go_enter Try.func20, Try.ntmps20
  go_wp2_with fail
  refine (KS _).out.mono ?_
  rintro e w1 ⟨A, c, rfl, hr, hB⟩
  clear KS
  cases l with
  | nil =>
    go_wp2_with fail
    go_ret
    exact ⟨by rw [HL.out]; rfl, hB⟩
  | cons h r =>
    dsimp only at HL
    rw [List.length_cons] at hlen hr ⊢
    obtain ⟨ad, rfl, hc⟩ := hr.sat 0 (by omega)
    have hc0 : w1.cell? ad = some (.string ⟨h.toArray⟩) := by
      have e : ad.add 0 = ad := by unfold Addr.add; simp
      rw [e] at hc
      exact hc
    clear hc hr
    have HK : Hid (∀ j : Nat, 1 ≤ j → j ≤ 7 → wordK (j : Nat) = h → kindK h = j) := fun j h1 h2 e => by rw [← e]; exact kindK_word ⟨h1, h2⟩
    have H0 : Hid (kindK h ≠ 0 → wordK (kindK h : Nat) = h ∧ 1 ≤ kindK h ∧ kindK h ≤ 7) := fun e => ⟨(kindK_of e).1, (kindK_of e).2, kindK_le h⟩
    have HLN := Lib.hid hlen
    clear hlen
    generalize hn : r.length = n at *
    have hn2 : n ≤ 90001 := by have := HLN.out; omega
    clear hn HLN
    go_wp2_with fail
    go_loopw [4] (fun k wr => ∃ j : Nat, 1 ≤ j ∧ j ≤ 8 ∧ k = .int .i64 j ∧ Hid (∀ i : Nat, 1 ≤ i → i < j → wordK (i : Nat) = h → n ≠ manyK (i : Nat)) ∧ Below w1.heap.size w1 wr) (fun k _ => 8 - (intOf k).toNat)
    case atStart => exact ⟨1, by omega, by omega, rfl, fun i h1 h2 => by omega, Below.refl _ _⟩
    case round =>
      obtain ⟨j, hj1, hj8, rfl, HN, hBr⟩ := hrel
      have cr := cell_below hBr hc0
      by_cases hlt : j ≤ 7
      · have KW := fun W => Lib.hid (r35word_any (j : Nat) W (by omega))
        have KM := fun W => Lib.hid (r35many_any (j : Nat) W (by omega))
        have hm2 := manyK_le (j : Nat)
        by_cases he : wordK (j : Nat) = h
        · have Hkk := Lib.hid (HK.out j hj1 hlt he)
          rw [he] at KW
          have hwr : IntKind.i64.wrap (1 + (manyK (j : Nat) : Int)) = 1 + (manyK (j : Nat) : Int) := by rw [IntKind.wrap_i64]; omega
          by_cases hnm : n = manyK (j : Nat)
          · have HR : Hid (lineB s = false) := by
              show _ = _
              rw [HL.out, Hkk.out, decide_eq_false_iff_not]
              rintro (g | g)
              · omega
              · exact g hnm
            have hE : ((n : Int) + 1 == 1 + (manyK (j : Nat) : Int)) = true := by rw [beq_iff_eq]; omega
            clear HL HK H0 HN he hnm Hkk
            generalize manyK (j : Nat) = m at *
            go_upto_region 7 with fail
            refine wp_region_held (S := fun W => Below (wr).heap.size (wr) W) (by kernel_rfl) ?_
            change wpAnyH _ _ _ _ _ _ _ _ (wr).drew
            have hS : (fun W => Below (wr).heap.size (wr) W) (wr).drew := (Below.refl _ _).drew
            refine wpAnyH_take (i := 0) (oi := { dst := some 14, op := Op.move (Operand.tmp 4), type := 3, pos := "ref.go:60", after := #[], guard := none }) (v := ?_) rfl (by kernel_rfl) (by kernel_rfl) (by kernel_rfl) (fun _ _ _ h => h) (Or.inl ⟨by rfl, ?_⟩) (by assumption) ?_
            rotate_left
            · (intro wS hS; go_simp <;> with_reducible rfl)
            try simp only [Act.put, List.setIfInBounds_toArray, List.set_cons_zero, List.set_cons_succ]
            refine wpAnyH_take (i := 2) (oi := { dst := some 16, op := Op.move (Operand.tmp 3), type := 91, pos := "ref.go:60", after := #[], guard := none }) (v := ?_) rfl (by kernel_rfl) (by kernel_rfl) (by kernel_rfl) (fun _ _ _ h => h) (Or.inl ⟨by rfl, ?_⟩) (by assumption) ?_
            rotate_left
            · (intro wS hS; go_simp <;> with_reducible rfl)
            try simp only [Act.put, List.setIfInBounds_toArray, List.set_cons_zero, List.set_cons_succ]
            refine wpAnyH_take (i := 3) (oi := { dst := some 17, op := Op.indexAddr 91 (Operand.tmp 16) (Operand.const (Value.int IntKind.i64 0)), type := 0, pos := "ref.go:60", after := #[{ on := 2, ground := Ground.data }], guard := none }) (v := ?_) rfl (by kernel_rfl) (by kernel_rfl) (by kernel_rfl) (fun _ _ _ h => h) (Or.inl ⟨by rfl, ?_⟩) (by assumption) ?_
            rotate_left
            · (intro wS hS; go_simp <;> with_reducible rfl)
            try simp only [Act.put, List.setIfInBounds_toArray, List.set_cons_zero, List.set_cons_succ]
            refine wpAnyH_take (i := 4) (oi := { dst := some 18, op := Op.load 9 (Operand.tmp 17), type := 9, pos := "ref.go:60", after := #[{ on := 3, ground := Ground.data }], guard := none }) (v := ?_) rfl (by kernel_rfl) (by kernel_rfl) (by kernel_rfl) (fun _ _ _ h => h) (Or.inl ⟨by rfl, ?_⟩) (by assumption) ?_
            rotate_left
            · (intro wS hS; have cr := cell_below hS cr; go_simp <;> with_reducible rfl)
            try simp only [Act.put, List.setIfInBounds_toArray, List.set_cons_zero, List.set_cons_succ]
            refine wpAnyH_ready (rs := [1]) (by kernel_rfl) (by simp) ?_
            refine AllReadyH.cons (o := { dst := some 15, op := Op.call { callee := Callee.value (Operand.func 59), args := #[Operand.tmp 14], argTypes := #[3] }, type := 9, pos := "ref.go:60", after := #[{ on := 0, ground := Ground.data }], guard := none }) rfl (fun K hK => ?_) AllReadyH.nil
            go_simp
            refine (KW _).out.mono ?_
            rintro e w101 ⟨rfl, hb⟩
            replace hS : (fun W => Below (wr).heap.size (wr) W) w101 := below_then hS hb (Below.size hS)
            refine hK.out _ _ hS (fun _ => ?_)
            clear hK K hb
            try simp only [Act.put, List.setIfInBounds_toArray, List.set_cons_zero, List.set_cons_succ]
            refine wpAnyH_take (i := 5) (oi := { dst := some 19, op := Op.binOp BinOp.eql 9 (Operand.tmp 15) (Operand.tmp 18) 9, type := 4, pos := "ref.go:60", after := #[{ on := 1, ground := Ground.data }, { on := 4, ground := Ground.data }], guard := none }) (v := ?_) rfl (by kernel_rfl) (by kernel_rfl) (by kernel_rfl) (fun _ _ _ h => h) (Or.inl ⟨by rfl, ?_⟩) (by assumption) ?_
            rotate_left
            · (intro wS hS; go_simp <;> with_reducible rfl)
            try simp only [Act.put, List.setIfInBounds_toArray, List.set_cons_zero, List.set_cons_succ]
            refine wpAnyH_take (i := 6) (oi := { dst := some 20, op := Op.move (Operand.tmp 19), type := 4, pos := "ref.go:60", after := #[{ on := 5, ground := Ground.data }, { on := 1, ground := Ground.chain }], guard := none }) (v := ?_) rfl (by kernel_rfl) (by kernel_rfl) (by kernel_rfl) (fun _ _ _ h => h) (Or.inl ⟨by rfl, ?_⟩) (by assumption) ?_
            rotate_left
            · (intro wS hS; go_simp <;> with_reducible rfl)
            try simp only [Act.put, List.setIfInBounds_toArray, List.set_cons_zero, List.set_cons_succ]
            refine wpAnyH_take (i := 7) (oi := { dst := some 21, op := Op.move (Operand.tmp 3), type := 91, pos := "ref.go:60", after := #[{ on := 6, ground := Ground.guard }], guard := some (6, true) }) (v := ?_) rfl (by kernel_rfl) (by kernel_rfl) (by kernel_rfl) (fun _ _ _ h => h) (Or.inl ⟨by rfl, ?_⟩) (by assumption) ?_
            rotate_left
            · (intro wS hS; go_simp <;> with_reducible rfl)
            try simp only [Act.put, List.setIfInBounds_toArray, List.set_cons_zero, List.set_cons_succ]
            refine wpAnyH_take (i := 8) (oi := { dst := some 22, op := Op.call { callee := Callee.builtin Builtin.len, args := #[Operand.tmp 21], argTypes := #[91] }, type := 3, pos := "ref.go:60", after := #[{ on := 7, ground := Ground.data }, { on := 6, ground := Ground.guard }], guard := some (6, true) }) (v := ?_) rfl (by kernel_rfl) (by kernel_rfl) (by kernel_rfl) (fun _ _ _ h => h) (Or.inl ⟨by rfl, ?_⟩) (by assumption) ?_
            rotate_left
            · (intro wS hS; go_simp <;> with_reducible rfl)
            try simp only [Act.put, List.setIfInBounds_toArray, List.set_cons_zero, List.set_cons_succ]
            refine wpAnyH_take (i := 9) (oi := { dst := some 23, op := Op.move (Operand.tmp 4), type := 3, pos := "ref.go:60", after := #[{ on := 6, ground := Ground.guard }], guard := some (6, true) }) (v := ?_) rfl (by kernel_rfl) (by kernel_rfl) (by kernel_rfl) (fun _ _ _ h => h) (Or.inl ⟨by rfl, ?_⟩) (by assumption) ?_
            rotate_left
            · (intro wS hS; go_simp <;> with_reducible rfl)
            try simp only [Act.put, List.setIfInBounds_toArray, List.set_cons_zero, List.set_cons_succ]
            refine wpAnyH_ready (rs := [10]) (by kernel_rfl) (by simp) ?_
            refine AllReadyH.cons (o := { dst := some 24, op := Op.call { callee := Callee.value (Operand.func 54), args := #[Operand.tmp 23], argTypes := #[3] }, type := 3, pos := "ref.go:60", after := #[{ on := 9, ground := Ground.data }, { on := 6, ground := Ground.chain }, { on := 6, ground := Ground.guard }], guard := some (6, true) }) rfl (fun K hK => ?_) AllReadyH.nil
            go_simp
            refine (KM _).out.mono ?_
            rintro e w110 ⟨rfl, hb⟩
            replace hS : (fun W => Below (wr).heap.size (wr) W) w110 := below_then hS hb (Below.size hS)
            refine hK.out _ _ hS (fun _ => ?_)
            clear hK K hb
            try simp only [Act.put, List.setIfInBounds_toArray, List.set_cons_zero, List.set_cons_succ]
            refine wpAnyH_take (i := 11) (oi := { dst := some 25, op := Op.binOp BinOp.add 3 (Operand.const (Value.int IntKind.i64 1)) (Operand.tmp 24) 3, type := 3, pos := "ref.go:60", after := #[{ on := 10, ground := Ground.data }, { on := 6, ground := Ground.guard }], guard := some (6, true) }) (v := ?_) rfl (by kernel_rfl) (by kernel_rfl) (by kernel_rfl) (fun _ _ _ h => h) (Or.inl ⟨by rfl, ?_⟩) (by assumption) ?_
            rotate_left
            · (intro wS hS; go_simp <;> with_reducible rfl)
            try simp only [Act.put, List.setIfInBounds_toArray, List.set_cons_zero, List.set_cons_succ]
            refine wpAnyH_take (i := 12) (oi := { dst := some 26, op := Op.binOp BinOp.eql 3 (Operand.tmp 22) (Operand.tmp 25) 3, type := 4, pos := "ref.go:60", after := #[{ on := 8, ground := Ground.data }, { on := 11, ground := Ground.data }, { on := 6, ground := Ground.guard }], guard := some (6, true) }) (v := ?_) rfl (by kernel_rfl) (by kernel_rfl) (by kernel_rfl) (fun _ _ _ h => h) (Or.inl ⟨by rfl, ?_⟩) (by assumption) ?_
            rotate_left
            · (intro wS hS; go_simp <;> with_reducible rfl)
            try simp only [Act.put, List.setIfInBounds_toArray, List.set_cons_zero, List.set_cons_succ]
            refine wpAnyH_take (i := 13) (oi := { dst := some 27, op := Op.pick (Operand.tmp 20) (Operand.tmp 26) (Operand.const (Value.bool false)), type := 4, pos := "ref.go:60", after := #[{ on := 6, ground := Ground.data }, { on := 12, ground := Ground.data }], guard := none }) (v := ?_) rfl (by kernel_rfl) (by kernel_rfl) (by kernel_rfl) (fun _ _ _ h => h) (Or.inl ⟨by rfl, ?_⟩) (by assumption) ?_
            rotate_left
            · (intro wS hS; go_simp <;> with_reducible rfl)
            try simp only [Act.put, List.setIfInBounds_toArray, List.set_cons_zero, List.set_cons_succ]
            refine wpAnyH_done (by kernel_rfl) ?_ _
            go_wp2_with fail
            go_ret
            exact ⟨by rw [HR.out]; rfl, below_then hB (below_then hBr hS hBr.size) hB.size⟩
          · have HN2 : Hid (∀ i : Nat, 1 ≤ i → i < j + 1 → wordK (i : Nat) = h → n ≠ manyK (i : Nat)) := fun i h1 h2 e => by
              by_cases g : i = j
              · rw [g]; exact hnm
              · exact HN.out i h1 (by omega) e
            have hE : ((n : Int) + 1 == 1 + (manyK (j : Nat) : Int)) = false := by rw [beq_eq_false_iff_ne]; omega
            clear HL HK H0 HN he hnm Hkk
            generalize manyK (j : Nat) = m at *
            go_upto_region 7 with fail
            refine wp_region_held (S := fun W => Below (wr).heap.size (wr) W) (by kernel_rfl) ?_
            change wpAnyH _ _ _ _ _ _ _ _ (wr).drew
            have hS : (fun W => Below (wr).heap.size (wr) W) (wr).drew := (Below.refl _ _).drew
            refine wpAnyH_take (i := 0) (oi := { dst := some 14, op := Op.move (Operand.tmp 4), type := 3, pos := "ref.go:60", after := #[], guard := none }) (v := ?_) rfl (by kernel_rfl) (by kernel_rfl) (by kernel_rfl) (fun _ _ _ h => h) (Or.inl ⟨by rfl, ?_⟩) (by assumption) ?_
            rotate_left
            · (intro wS hS; go_simp <;> with_reducible rfl)
            try simp only [Act.put, List.setIfInBounds_toArray, List.set_cons_zero, List.set_cons_succ]
            refine wpAnyH_take (i := 2) (oi := { dst := some 16, op := Op.move (Operand.tmp 3), type := 91, pos := "ref.go:60", after := #[], guard := none }) (v := ?_) rfl (by kernel_rfl) (by kernel_rfl) (by kernel_rfl) (fun _ _ _ h => h) (Or.inl ⟨by rfl, ?_⟩) (by assumption) ?_
            rotate_left
            · (intro wS hS; go_simp <;> with_reducible rfl)
            try simp only [Act.put, List.setIfInBounds_toArray, List.set_cons_zero, List.set_cons_succ]
            refine wpAnyH_take (i := 3) (oi := { dst := some 17, op := Op.indexAddr 91 (Operand.tmp 16) (Operand.const (Value.int IntKind.i64 0)), type := 0, pos := "ref.go:60", after := #[{ on := 2, ground := Ground.data }], guard := none }) (v := ?_) rfl (by kernel_rfl) (by kernel_rfl) (by kernel_rfl) (fun _ _ _ h => h) (Or.inl ⟨by rfl, ?_⟩) (by assumption) ?_
            rotate_left
            · (intro wS hS; go_simp <;> with_reducible rfl)
            try simp only [Act.put, List.setIfInBounds_toArray, List.set_cons_zero, List.set_cons_succ]
            refine wpAnyH_take (i := 4) (oi := { dst := some 18, op := Op.load 9 (Operand.tmp 17), type := 9, pos := "ref.go:60", after := #[{ on := 3, ground := Ground.data }], guard := none }) (v := ?_) rfl (by kernel_rfl) (by kernel_rfl) (by kernel_rfl) (fun _ _ _ h => h) (Or.inl ⟨by rfl, ?_⟩) (by assumption) ?_
            rotate_left
            · (intro wS hS; have cr := cell_below hS cr; go_simp <;> with_reducible rfl)
            try simp only [Act.put, List.setIfInBounds_toArray, List.set_cons_zero, List.set_cons_succ]
            refine wpAnyH_ready (rs := [1]) (by kernel_rfl) (by simp) ?_
            refine AllReadyH.cons (o := { dst := some 15, op := Op.call { callee := Callee.value (Operand.func 59), args := #[Operand.tmp 14], argTypes := #[3] }, type := 9, pos := "ref.go:60", after := #[{ on := 0, ground := Ground.data }], guard := none }) rfl (fun K hK => ?_) AllReadyH.nil
            go_simp
            refine (KW _).out.mono ?_
            rintro e w101 ⟨rfl, hb⟩
            replace hS : (fun W => Below (wr).heap.size (wr) W) w101 := below_then hS hb (Below.size hS)
            refine hK.out _ _ hS (fun _ => ?_)
            clear hK K hb
            try simp only [Act.put, List.setIfInBounds_toArray, List.set_cons_zero, List.set_cons_succ]
            refine wpAnyH_take (i := 5) (oi := { dst := some 19, op := Op.binOp BinOp.eql 9 (Operand.tmp 15) (Operand.tmp 18) 9, type := 4, pos := "ref.go:60", after := #[{ on := 1, ground := Ground.data }, { on := 4, ground := Ground.data }], guard := none }) (v := ?_) rfl (by kernel_rfl) (by kernel_rfl) (by kernel_rfl) (fun _ _ _ h => h) (Or.inl ⟨by rfl, ?_⟩) (by assumption) ?_
            rotate_left
            · (intro wS hS; go_simp <;> with_reducible rfl)
            try simp only [Act.put, List.setIfInBounds_toArray, List.set_cons_zero, List.set_cons_succ]
            refine wpAnyH_take (i := 6) (oi := { dst := some 20, op := Op.move (Operand.tmp 19), type := 4, pos := "ref.go:60", after := #[{ on := 5, ground := Ground.data }, { on := 1, ground := Ground.chain }], guard := none }) (v := ?_) rfl (by kernel_rfl) (by kernel_rfl) (by kernel_rfl) (fun _ _ _ h => h) (Or.inl ⟨by rfl, ?_⟩) (by assumption) ?_
            rotate_left
            · (intro wS hS; go_simp <;> with_reducible rfl)
            try simp only [Act.put, List.setIfInBounds_toArray, List.set_cons_zero, List.set_cons_succ]
            refine wpAnyH_take (i := 7) (oi := { dst := some 21, op := Op.move (Operand.tmp 3), type := 91, pos := "ref.go:60", after := #[{ on := 6, ground := Ground.guard }], guard := some (6, true) }) (v := ?_) rfl (by kernel_rfl) (by kernel_rfl) (by kernel_rfl) (fun _ _ _ h => h) (Or.inl ⟨by rfl, ?_⟩) (by assumption) ?_
            rotate_left
            · (intro wS hS; go_simp <;> with_reducible rfl)
            try simp only [Act.put, List.setIfInBounds_toArray, List.set_cons_zero, List.set_cons_succ]
            refine wpAnyH_take (i := 8) (oi := { dst := some 22, op := Op.call { callee := Callee.builtin Builtin.len, args := #[Operand.tmp 21], argTypes := #[91] }, type := 3, pos := "ref.go:60", after := #[{ on := 7, ground := Ground.data }, { on := 6, ground := Ground.guard }], guard := some (6, true) }) (v := ?_) rfl (by kernel_rfl) (by kernel_rfl) (by kernel_rfl) (fun _ _ _ h => h) (Or.inl ⟨by rfl, ?_⟩) (by assumption) ?_
            rotate_left
            · (intro wS hS; go_simp <;> with_reducible rfl)
            try simp only [Act.put, List.setIfInBounds_toArray, List.set_cons_zero, List.set_cons_succ]
            refine wpAnyH_take (i := 9) (oi := { dst := some 23, op := Op.move (Operand.tmp 4), type := 3, pos := "ref.go:60", after := #[{ on := 6, ground := Ground.guard }], guard := some (6, true) }) (v := ?_) rfl (by kernel_rfl) (by kernel_rfl) (by kernel_rfl) (fun _ _ _ h => h) (Or.inl ⟨by rfl, ?_⟩) (by assumption) ?_
            rotate_left
            · (intro wS hS; go_simp <;> with_reducible rfl)
            try simp only [Act.put, List.setIfInBounds_toArray, List.set_cons_zero, List.set_cons_succ]
            refine wpAnyH_ready (rs := [10]) (by kernel_rfl) (by simp) ?_
            refine AllReadyH.cons (o := { dst := some 24, op := Op.call { callee := Callee.value (Operand.func 54), args := #[Operand.tmp 23], argTypes := #[3] }, type := 3, pos := "ref.go:60", after := #[{ on := 9, ground := Ground.data }, { on := 6, ground := Ground.chain }, { on := 6, ground := Ground.guard }], guard := some (6, true) }) rfl (fun K hK => ?_) AllReadyH.nil
            go_simp
            refine (KM _).out.mono ?_
            rintro e w110 ⟨rfl, hb⟩
            replace hS : (fun W => Below (wr).heap.size (wr) W) w110 := below_then hS hb (Below.size hS)
            refine hK.out _ _ hS (fun _ => ?_)
            clear hK K hb
            try simp only [Act.put, List.setIfInBounds_toArray, List.set_cons_zero, List.set_cons_succ]
            refine wpAnyH_take (i := 11) (oi := { dst := some 25, op := Op.binOp BinOp.add 3 (Operand.const (Value.int IntKind.i64 1)) (Operand.tmp 24) 3, type := 3, pos := "ref.go:60", after := #[{ on := 10, ground := Ground.data }, { on := 6, ground := Ground.guard }], guard := some (6, true) }) (v := ?_) rfl (by kernel_rfl) (by kernel_rfl) (by kernel_rfl) (fun _ _ _ h => h) (Or.inl ⟨by rfl, ?_⟩) (by assumption) ?_
            rotate_left
            · (intro wS hS; go_simp <;> with_reducible rfl)
            try simp only [Act.put, List.setIfInBounds_toArray, List.set_cons_zero, List.set_cons_succ]
            refine wpAnyH_take (i := 12) (oi := { dst := some 26, op := Op.binOp BinOp.eql 3 (Operand.tmp 22) (Operand.tmp 25) 3, type := 4, pos := "ref.go:60", after := #[{ on := 8, ground := Ground.data }, { on := 11, ground := Ground.data }, { on := 6, ground := Ground.guard }], guard := some (6, true) }) (v := ?_) rfl (by kernel_rfl) (by kernel_rfl) (by kernel_rfl) (fun _ _ _ h => h) (Or.inl ⟨by rfl, ?_⟩) (by assumption) ?_
            rotate_left
            · (intro wS hS; go_simp <;> with_reducible rfl)
            try simp only [Act.put, List.setIfInBounds_toArray, List.set_cons_zero, List.set_cons_succ]
            refine wpAnyH_take (i := 13) (oi := { dst := some 27, op := Op.pick (Operand.tmp 20) (Operand.tmp 26) (Operand.const (Value.bool false)), type := 4, pos := "ref.go:60", after := #[{ on := 6, ground := Ground.data }, { on := 12, ground := Ground.data }], guard := none }) (v := ?_) rfl (by kernel_rfl) (by kernel_rfl) (by kernel_rfl) (fun _ _ _ h => h) (Or.inl ⟨by rfl, ?_⟩) (by assumption) ?_
            rotate_left
            · (intro wS hS; go_simp <;> with_reducible rfl)
            try simp only [Act.put, List.setIfInBounds_toArray, List.set_cons_zero, List.set_cons_succ]
            refine wpAnyH_done (by kernel_rfl) ?_ _
            go_wp2_with fail
            go_roundw
            case rel => exact ⟨j + 1, by omega, by omega, by go_num, HN2, below_then hBr hS hBr.size⟩
            case measure => simp [intOf]; omega
        · have HN2 : Hid (∀ i : Nat, 1 ≤ i → i < j + 1 → wordK (i : Nat) = h → n ≠ manyK (i : Nat)) := fun i h1 h2 e => by
            by_cases g : i = j
            · rw [g] at e; exact absurd e he
            · exact HN.out i h1 (by omega) e
          have hbe : (wordK (j : Nat) == h) = false := by simpa using he
          clear HL HK H0 HN he KM
          generalize wordK (j : Nat) = wd at *
          go_upto_region 7 with fail
          refine wp_region_held (S := fun W => Below (wr).heap.size (wr) W) (by kernel_rfl) ?_
          change wpAnyH _ _ _ _ _ _ _ _ (wr).drew
          have hS : (fun W => Below (wr).heap.size (wr) W) (wr).drew := (Below.refl _ _).drew
          refine wpAnyH_take (i := 0) (oi := { dst := some 14, op := Op.move (Operand.tmp 4), type := 3, pos := "ref.go:60", after := #[], guard := none }) (v := ?_) rfl (by kernel_rfl) (by kernel_rfl) (by kernel_rfl) (fun _ _ _ h => h) (Or.inl ⟨by rfl, ?_⟩) (by assumption) ?_
          rotate_left
          · (intro wS hS; go_simp <;> with_reducible rfl)
          try simp only [Act.put, List.setIfInBounds_toArray, List.set_cons_zero, List.set_cons_succ]
          refine wpAnyH_take (i := 2) (oi := { dst := some 16, op := Op.move (Operand.tmp 3), type := 91, pos := "ref.go:60", after := #[], guard := none }) (v := ?_) rfl (by kernel_rfl) (by kernel_rfl) (by kernel_rfl) (fun _ _ _ h => h) (Or.inl ⟨by rfl, ?_⟩) (by assumption) ?_
          rotate_left
          · (intro wS hS; go_simp <;> with_reducible rfl)
          try simp only [Act.put, List.setIfInBounds_toArray, List.set_cons_zero, List.set_cons_succ]
          refine wpAnyH_take (i := 3) (oi := { dst := some 17, op := Op.indexAddr 91 (Operand.tmp 16) (Operand.const (Value.int IntKind.i64 0)), type := 0, pos := "ref.go:60", after := #[{ on := 2, ground := Ground.data }], guard := none }) (v := ?_) rfl (by kernel_rfl) (by kernel_rfl) (by kernel_rfl) (fun _ _ _ h => h) (Or.inl ⟨by rfl, ?_⟩) (by assumption) ?_
          rotate_left
          · (intro wS hS; go_simp <;> with_reducible rfl)
          try simp only [Act.put, List.setIfInBounds_toArray, List.set_cons_zero, List.set_cons_succ]
          refine wpAnyH_take (i := 4) (oi := { dst := some 18, op := Op.load 9 (Operand.tmp 17), type := 9, pos := "ref.go:60", after := #[{ on := 3, ground := Ground.data }], guard := none }) (v := ?_) rfl (by kernel_rfl) (by kernel_rfl) (by kernel_rfl) (fun _ _ _ h => h) (Or.inl ⟨by rfl, ?_⟩) (by assumption) ?_
          rotate_left
          · (intro wS hS; have cr := cell_below hS cr; go_simp <;> with_reducible rfl)
          try simp only [Act.put, List.setIfInBounds_toArray, List.set_cons_zero, List.set_cons_succ]
          refine wpAnyH_ready (rs := [1]) (by kernel_rfl) (by simp) ?_
          refine AllReadyH.cons (o := { dst := some 15, op := Op.call { callee := Callee.value (Operand.func 59), args := #[Operand.tmp 14], argTypes := #[3] }, type := 9, pos := "ref.go:60", after := #[{ on := 0, ground := Ground.data }], guard := none }) rfl (fun K hK => ?_) AllReadyH.nil
          go_simp
          refine (KW _).out.mono ?_
          rintro e w101 ⟨rfl, hb⟩
          replace hS : (fun W => Below (wr).heap.size (wr) W) w101 := below_then hS hb (Below.size hS)
          refine hK.out _ _ hS (fun _ => ?_)
          clear hK K hb
          try simp only [Act.put, List.setIfInBounds_toArray, List.set_cons_zero, List.set_cons_succ]
          refine wpAnyH_take (i := 5) (oi := { dst := some 19, op := Op.binOp BinOp.eql 9 (Operand.tmp 15) (Operand.tmp 18) 9, type := 4, pos := "ref.go:60", after := #[{ on := 1, ground := Ground.data }, { on := 4, ground := Ground.data }], guard := none }) (v := ?_) rfl (by kernel_rfl) (by kernel_rfl) (by kernel_rfl) (fun _ _ _ h => h) (Or.inl ⟨by rfl, ?_⟩) (by assumption) ?_
          rotate_left
          · (intro wS hS; go_simp <;> with_reducible rfl)
          try simp only [Act.put, List.setIfInBounds_toArray, List.set_cons_zero, List.set_cons_succ]
          refine wpAnyH_take (i := 6) (oi := { dst := some 20, op := Op.move (Operand.tmp 19), type := 4, pos := "ref.go:60", after := #[{ on := 5, ground := Ground.data }, { on := 1, ground := Ground.chain }], guard := none }) (v := ?_) rfl (by kernel_rfl) (by kernel_rfl) (by kernel_rfl) (fun _ _ _ h => h) (Or.inl ⟨by rfl, ?_⟩) (by assumption) ?_
          rotate_left
          · (intro wS hS; go_simp <;> with_reducible rfl)
          try simp only [Act.put, List.setIfInBounds_toArray, List.set_cons_zero, List.set_cons_succ]
          refine wpAnyH_take (i := 7) (oi := { dst := some 21, op := Op.move (Operand.tmp 3), type := 91, pos := "ref.go:60", after := #[{ on := 6, ground := Ground.guard }], guard := some (6, true) }) (v := undef) rfl (by kernel_rfl) (by kernel_rfl) (by kernel_rfl) (fun _ _ _ h => h) (Or.inr ⟨by rfl, rfl⟩) (by assumption) ?_
          try simp only [Act.put, List.setIfInBounds_toArray, List.set_cons_zero, List.set_cons_succ]
          refine wpAnyH_take (i := 8) (oi := { dst := some 22, op := Op.call { callee := Callee.builtin Builtin.len, args := #[Operand.tmp 21], argTypes := #[91] }, type := 3, pos := "ref.go:60", after := #[{ on := 7, ground := Ground.data }, { on := 6, ground := Ground.guard }], guard := some (6, true) }) (v := undef) rfl (by kernel_rfl) (by kernel_rfl) (by kernel_rfl) (fun _ _ _ h => h) (Or.inr ⟨by rfl, rfl⟩) (by assumption) ?_
          try simp only [Act.put, List.setIfInBounds_toArray, List.set_cons_zero, List.set_cons_succ]
          refine wpAnyH_take (i := 9) (oi := { dst := some 23, op := Op.move (Operand.tmp 4), type := 3, pos := "ref.go:60", after := #[{ on := 6, ground := Ground.guard }], guard := some (6, true) }) (v := undef) rfl (by kernel_rfl) (by kernel_rfl) (by kernel_rfl) (fun _ _ _ h => h) (Or.inr ⟨by rfl, rfl⟩) (by assumption) ?_
          try simp only [Act.put, List.setIfInBounds_toArray, List.set_cons_zero, List.set_cons_succ]
          refine wpAnyH_take (i := 10) (oi := { dst := some 24, op := Op.call { callee := Callee.value (Operand.func 54), args := #[Operand.tmp 23], argTypes := #[3] }, type := 3, pos := "ref.go:60", after := #[{ on := 9, ground := Ground.data }, { on := 6, ground := Ground.chain }, { on := 6, ground := Ground.guard }], guard := some (6, true) }) (v := undef) rfl (by kernel_rfl) (by kernel_rfl) (by kernel_rfl) (fun _ _ _ h => h) (Or.inr ⟨by rfl, rfl⟩) (by assumption) ?_
          try simp only [Act.put, List.setIfInBounds_toArray, List.set_cons_zero, List.set_cons_succ]
          refine wpAnyH_take (i := 11) (oi := { dst := some 25, op := Op.binOp BinOp.add 3 (Operand.const (Value.int IntKind.i64 1)) (Operand.tmp 24) 3, type := 3, pos := "ref.go:60", after := #[{ on := 10, ground := Ground.data }, { on := 6, ground := Ground.guard }], guard := some (6, true) }) (v := undef) rfl (by kernel_rfl) (by kernel_rfl) (by kernel_rfl) (fun _ _ _ h => h) (Or.inr ⟨by rfl, rfl⟩) (by assumption) ?_
          try simp only [Act.put, List.setIfInBounds_toArray, List.set_cons_zero, List.set_cons_succ]
          refine wpAnyH_take (i := 12) (oi := { dst := some 26, op := Op.binOp BinOp.eql 3 (Operand.tmp 22) (Operand.tmp 25) 3, type := 4, pos := "ref.go:60", after := #[{ on := 8, ground := Ground.data }, { on := 11, ground := Ground.data }, { on := 6, ground := Ground.guard }], guard := some (6, true) }) (v := undef) rfl (by kernel_rfl) (by kernel_rfl) (by kernel_rfl) (fun _ _ _ h => h) (Or.inr ⟨by rfl, rfl⟩) (by assumption) ?_
          try simp only [Act.put, List.setIfInBounds_toArray, List.set_cons_zero, List.set_cons_succ]
          refine wpAnyH_take (i := 13) (oi := { dst := some 27, op := Op.pick (Operand.tmp 20) (Operand.tmp 26) (Operand.const (Value.bool false)), type := 4, pos := "ref.go:60", after := #[{ on := 6, ground := Ground.data }, { on := 12, ground := Ground.data }], guard := none }) (v := ?_) rfl (by kernel_rfl) (by kernel_rfl) (by kernel_rfl) (fun _ _ _ h => h) (Or.inl ⟨by rfl, ?_⟩) (by assumption) ?_
          rotate_left
          · (intro wS hS; go_simp <;> with_reducible rfl)
          try simp only [Act.put, List.setIfInBounds_toArray, List.set_cons_zero, List.set_cons_succ]
          refine wpAnyH_done (by kernel_rfl) ?_ _
          go_wp2_with fail
          go_roundw
          case rel => exact ⟨j + 1, by omega, by omega, by go_num, HN2, below_then hBr hS hBr.size⟩
          case measure => simp [intOf]; omega
      · have HR : Hid (lineB s = true) := by
          show _ = _
          rw [HL.out, decide_eq_true_iff]
          by_cases g : kindK h = 0
          · exact .inl g
          · obtain ⟨g1, g2, g3⟩ := H0.out g
            exact .inr (HN.out _ g2 (by omega) g1)
        have hgt : (7 : Int) < (j : Int) := by omega
        clear HL HK H0 HN
        go_wp2_with fail
        go_ret
        exact ⟨by rw [HR.out]; rfl, below_then hB hBr hB.size⟩
end Go.Proofs.Ytefipigdkdopcaa
