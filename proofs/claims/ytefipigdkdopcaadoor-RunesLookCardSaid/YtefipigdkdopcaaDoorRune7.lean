/- Contracts of runes.Right, of the reference's Texts; texts that are valid, plainly. Right asks the library's two tables. -/
import Derived.Test.YtefipigdkdopcaaDoorRune5
import Derived.Test.YtefipigdkdopcaaDoorRune6
import Derived.Test.YtefipigdkdopcaaDoorShelf
namespace Go.Proofs.YtefipigdkdopcaaDoor
open Go.RowKit

/-- What the library's variables hold. -/
structure LV (w : World) : Prop where
  tabs : Lib.Utf8Tabs 0 1 w
  mx : ∃ m : Int, w.cell? ⟨2, 0, none⟩ = some (.int .i64 m)
theorem LV.below {w w1 : World} (h : LV w) (hb : Below w.heap.size w w1) : LV w1 :=
  ⟨⟨fun c hc => cell_below hb (h.tabs.1 c hc), fun i hi => ⟨cell_below hb (h.tabs.2 i hi).1, cell_below hb (h.tabs.2 i hi).2⟩⟩, by obtain ⟨m, hm⟩ := h.mx; exact ⟨m, cell_below hb hm⟩⟩
def rightF (xs : List UInt8) (i : Nat) : Bool :=
  if h : i < xs.length then decide (¬ brk (xs.drop i)) && rightF xs (i + widAt xs i) else true
termination_by xs.length - i
decreasing_by have := (wid_pos xs i h).1; omega
theorem validGo_eq (xs : List UInt8) : ∀ (n i : Nat), xs.length - i ≤ n → i ≤ xs.length → Lib.validGoD n (xs.drop i) = rightF xs i := by
  intro n
  induction n with
  | zero =>
    intro i h1 h2
    rw [rightF, dif_neg (by omega)]
    rfl
  | succ n ih =>
    intro i h1 h2
    rw [rightF]
    unfold Lib.validGoD
    by_cases hlt : i < xs.length
    · have hne : ¬ xs.drop i = [] := by
        intro h
        have := congrArg List.length h
        rw [List.length_drop, List.length_nil] at this
        omega
      obtain ⟨w1, w2⟩ := wid_pos xs i hlt
      have e : Lib.decodeL (xs.drop i) = decL (xs.drop i) := rfl
      rw [if_neg hne, dif_pos hlt, e]
      by_cases hb : brk (xs.drop i)
      · rw [if_pos (by rw [hb]; exact ⟨rfl, rfl⟩)]
        simp [hb]
      · have hb' : ¬ ((decL (xs.drop i)).1 = 65533 ∧ (decL (xs.drop i)).2 = 1) := fun h => hb (Prod.ext h.1 h.2)
        rw [if_neg hb', List.drop_drop]
        have := ih (i + widAt xs i) (by omega) w2
        unfold widAt at this ⊢
        rw [this]
        simp [hb]
    · rw [if_pos (by rw [List.drop_eq_nil_of_le (by omega)]), dif_neg hlt]
theorem validD_eq (xs : List UInt8) : Lib.validD xs = rightF xs 0 := by
  have := validGo_eq xs xs.length 0 (by omega) (by omega)
  rwa [List.drop_zero] at this

set_option maxRecDepth 100000 in
theorem rright_any (xs : List UInt8) (w : World) (hN : xs.length ≤ 100000) (hL : LV w) : Calls Tryd.prog 16 #[.string ⟨xs.toArray⟩] w fun e w' => e = .returned (.bool (rightF xs 0)) ∧ Below w.heap.size w w' := by
  have KV := Lib.hid ((Tryd.utf8_ValidString ⟨xs.toArray⟩ w (by rw [size_list]; omega) hL.tabs).mono (fun e w' h => (show e = .returned (.bool (rightF xs 0)) ∧ Below w.heap.size w w' from ⟨by rw [h.1, ← validD_eq], h.2⟩)))
  clear hL
  go_enter Tryd.func16, Tryd.ntmps16
  go_wp2_with (refine KV.out.mono ?_; rintro e w' ⟨rfl, hb⟩)
  go_ret
  exact ⟨rfl, hb⟩

set_option maxRecDepth 100000 in
set_option maxHeartbeats 1000000 in
theorem texts_same (l : List (List UInt8)) (A B : Option Addr) (c k : Nat) (w : World) (ha : RdS w A l.length c l) (hb : RdS w B l.length k l) (hn : l.length ≤ 1000000) :
    Calls Tryd.prog 20 #[.slice A l.length c, .slice B l.length k] w fun e w' => e = .returned (.bool true) ∧ Below w.heap.size w w' := by
  have h1 := ha.cm
  have h2 := ha.nc
  have h3 := hb.cm
  have h4 := hb.nc
  unfold maxLen at h1 h3
  go_enter Tryd.func20, Tryd.ntmps20
  go_wp2_with fail
  go_loopw [5] (fun i wr => ∃ j : Nat, i = .int .i64 j ∧ j ≤ l.length ∧ Below w.heap.size w wr) (fun i _ => l.length - (intOf i).toNat)
  case atStart => exact ⟨0, rfl, by omega, Below.refl _ _⟩
  case round =>
    obtain ⟨j, rfl, hj, hBr⟩ := hrel
    by_cases hlt : j < l.length
    · obtain ⟨ad, rfl, ca⟩ := ha.sat j hlt
      obtain ⟨bd, rfl, cb⟩ := hb.sat j hlt
      replace ca := cell_below hBr ca
      replace cb := cell_below hBr cb
      have hjl : (j : Int) < (l.length : Int) := by omega
      generalize l.getD j [] = p at *
      go_upto_region 6 with fail
      refine wp_region_held (S := fun W => Below (wr).heap.size (wr) W) (by kernel_rfl) ?_
      change wpAnyH _ _ _ _ _ _ _ _ (wr).drew
      have hS : (fun W => Below (wr).heap.size (wr) W) (wr).drew := (Below.refl _ _).drew
      refine wpAnyH_take (i := 0) (oi := { dst := some 17, op := Op.move (Operand.tmp 0), type := 32, pos := "ref.go:68", after := #[], guard := none }) (v := ?_) rfl (by kernel_rfl) (by kernel_rfl) (by kernel_rfl) (fun _ _ _ h => h) (Or.inl ⟨by rfl, ?_⟩) (by assumption) ?_
      rotate_left
      · (intro wS hS; go_simp <;> with_reducible rfl)
      try simp only [Act.put, List.setIfInBounds_toArray, List.set_cons_zero, List.set_cons_succ]
      refine wpAnyH_take (i := 1) (oi := { dst := some 18, op := Op.move (Operand.tmp 5), type := 3, pos := "ref.go:68", after := #[], guard := none }) (v := ?_) rfl (by kernel_rfl) (by kernel_rfl) (by kernel_rfl) (fun _ _ _ h => h) (Or.inl ⟨by rfl, ?_⟩) (by assumption) ?_
      rotate_left
      · (intro wS hS; go_simp <;> with_reducible rfl)
      try simp only [Act.put, List.setIfInBounds_toArray, List.set_cons_zero, List.set_cons_succ]
      refine wpAnyH_take (i := 2) (oi := { dst := some 19, op := Op.indexAddr 32 (Operand.tmp 17) (Operand.tmp 18), type := 0, pos := "ref.go:68", after := #[{ on := 0, ground := Ground.data }, { on := 1, ground := Ground.data }], guard := none }) (v := ?_) rfl (by kernel_rfl) (by kernel_rfl) (by kernel_rfl) (fun _ _ _ h => h) (Or.inl ⟨by rfl, ?_⟩) (by assumption) ?_
      rotate_left
      · (intro wS hS; go_simp <;> with_reducible rfl)
      try simp only [Act.put, List.setIfInBounds_toArray, List.set_cons_zero, List.set_cons_succ]
      refine wpAnyH_take (i := 3) (oi := { dst := some 20, op := Op.load 9 (Operand.tmp 19), type := 9, pos := "ref.go:68", after := #[{ on := 2, ground := Ground.data }], guard := none }) (v := ?_) rfl (by kernel_rfl) (by kernel_rfl) (by kernel_rfl) (fun _ _ _ h => h) (Or.inl ⟨by rfl, ?_⟩) (by assumption) ?_
      rotate_left
      · (intro wS hS; have ca := cell_below hS ca; have cb := cell_below hS cb; go_simp <;> with_reducible rfl)
      try simp only [Act.put, List.setIfInBounds_toArray, List.set_cons_zero, List.set_cons_succ]
      refine wpAnyH_take (i := 4) (oi := { dst := some 21, op := Op.move (Operand.tmp 1), type := 32, pos := "ref.go:68", after := #[], guard := none }) (v := ?_) rfl (by kernel_rfl) (by kernel_rfl) (by kernel_rfl) (fun _ _ _ h => h) (Or.inl ⟨by rfl, ?_⟩) (by assumption) ?_
      rotate_left
      · (intro wS hS; go_simp <;> with_reducible rfl)
      try simp only [Act.put, List.setIfInBounds_toArray, List.set_cons_zero, List.set_cons_succ]
      refine wpAnyH_take (i := 5) (oi := { dst := some 22, op := Op.move (Operand.tmp 5), type := 3, pos := "ref.go:68", after := #[], guard := none }) (v := ?_) rfl (by kernel_rfl) (by kernel_rfl) (by kernel_rfl) (fun _ _ _ h => h) (Or.inl ⟨by rfl, ?_⟩) (by assumption) ?_
      rotate_left
      · (intro wS hS; go_simp <;> with_reducible rfl)
      try simp only [Act.put, List.setIfInBounds_toArray, List.set_cons_zero, List.set_cons_succ]
      refine wpAnyH_take (i := 6) (oi := { dst := some 23, op := Op.indexAddr 32 (Operand.tmp 21) (Operand.tmp 22), type := 0, pos := "ref.go:68", after := #[{ on := 4, ground := Ground.data }, { on := 5, ground := Ground.data }], guard := none }) (v := ?_) rfl (by kernel_rfl) (by kernel_rfl) (by kernel_rfl) (fun _ _ _ h => h) (Or.inl ⟨by rfl, ?_⟩) (by assumption) ?_
      rotate_left
      · (intro wS hS; go_simp <;> with_reducible rfl)
      try simp only [Act.put, List.setIfInBounds_toArray, List.set_cons_zero, List.set_cons_succ]
      refine wpAnyH_take (i := 7) (oi := { dst := some 24, op := Op.load 9 (Operand.tmp 23), type := 9, pos := "ref.go:68", after := #[{ on := 6, ground := Ground.data }], guard := none }) (v := ?_) rfl (by kernel_rfl) (by kernel_rfl) (by kernel_rfl) (fun _ _ _ h => h) (Or.inl ⟨by rfl, ?_⟩) (by assumption) ?_
      rotate_left
      · (intro wS hS; have ca := cell_below hS ca; have cb := cell_below hS cb; go_simp <;> with_reducible rfl)
      try simp only [Act.put, List.setIfInBounds_toArray, List.set_cons_zero, List.set_cons_succ]
      refine wpAnyH_take (i := 8) (oi := { dst := some 25, op := Op.binOp BinOp.neq 9 (Operand.tmp 20) (Operand.tmp 24) 9, type := 4, pos := "ref.go:68", after := #[{ on := 3, ground := Ground.data }, { on := 7, ground := Ground.data }], guard := none }) (v := ?_) rfl (by kernel_rfl) (by kernel_rfl) (by kernel_rfl) (fun _ _ _ h => h) (Or.inl ⟨by rfl, ?_⟩) (by assumption) ?_
      rotate_left
      · (intro wS hS; go_simp <;> with_reducible rfl)
      try simp only [Act.put, List.setIfInBounds_toArray, List.set_cons_zero, List.set_cons_succ]
      refine wpAnyH_done (by kernel_rfl) ?_ _
      go_wp2_with fail
      go_roundw
      case rel => exact ⟨j + 1, by go_num, by omega, below_then hBr hS hBr.size⟩
      case measure => simp [intOf]; omega
    · obtain rfl : j = l.length := by omega
      go_wp2_with fail
      go_ret
      exact ⟨rfl, hBr⟩
end Go.Proofs.YtefipigdkdopcaaDoor
