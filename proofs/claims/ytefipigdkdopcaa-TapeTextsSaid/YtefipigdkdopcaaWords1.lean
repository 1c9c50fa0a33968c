/- Contract of the closure that ends a word in runes.Words. No condition but that its variables are apart. -/
import Derived.Test.YtefipigdkdopcaaStrs
import Derived.Deep.AppendLies
import Derived.Deep.DeepCutAuto
namespace Go.Proofs.Ytefipigdkdopcaa
open Go.RowKit

/-- What the closure keeps. -/
structure KeepsBut (base g1 g2 : Nat) (w w' : World) : Prop where
  old : ∀ (B : Nat), B ≤ g1 → B ≤ g2 → B ≤ base → Below B w w'
  blk : ∀ k o, k < base → k ≠ g1 → k ≠ g2 → w.heap[k]? = some o → w'.heap[k]? = some o

theorem KeepsBut.refl (base g1 g2 : Nat) (w : World) : KeepsBut base g1 g2 w w := ⟨fun _ _ _ _ => Below.refl _ _, fun _ _ _ _ _ h => h⟩
theorem KeepsBut.grown {base g1 g2 : Nat} {w w' w'' : World} {row : Option Nat} (h : KeepsBut base g1 g2 w w') (hz : base ≤ w'.heap.size) (hg : w'.grownBy w'' row) (hr : ∀ k, row = some k → base ≤ k) : KeepsBut base g1 g2 w w'' :=
  ⟨fun B h1 h2 h3 => (h.old B h1 h2 h3).grown hg (by omega) (fun k hk => by have := hr k hk; omega), fun k o hk n1 n2 ho => gb_heap hg (h.blk k o hk n1 n2 ho) (fun e => by have := hr k e.symm; omega)⟩
theorem KeepsBut.set1 {base g1 g2 : Nat} {w w' : World} (h : KeepsBut base g1 g2 w w') (o : Nat) (v : Value) : KeepsBut base g1 g2 w (w'.setCell ⟨g1, o, none⟩ v) :=
  ⟨fun B h1 h2 h3 => (h.old B h1 h2 h3).setCell h1 _, fun k o' hk n1 n2 ho => gb_heap (gb_set w' g1 o v) (h.blk k o' hk n1 n2 ho) (by simpa using n1)⟩
theorem KeepsBut.set2 {base g1 g2 : Nat} {w w' : World} (h : KeepsBut base g1 g2 w w') (o : Nat) (v : Value) : KeepsBut base g1 g2 w (w'.setCell ⟨g2, o, none⟩ v) :=
  ⟨fun B h1 h2 h3 => (h.old B h1 h2 h3).setCell h2 _, fun k o' hk n1 n2 ho => gb_heap (gb_set w' g2 o v) (h.blk k o' hk n1 n2 ho) (by simpa using n2)⟩

theorem words1_no (xs : List UInt8) (at_ gs go gf : Nat) (w : World) (hf : w.heap[gf]? = some (.cells #[.int .i64 (-1)] 3 (0, 0))) :
    Calls Try.prog 106 #[.int .i64 at_, .pointer (some ⟨gf, 0, none⟩), .pointer (some ⟨go, 0, none⟩), .pointer (some ⟨gs, 0, none⟩)] w fun e w' => e = .returned (.tuple #[]) ∧ w'.heap[gf]? = some (.cells #[.int .i64 (-1)] 3 (0, 0)) ∧ w.grownBy w' (some gf) := by
  have c1 : w.cell? ⟨gf, 0, none⟩ = some (.int .i64 (-1)) := cell_heap hf
  have f1 : w.frozen? ⟨gf, 0, none⟩ = false := frozen_heap (o := 0) hf
  go_enter Try.func106, Try.ntmps106
  go_wp2_with fail
  go_end0
  exact ⟨rfl, set_heap (o := 0) hf (.int .i64 (-1)), gb_set w gf 0 (.int .i64 (-1))⟩

set_option maxRecDepth 100000 in
theorem words1_yes (xs : List UInt8) (i at_ gs go gf base n : Nat) (v : Value) (l : List (List UInt8)) (w : World)
    (hf : w.heap[gf]? = some (.cells #[.int .i64 (i : Int)] 3 (0, 0))) (hs : w.heap[gs]? = some (.cells #[.string ⟨xs.toArray⟩] 9 (0, 0))) (hh : w.heap[go]? = some (.cells #[v] 91 (0, 0)))
    (ho : w.ownsRow base 9 1 v n (strs l)) (hb1 : gs < base) (hb2 : go < base) (hb3 : gf < base) (hbz : base ≤ w.heap.size) (hne : gs ≠ go ∧ gs ≠ gf ∧ go ≠ gf)
    (hi : i ≤ at_) (ha : at_ ≤ xs.length) (hN : xs.length ≤ 100000) (hn : n ≤ 100000) :
    Calls Try.prog 106 #[.int .i64 at_, .pointer (some ⟨gf, 0, none⟩), .pointer (some ⟨go, 0, none⟩), .pointer (some ⟨gs, 0, none⟩)] w fun e w' => e = .returned (.tuple #[]) ∧ ∃ v', w'.heap[gf]? = some (.cells #[.int .i64 (-1)] 3 (0, 0)) ∧ w'.heap[go]? = some (.cells #[v'] 91 (0, 0)) ∧ w'.ownsRow base 9 1 v' (n + 1) (strs (l ++ [(xs.drop i).take (at_ - i)])) ∧ base ≤ w'.heap.size ∧ KeepsBut base go gf w w' := by
  have c1 : w.cell? ⟨gf, 0, none⟩ = some (.int .i64 (i : Int)) := cell_heap hf
  have c2 : w.cell? ⟨gs, 0, none⟩ = some (.string ⟨xs.toArray⟩) := cell_heap hs
  have h0 : (0 : Int) ≤ (i : Int) := by omega
  have h1 : (i : Int) ≤ (at_ : Int) := by omega
  have h2 : (at_ : Int) ≤ (xs.length : Int) := by omega
  have hx := extract_list xs i at_
  generalize hp : (xs.drop i).take (at_ - i) = p at *
  obtain ⟨ii, hii, hi0, hi1, hi2⟩ := info_strs
  go_enter Try.func106, Try.ntmps106
  go_upto_region 1 with fail
  have hS0 : w.drew.cell? ⟨gf, 0, none⟩ = some (.int .i64 (i : Int)) ∧ w.drew.cell? ⟨gs, 0, none⟩ = some (.string ⟨xs.toArray⟩) := ⟨c1, c2⟩
  have hKB : KeepsBut base go gf w w.drew := ⟨fun B _ _ _ => (Below.refl _ _).drew, fun k o _ _ _ h => h⟩
  have hfd : w.drew.heap[gf]? = some (.cells #[.int .i64 (i : Int)] 3 (0, 0)) := hf
  have hod := ho.drew
  have hhd : w.drew.heap[go]? = some (.cells #[v] 91 (0, 0)) := hh
  have hzd : base ≤ w.drew.heap.size := hbz
  refine wp_region_held (S := fun W => W.cell? ⟨gf, 0, none⟩ = some (.int .i64 (i : Int)) ∧ W.cell? ⟨gs, 0, none⟩ = some (.string ⟨xs.toArray⟩)) (by kernel_rfl) ?_
  change wpAnyH _ _ _ _ _ _ _ _ (w).drew
  have hS : (fun W => W.cell? ⟨gf, 0, none⟩ = some (.int .i64 (i : Int)) ∧ W.cell? ⟨gs, 0, none⟩ = some (.string ⟨xs.toArray⟩)) (w).drew := hS0
  generalize (w).drew = wd at hS hS0 hKB hfd hod hhd hzd ⊢
  refine wpAnyH_take (i := 1) (oi := { dst := some 8, op := Op.load 9 (Operand.tmp 3), type := 9, pos := "runes.go:63", after := #[], guard := none }) (v := ?_) rfl (by kernel_rfl) (by kernel_rfl) (by kernel_rfl) (fun _ _ _ h => h) (Or.inl ⟨by rfl, ?_⟩) (by assumption) ?_
  rotate_left
  · (intro wS hS; obtain ⟨q1, q2⟩ := hS; go_simp <;> with_reducible rfl)
  try simp only [Act.put, List.setIfInBounds_toArray, List.set_cons_zero, List.set_cons_succ]
  refine wpAnyH_take (i := 2) (oi := { dst := some 9, op := Op.load 3 (Operand.tmp 1), type := 3, pos := "runes.go:63", after := #[], guard := none }) (v := ?_) rfl (by kernel_rfl) (by kernel_rfl) (by kernel_rfl) (fun _ _ _ h => h) (Or.inl ⟨by rfl, ?_⟩) (by assumption) ?_
  rotate_left
  · (intro wS hS; obtain ⟨q1, q2⟩ := hS; go_simp <;> with_reducible rfl)
  try simp only [Act.put, List.setIfInBounds_toArray, List.set_cons_zero, List.set_cons_succ]
  refine wpAnyH_take (i := 3) (oi := { dst := some 10, op := Op.move (Operand.tmp 0), type := 3, pos := "runes.go:63", after := #[], guard := none }) (v := ?_) rfl (by kernel_rfl) (by kernel_rfl) (by kernel_rfl) (fun _ _ _ h => h) (Or.inl ⟨by rfl, ?_⟩) (by assumption) ?_
  rotate_left
  · (intro wS hS; go_simp <;> with_reducible rfl)
  try simp only [Act.put, List.setIfInBounds_toArray, List.set_cons_zero, List.set_cons_succ]
  refine wpAnyH_take (i := 4) (oi := { dst := some 11, op := Op.slice 9 (Operand.tmp 8) (some (Operand.tmp 9)) (some (Operand.tmp 10)) none, type := 9, pos := "runes.go:63", after := #[{ on := 1, ground := Ground.data }, { on := 2, ground := Ground.data }, { on := 3, ground := Ground.data }], guard := none }) (v := ?_) rfl (by kernel_rfl) (by kernel_rfl) (by kernel_rfl) (fun _ _ _ h => h) (Or.inl ⟨by rfl, ?_⟩) (by assumption) ?_
  rotate_left
  · (intro wS hS; go_simp <;> with_reducible rfl)
  try simp only [Act.put, List.setIfInBounds_toArray, List.set_cons_zero, List.set_cons_succ]
  refine wpAnyH_ready (rs := [0, 5]) (by kernel_rfl) (by simp) ?_
  refine AllReadyH.cons (o := { dst := some 7, op := Op.load 91 (Operand.tmp 2), type := 91, pos := "runes.go:63", after := #[], guard := none }) rfl (fun K hK => ?_) (AllReadyH.cons (o := { dst := some 12, op := Op.buildSlice 91 1 #[(0, Operand.tmp 11)], type := 91, pos := "runes.go:63", after := #[{ on := 4, ground := Ground.data }], guard := none }) rfl (fun K hK => ?_) (AllReadyH.nil))
  · have q7 : World.cell? wd ⟨go, 0, none⟩ = some v := cell_heap hhd
    go_simp
    refine hK.out _ _ hS (fun _ => ?_)
    clear hK K q7
    try simp only [Act.put, List.setIfInBounds_toArray, List.set_cons_zero, List.set_cons_succ]
    refine wpAnyH_ready (rs := [5]) (by kernel_rfl) (by simp) ?_
    refine AllReadyH.cons (o := { dst := some 12, op := Op.buildSlice 91 1 #[(0, Operand.tmp 11)], type := 91, pos := "runes.go:63", after := #[{ on := 4, ground := Ground.data }], guard := none }) rfl (fun K hK => ?_) (AllReadyH.nil)
    go_simp
    have hbA := (one_cells wd #[.string ⟨p.toArray⟩] 9).1
    have hv := (one_cells wd #[.string ⟨p.toArray⟩] 9).2 0 (.string ⟨p.toArray⟩) rfl
    have hfA := heap_below hbA hfd
    have hhA := heap_below hbA hhd
    have hoA := own_below hod hbA
    have hzA := Nat.le_trans hzd hbA.size
    have hKA := hKB.grown hzd (gb_below hbA none) (fun k e => by cases e)
    replace hS := And.intro (cell_below hbA hS.1) (cell_below hbA hS.2)
    clear hfd hhd hod hzd hKB
    refine hK.out _ _ hS (fun _ => ?_)
    clear hK K hbA
    try simp only [Act.put, List.setIfInBounds_toArray, List.set_cons_zero, List.set_cons_succ]
    generalize hgB2 : World.heap wd = hpB at *
    generalize World.alloc wd (.cells #[.string ⟨p.toArray⟩] 9) = wA at *
    clear hgB2
    have hfd := hfA
    have hhd := hhA
    have hod := hoA
    have hzd := hzA
    have hKB := hKA
    clear hfA hhA hoA hzA hKA
    refine wpAnyH_ready (rs := [6]) (by kernel_rfl) (by simp) ?_
    refine AllReadyH.cons (o := { dst := some 13, op := Op.call { callee := Callee.builtin Builtin.append, args := #[Operand.tmp 7, Operand.tmp 12], argTypes := #[91, 91] }, type := 91, pos := "runes.go:63", after := #[{ on := 0, ground := Ground.data }, { on := 5, ground := Ground.data }], guard := none }) rfl (fun K hK => ?_) (AllReadyH.nil)
    refine step_append_lies _ rfl (.tmp 7) (.tmp 12) 91 rfl base 9 ii (.string ⟨#[]⟩) 1 16 Try.underlying91 hii hi0 hi1 hi2 rfl (by decide) _ n _ rfl hod ⟨hpB.size, 0, none⟩ 1 1 [.string ⟨p.toArray⟩] rfl rfl (fun jj u hu => by cases jj with | zero => (cases hu; exact hv) | succ q => (simp at hu)) (by simp [Value.oneCell']) (by decide) (by unfold maxLen; omega) (by omega) hzd _ rfl ?_
    intro gX capX wR6 ho' hg' hor hltX
    have hf5 := gb_heap hg' hfd (fun e => by have := (hod.lt gf e.symm).1; omega)
    have hh5 := gb_heap hg' hhd (fun e => by have := (hod.lt go e.symm).1; omega)
    have hS5 := And.intro (hg'.cell hS.1 (fun e => by have := (hod.lt gf e.symm).1; omega)) (hg'.cell hS.2 (fun e => by have := (hod.lt gs e.symm).1; omega))
    have hz5 := Nat.le_trans hzd (World.grownBy.size hg')
    have hK5 := hKB.grown hzd hg' (fun k hk => (hod.lt k hk).1)
    have hgX := (ho'.lt gX rfl).1
    refine hK.out _ _ hS5 (fun _ => ?_)
    clear hK K hfd hhd hod hzd hKB hg' hor hv hS
    have hS := hS5
    clear hS5
    try simp only [Act.put, List.setIfInBounds_toArray, List.set_cons_zero, List.set_cons_succ]
    refine wpAnyH_ready (rs := [7]) (by kernel_rfl) (by simp) ?_
    refine AllReadyH.cons (o := { dst := none, op := Op.store 91 (Operand.tmp 2) (Operand.tmp 13), type := 0, pos := "runes.go:63", after := #[{ on := 6, ground := Ground.data }, { on := 6, ground := Ground.chain }, { on := 0, ground := Ground.phase }, { on := 1, ground := Ground.phase }, { on := 2, ground := Ground.phase }, { on := 3, ground := Ground.phase }, { on := 4, ground := Ground.phase }, { on := 5, ground := Ground.phase }, { on := 6, ground := Ground.phase }], guard := none }) rfl (fun K hK => ?_) (AllReadyH.nil)
    have q7 : World.cell? wR6 ⟨go, 0, none⟩ = some v := cell_heap hh5
    have f7 := frozen_heap (o := 0) hh5
    have hG7 := gb_set wR6 go 0 (.slice (some ⟨gX, 0, none⟩) (n + 1) capX)
    have hh6 := set_heap (o := 0) hh5 (.slice (some ⟨gX, 0, none⟩) (n + 1) capX)
    have hf6 := gb_heap hG7 hf5 (by simp; omega)
    have ho6 := ho'.kept hG7 (.inr (fun e => by simp [Value.ownBlock] at e; omega))
    have hK6 := hK5.set1 0 (.slice (some ⟨gX, 0, none⟩) (n + 1) capX)
    have hz6 := Nat.le_trans hz5 (World.grownBy.size hG7)
    have hS6 := And.intro (hG7.cell hS.1 (by simp; omega)) (hG7.cell hS.2 (by simp; omega))
    go_simp
    refine hK.out _ _ hS6 (fun _ => ?_)
    clear hK K
    try simp only [Act.put, List.setIfInBounds_toArray, List.set_cons_zero, List.set_cons_succ]
    refine wpAnyH_done (by kernel_rfl) ?_ _
    clear hS
    have f8 := frozen_heap (o := 0) hf6
    have q8 := cell_heap (o := 0) hf6
    have hG8 := gb_set (wR6.setCell ⟨go, 0, none⟩ (.slice (some ⟨gX, 0, none⟩) (n + 1) capX)) gf 0 (.int .i64 (-1))
    go_wp2_with fail
    go_end0
    exact ⟨rfl, _, set_heap (o := 0) hf6 (.int .i64 (-1)), gb_heap hG8 hh6 (by simp; omega), by rw [strs_append]; exact ho6.kept hG8 (.inr (fun e => by simp [Value.ownBlock] at e; omega)), Nat.le_trans hz6 (World.grownBy.size hG8), hK6.set2 0 _⟩
  · go_simp
    have hbA := (one_cells wd #[.string ⟨p.toArray⟩] 9).1
    have hv := (one_cells wd #[.string ⟨p.toArray⟩] 9).2 0 (.string ⟨p.toArray⟩) rfl
    have hfA := heap_below hbA hfd
    have hhA := heap_below hbA hhd
    have hoA := own_below hod hbA
    have hzA := Nat.le_trans hzd hbA.size
    have hKA := hKB.grown hzd (gb_below hbA none) (fun k e => by cases e)
    replace hS := And.intro (cell_below hbA hS.1) (cell_below hbA hS.2)
    clear hfd hhd hod hzd hKB
    refine hK.out _ _ hS (fun _ => ?_)
    clear hK K hbA
    try simp only [Act.put, List.setIfInBounds_toArray, List.set_cons_zero, List.set_cons_succ]
    generalize hgB2 : World.heap wd = hpB at *
    generalize World.alloc wd (.cells #[.string ⟨p.toArray⟩] 9) = wA at *
    clear hgB2
    have hfd := hfA
    have hhd := hhA
    have hod := hoA
    have hzd := hzA
    have hKB := hKA
    clear hfA hhA hoA hzA hKA
    refine wpAnyH_ready (rs := [0]) (by kernel_rfl) (by simp) ?_
    refine AllReadyH.cons (o := { dst := some 7, op := Op.load 91 (Operand.tmp 2), type := 91, pos := "runes.go:63", after := #[], guard := none }) rfl (fun K hK => ?_) (AllReadyH.nil)
    have q7 : World.cell? wA ⟨go, 0, none⟩ = some v := cell_heap hhd
    go_simp
    refine hK.out _ _ hS (fun _ => ?_)
    clear hK K q7
    try simp only [Act.put, List.setIfInBounds_toArray, List.set_cons_zero, List.set_cons_succ]
    refine wpAnyH_ready (rs := [6]) (by kernel_rfl) (by simp) ?_
    refine AllReadyH.cons (o := { dst := some 13, op := Op.call { callee := Callee.builtin Builtin.append, args := #[Operand.tmp 7, Operand.tmp 12], argTypes := #[91, 91] }, type := 91, pos := "runes.go:63", after := #[{ on := 0, ground := Ground.data }, { on := 5, ground := Ground.data }], guard := none }) rfl (fun K hK => ?_) (AllReadyH.nil)
    refine step_append_lies _ rfl (.tmp 7) (.tmp 12) 91 rfl base 9 ii (.string ⟨#[]⟩) 1 16 Try.underlying91 hii hi0 hi1 hi2 rfl (by decide) _ n _ rfl hod ⟨hpB.size, 0, none⟩ 1 1 [.string ⟨p.toArray⟩] rfl rfl (fun jj u hu => by cases jj with | zero => (cases hu; exact hv) | succ q => (simp at hu)) (by simp [Value.oneCell']) (by decide) (by unfold maxLen; omega) (by omega) hzd _ rfl ?_
    intro gX capX wR6 ho' hg' hor hltX
    have hf5 := gb_heap hg' hfd (fun e => by have := (hod.lt gf e.symm).1; omega)
    have hh5 := gb_heap hg' hhd (fun e => by have := (hod.lt go e.symm).1; omega)
    have hS5 := And.intro (hg'.cell hS.1 (fun e => by have := (hod.lt gf e.symm).1; omega)) (hg'.cell hS.2 (fun e => by have := (hod.lt gs e.symm).1; omega))
    have hz5 := Nat.le_trans hzd (World.grownBy.size hg')
    have hK5 := hKB.grown hzd hg' (fun k hk => (hod.lt k hk).1)
    have hgX := (ho'.lt gX rfl).1
    refine hK.out _ _ hS5 (fun _ => ?_)
    clear hK K hfd hhd hod hzd hKB hg' hor hv hS
    have hS := hS5
    clear hS5
    try simp only [Act.put, List.setIfInBounds_toArray, List.set_cons_zero, List.set_cons_succ]
    refine wpAnyH_ready (rs := [7]) (by kernel_rfl) (by simp) ?_
    refine AllReadyH.cons (o := { dst := none, op := Op.store 91 (Operand.tmp 2) (Operand.tmp 13), type := 0, pos := "runes.go:63", after := #[{ on := 6, ground := Ground.data }, { on := 6, ground := Ground.chain }, { on := 0, ground := Ground.phase }, { on := 1, ground := Ground.phase }, { on := 2, ground := Ground.phase }, { on := 3, ground := Ground.phase }, { on := 4, ground := Ground.phase }, { on := 5, ground := Ground.phase }, { on := 6, ground := Ground.phase }], guard := none }) rfl (fun K hK => ?_) (AllReadyH.nil)
    have q7 : World.cell? wR6 ⟨go, 0, none⟩ = some v := cell_heap hh5
    have f7 := frozen_heap (o := 0) hh5
    have hG7 := gb_set wR6 go 0 (.slice (some ⟨gX, 0, none⟩) (n + 1) capX)
    have hh6 := set_heap (o := 0) hh5 (.slice (some ⟨gX, 0, none⟩) (n + 1) capX)
    have hf6 := gb_heap hG7 hf5 (by simp; omega)
    have ho6 := ho'.kept hG7 (.inr (fun e => by simp [Value.ownBlock] at e; omega))
    have hK6 := hK5.set1 0 (.slice (some ⟨gX, 0, none⟩) (n + 1) capX)
    have hz6 := Nat.le_trans hz5 (World.grownBy.size hG7)
    have hS6 := And.intro (hG7.cell hS.1 (by simp; omega)) (hG7.cell hS.2 (by simp; omega))
    go_simp
    refine hK.out _ _ hS6 (fun _ => ?_)
    clear hK K
    try simp only [Act.put, List.setIfInBounds_toArray, List.set_cons_zero, List.set_cons_succ]
    refine wpAnyH_done (by kernel_rfl) ?_ _
    clear hS
    have f8 := frozen_heap (o := 0) hf6
    have q8 := cell_heap (o := 0) hf6
    have hG8 := gb_set (wR6.setCell ⟨go, 0, none⟩ (.slice (some ⟨gX, 0, none⟩) (n + 1) capX)) gf 0 (.int .i64 (-1))
    go_wp2_with fail
    go_end0
    exact ⟨rfl, _, set_heap (o := 0) hf6 (.int .i64 (-1)), gb_heap hG8 hh6 (by simp; omega), by rw [strs_append]; exact ho6.kept hG8 (.inr (fun e => by simp [Value.ownBlock] at e; omega)), Nat.le_trans hz6 (World.grownBy.size hG8), hK6.set2 0 _⟩
end Go.Proofs.Ytefipigdkdopcaa
