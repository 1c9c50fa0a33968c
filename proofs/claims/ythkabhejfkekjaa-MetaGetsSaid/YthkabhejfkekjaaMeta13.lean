/- Contract of the reference's Get of a record's data. No condition but the length's bound. -/
import Derived.Test.YthkabhejfkekjaaMeta11
import Derived.Test.YthkabhejfkekjaaMeta12
import Derived.Test.YthkabhejfkekjaaMeta9
import Derived.Test.YthkabhejfkekjaaBeRef
import Derived.Deep.AppendLies
import Derived.Deep.DeepCutAuto
namespace Go.Proofs.Ythkabhejfkekjaa
open Go.RowKit

set_option maxRecDepth 100000 in
set_option maxHeartbeats 8000000 in
theorem refget26_any (xs : List UInt8) (lp : Int) (w : World) (hN : xs.length ≤ 1000) (id fi pr le en pn n er : Nat) (pl : Bool)
    (e0 : getN xs 0 4 = id) (e1 : getN xs 4 4 = fi) (e2 : (xs.getD 8 0).toNat = pr) (e3 : getN xs 9 2 = le) (e4 : getN xs 11 8 = en) (e5 : (xs.getD 19 0).toNat = pn) (e6 : (xs.getD 20 0).toNat = n)
    (hpq : ((pn : Int) == 1) = pl)
    (her : er = if xs.length < 21 then 5 else if xs.length < 21 + 2 * n then 5 else if 21 + 2 * n < xs.length then 6 else if mayM id fi pr le lp (ints (pagesF xs n)) then (if 1 < pn then 6 else 0) else 6) :
    Calls Try.prog 69 #[.string ⟨xs.toArray⟩, .int .i64 lp] w fun e w' => mgOut e w' er id fi pr le en pl lp (pagesF xs n) ∧ Below w.heap.size w w' := by
  have hB := (one_cells w #[.int .u64 0, .int .u64 0, .int .i64 0, .int .i64 0, .int .u64 0, .bool false, .int .i64 0, .slice none 0 0] 91).1
  have hr := alloc_new w (.cells #[.int .u64 0, .int .u64 0, .int .i64 0, .int .i64 0, .int .u64 0, .bool false, .int .i64 0, .slice none 0 0] 91 (0, 0))
  obtain ⟨⟨z0, z1, z2, z3, z4, z5, z6, z7⟩, f0, f1, f2, f3, f4, f5, f6, f7⟩ := eight_cells hr
  have hlt := heap_lt hr
  generalize hW1 : w.alloc (.cells #[.int .u64 0, .int .u64 0, .int .i64 0, .int .i64 0, .int .u64 0, .bool false, .int .i64 0, .slice none 0 0] 91) = w1 at *
  by_cases h0 : xs.length < 21
  · rw [if_pos h0] at her
    have h0' : (xs.length : Int) < 21 := by omega
    subst her
    clear e0 e1 e2 e3 e4 e5 e6 hpq h0
    go_enter Try.func69, Try.ntmps69
    go_wp2_with fail
    have hh10 := eight_heap hr (.int .u64 0) (.int .u64 0) (.int .i64 0) (.int .i64 0) (.int .u64 0) (.bool false) (.int .i64 0) (.slice none 0 0)
    have hB10 := below_gbw (eight_gb w1 w.heap.size (.int .u64 0) (.int .u64 0) (.int .i64 0) (.int .i64 0) (.int .u64 0) (.bool false) (.int .i64 0) (.slice none 0 0)) hB (Nat.le_refl _)
    obtain ⟨⟨r0, r1, r2, r3, r4, r5, r6, r7⟩, -⟩ := eight_cells hh10
    refine bodyPost_ret (v := .tuple #[.agg #[.int .u64 0, .int .u64 0, .int .i64 0, .int .i64 0, .int .u64 0, .bool false, .int .i64 0, .slice none 0 0], .int .i64 5]) ?_ rfl ⟨.inl ⟨by decide, rfl⟩, hB10⟩
    simp only [eight] at r0 r1 r2 r3 r4 r5 r6 r7
    simp [results, Try.results69, go_sem, r0, r1, r2, r3, r4, r5, r6, r7]
  rw [if_neg h0] at her
  have h0' : ¬ ((xs.length : Int) < 21) := by omega
  have hn256 : n < 256 := by rw [← e6]; exact UInt8.toNat_lt _
  have hidx : ∀ h : 20 < (⟨xs.toArray⟩ : ByteArray).size, ((⟨xs.toArray⟩ : ByteArray)[20]'h).toNat = n := by
    intro h
    rw [← e6, List.getD_eq_getElem?_getD, List.getElem?_eq_getElem (by omega)]; rfl
  have h20 : 20 < xs.length := by omega
  have hi8 : (8 : Int) < (xs.length : Int) := by omega
  have hi19 : (19 : Int) < (xs.length : Int) := by omega
  have hi20 : (20 : Int) < (xs.length : Int) := by omega
  by_cases h1 : xs.length < 21 + 2 * n
  · rw [if_pos h1] at her
    have h1' : (xs.length : Int) < 21 + 2 * (n : Int) := by omega
    subst her
    clear e0 e1 e2 e3 e4 e5 e6 hpq h1
    go_enter Try.func69, Try.ntmps69
    go_wp2_with fail
    have hh10 := eight_heap hr (.int .u64 0) (.int .u64 0) (.int .i64 0) (.int .i64 0) (.int .u64 0) (.bool false) (.int .i64 0) (.slice none 0 0)
    have hB10 := below_gbw (eight_gb w1 w.heap.size (.int .u64 0) (.int .u64 0) (.int .i64 0) (.int .i64 0) (.int .u64 0) (.bool false) (.int .i64 0) (.slice none 0 0)) hB (Nat.le_refl _)
    obtain ⟨⟨r0, r1, r2, r3, r4, r5, r6, r7⟩, -⟩ := eight_cells hh10
    refine bodyPost_ret (v := .tuple #[.agg #[.int .u64 0, .int .u64 0, .int .i64 0, .int .i64 0, .int .u64 0, .bool false, .int .i64 0, .slice none 0 0], .int .i64 5]) ?_ rfl ⟨.inl ⟨by decide, rfl⟩, hB10⟩
    simp only [eight] at r0 r1 r2 r3 r4 r5 r6 r7
    simp [results, Try.results69, go_sem, r0, r1, r2, r3, r4, r5, r6, r7]
  rw [if_neg h1] at her
  have h1' : ¬ ((xs.length : Int) < 21 + 2 * (n : Int)) := by omega
  by_cases h2 : 21 + 2 * n < xs.length
  · rw [if_pos h2] at her
    have h2' : 21 + 2 * (n : Int) < (xs.length : Int) := by omega
    subst her
    clear e0 e1 e2 e3 e4 e5 e6 hpq h1 h2
    go_enter Try.func69, Try.ntmps69
    go_wp2_with fail
    have hh10 := eight_heap hr (.int .u64 0) (.int .u64 0) (.int .i64 0) (.int .i64 0) (.int .u64 0) (.bool false) (.int .i64 0) (.slice none 0 0)
    have hB10 := below_gbw (eight_gb w1 w.heap.size (.int .u64 0) (.int .u64 0) (.int .i64 0) (.int .i64 0) (.int .u64 0) (.bool false) (.int .i64 0) (.slice none 0 0)) hB (Nat.le_refl _)
    obtain ⟨⟨r0, r1, r2, r3, r4, r5, r6, r7⟩, -⟩ := eight_cells hh10
    refine bodyPost_ret (v := .tuple #[.agg #[.int .u64 0, .int .u64 0, .int .i64 0, .int .i64 0, .int .u64 0, .bool false, .int .i64 0, .slice none 0 0], .int .i64 6]) ?_ rfl ⟨.inl ⟨by decide, rfl⟩, hB10⟩
    simp only [eight] at r0 r1 r2 r3 r4 r5 r6 r7
    simp [results, Try.results69, go_sem, r0, r1, r2, r3, r4, r5, r6, r7]
  rw [if_neg h2] at her
  have h2' : ¬ (21 + 2 * (n : Int) < (xs.length : Int)) := by omega
  have hxl : xs.length = 21 + 2 * n := by omega
  have hle2 := getN_lt2 xs 9
  rw [e3] at hle2
  have hpn := (xs.getD 19 0).toNat_lt
  rw [e5] at hpn
  have hw3 := IntKind.wrap_i64 (le : Int)
  rw [show ((le : Int) + 9223372036854775808) % 18446744073709551616 - 9223372036854775808 = le by omega] at hw3
  have hpr := (xs.getD 8 0).toNat_lt
  rw [e2] at hpr
  have hw8 : IntKind.i64.wrap (pr : Int) = pr := by rw [IntKind.wrap_i64]; omega
  have HXL := Lib.hid hxl
  clear hxl hpr
  have hcv := run_bytes_of xs w1
  have hrd := rd_bytesOf w1 xs (by unfold maxLen; omega)
  have hbb := bytesWorld_below w1 5 ⟨xs.toArray⟩
  go_enter Try.func69, Try.ntmps69
  go_upto_region 6 with fail
  have hr2 := heap_below hbb hr
  have hBb := below_trans hB hbb
  have hltb := heap_lt hr2
  generalize hWB : Lib.bytesWorld w1 5 ⟨xs.toArray⟩ = wb at *
  generalize grownCap w1 xs.length 0 5 = cp at *
  have hxl := HXL.out
  have b8 : wb.cell? ⟨w1.heap.size, 8, none⟩ = some (.int .u8 ((xs.getD 8 0).toNat : Int)) := hrd.bcell 8 (by omega)
  have b19 : wb.cell? ⟨w1.heap.size, 19, none⟩ = some (.int .u8 ((xs.getD 19 0).toNat : Int)) := hrd.bcell 19 (by omega)
  have b20 : wb.cell? ⟨w1.heap.size, 20, none⟩ = some (.int .u8 ((xs.getD 20 0).toNat : Int)) := hrd.bcell 20 (by omega)
  rw [e2] at b8
  rw [e5] at b19
  rw [e6] at b20
  have HX19 := Lib.hid e5
  have HX20 := Lib.hid e6
  have hcx := hrd.cm
  have hnx := hrd.nc
  unfold maxLen at hcx
  clear hcv hWB hW1 hbb hr hB z0 z1 z2 z3 z4 z5 z6 z7 f0 f1 f2 f3 f4 f5 f6 f7 hidx e2 e5 e6 h0 h0' h1 h1' h2 h2' hxl
  have NB := fun (at_ : Nat) (k : Int) W hh => Lib.hid ((refnumber_any at_ k xs (some ⟨w1.heap.size, 0, none⟩) xs.length cp W hh (by omega)).mono (fun e w' h => (show e = .returned (.int .u64 (getN xs at_ k : Nat)) ∧ Below W.heap.size W w' from ⟨h.1, h.2 ▸ Below.refl _ _⟩)))
  have N0 := NB 0 4
  have N1 := NB 4 4
  have N2 := NB 9 2
  have N3 := NB 11 8
  simp only [show ((9 : Nat) : Int) = 9 from rfl, show ((11 : Nat) : Int) = 11 from rfl, show ((0 : Nat) : Int) = 0 from rfl, show ((4 : Nat) : Int) = 4 from rfl] at N0 N1 N2 N3
  rw [e0] at N0
  rw [e1] at N1
  rw [e3] at N2
  rw [e4] at N3
  have HER := Lib.hid her
  clear e0 e1 e3 e4 her
  have hblk : w1.heap.size < wb.heap.size := cell_lt b8
  go_cut [7] (fun s7 wx => ∃ gA, s7 = .pointer (some ⟨gA, 0, none⟩) ∧ wb.heap.size ≤ gA ∧ wx.heap[gA]? = some (.cells (recCs id fi pr le en pl lp none 0 0) 91 (0, 0)) ∧ Below wb.heap.size wb wx)
  case first =>
    clear HER NB hr2 hBb
    have hrw := hrd.below ((Below.refl wb.heap.size wb).drew)
    refine wp_region_held (S := fun W => Below wb.heap.size wb W) (by kernel_rfl) ?_
    change wpAnyH _ _ _ _ _ _ _ _ (wb).drew
    have hS : (fun W => Below wb.heap.size wb W) (wb).drew := (Below.refl _ _).drew
    generalize (wb).drew = wd at hS hrw ⊢
    refine wpAnyH_take (i := 0) (oi := { dst := some 34, op := Op.move (Operand.tmp 6), type := 22, pos := "ref.go:44", after := #[], guard := none }) (v := ?_) rfl (by kernel_rfl) (by kernel_rfl) (by kernel_rfl) (fun _ _ _ h => h) (Or.inl ⟨by rfl, ?_⟩) (by assumption) ?_
    rotate_left
    · (intro wS hS; go_simp <;> with_reducible rfl)
    try simp only [Act.put, List.setIfInBounds_toArray, List.set_cons_zero, List.set_cons_succ]
    refine wpAnyH_take (i := 2) (oi := { dst := some 36, op := Op.move (Operand.tmp 6), type := 22, pos := "ref.go:44", after := #[], guard := none }) (v := ?_) rfl (by kernel_rfl) (by kernel_rfl) (by kernel_rfl) (fun _ _ _ h => h) (Or.inl ⟨by rfl, ?_⟩) (by assumption) ?_
    rotate_left
    · (intro wS hS; go_simp <;> with_reducible rfl)
    try simp only [Act.put, List.setIfInBounds_toArray, List.set_cons_zero, List.set_cons_succ]
    refine wpAnyH_take (i := 4) (oi := { dst := some 38, op := Op.move (Operand.tmp 6), type := 22, pos := "ref.go:44", after := #[], guard := none }) (v := ?_) rfl (by kernel_rfl) (by kernel_rfl) (by kernel_rfl) (fun _ _ _ h => h) (Or.inl ⟨by rfl, ?_⟩) (by assumption) ?_
    rotate_left
    · (intro wS hS; go_simp <;> with_reducible rfl)
    try simp only [Act.put, List.setIfInBounds_toArray, List.set_cons_zero, List.set_cons_succ]
    refine wpAnyH_take (i := 5) (oi := { dst := some 39, op := Op.indexAddr 22 (Operand.tmp 38) (Operand.const (Value.int IntKind.i64 8)), type := 0, pos := "ref.go:44", after := #[{ on := 4, ground := Ground.data }], guard := none }) (v := ?_) rfl (by kernel_rfl) (by kernel_rfl) (by kernel_rfl) (fun _ _ _ h => h) (Or.inl ⟨by rfl, ?_⟩) (by assumption) ?_
    rotate_left
    · (intro wS hS; go_simp <;> with_reducible rfl)
    try simp only [Act.put, List.setIfInBounds_toArray, List.set_cons_zero, List.set_cons_succ]
    refine wpAnyH_take (i := 6) (oi := { dst := some 40, op := Op.load 5 (Operand.tmp 39), type := 5, pos := "ref.go:44", after := #[{ on := 5, ground := Ground.data }], guard := none }) (v := ?_) rfl (by kernel_rfl) (by kernel_rfl) (by kernel_rfl) (fun _ _ _ h => h) (Or.inl ⟨by rfl, ?_⟩) (by assumption) ?_
    rotate_left
    · (intro wS hS; have c8 := cell_below hS b8; have c19 := cell_below hS b19; go_simp <;> with_reducible rfl)
    try simp only [Act.put, List.setIfInBounds_toArray, List.set_cons_zero, List.set_cons_succ]
    refine wpAnyH_take (i := 7) (oi := { dst := some 41, op := Op.convert 5 3 (Operand.tmp 40), type := 3, pos := "ref.go:44", after := #[{ on := 6, ground := Ground.data }], guard := none }) (v := ?_) rfl (by kernel_rfl) (by kernel_rfl) (by kernel_rfl) (fun _ _ _ h => h) (Or.inl ⟨by rfl, ?_⟩) (by assumption) ?_
    rotate_left
    · (intro wS hS; go_simp <;> with_reducible rfl)
    try simp only [Act.put, List.setIfInBounds_toArray, List.set_cons_zero, List.set_cons_succ]
    refine wpAnyH_take (i := 8) (oi := { dst := some 42, op := Op.move (Operand.tmp 6), type := 22, pos := "ref.go:44", after := #[], guard := none }) (v := ?_) rfl (by kernel_rfl) (by kernel_rfl) (by kernel_rfl) (fun _ _ _ h => h) (Or.inl ⟨by rfl, ?_⟩) (by assumption) ?_
    rotate_left
    · (intro wS hS; go_simp <;> with_reducible rfl)
    try simp only [Act.put, List.setIfInBounds_toArray, List.set_cons_zero, List.set_cons_succ]
    refine wpAnyH_take (i := 11) (oi := { dst := some 45, op := Op.move (Operand.tmp 6), type := 22, pos := "ref.go:44", after := #[], guard := none }) (v := ?_) rfl (by kernel_rfl) (by kernel_rfl) (by kernel_rfl) (fun _ _ _ h => h) (Or.inl ⟨by rfl, ?_⟩) (by assumption) ?_
    rotate_left
    · (intro wS hS; go_simp <;> with_reducible rfl)
    try simp only [Act.put, List.setIfInBounds_toArray, List.set_cons_zero, List.set_cons_succ]
    refine wpAnyH_take (i := 13) (oi := { dst := some 47, op := Op.move (Operand.tmp 6), type := 22, pos := "ref.go:44", after := #[], guard := none }) (v := ?_) rfl (by kernel_rfl) (by kernel_rfl) (by kernel_rfl) (fun _ _ _ h => h) (Or.inl ⟨by rfl, ?_⟩) (by assumption) ?_
    rotate_left
    · (intro wS hS; go_simp <;> with_reducible rfl)
    try simp only [Act.put, List.setIfInBounds_toArray, List.set_cons_zero, List.set_cons_succ]
    refine wpAnyH_take (i := 14) (oi := { dst := some 48, op := Op.indexAddr 22 (Operand.tmp 47) (Operand.const (Value.int IntKind.i64 19)), type := 0, pos := "ref.go:44", after := #[{ on := 13, ground := Ground.data }], guard := none }) (v := ?_) rfl (by kernel_rfl) (by kernel_rfl) (by kernel_rfl) (fun _ _ _ h => h) (Or.inl ⟨by rfl, ?_⟩) (by assumption) ?_
    rotate_left
    · (intro wS hS; go_simp <;> with_reducible rfl)
    try simp only [Act.put, List.setIfInBounds_toArray, List.set_cons_zero, List.set_cons_succ]
    refine wpAnyH_take (i := 15) (oi := { dst := some 49, op := Op.load 5 (Operand.tmp 48), type := 5, pos := "ref.go:44", after := #[{ on := 14, ground := Ground.data }], guard := none }) (v := ?_) rfl (by kernel_rfl) (by kernel_rfl) (by kernel_rfl) (fun _ _ _ h => h) (Or.inl ⟨by rfl, ?_⟩) (by assumption) ?_
    rotate_left
    · (intro wS hS; have c8 := cell_below hS b8; have c19 := cell_below hS b19; go_simp <;> with_reducible rfl)
    try simp only [Act.put, List.setIfInBounds_toArray, List.set_cons_zero, List.set_cons_succ]
    refine wpAnyH_take (i := 16) (oi := { dst := some 50, op := Op.binOp BinOp.eql 5 (Operand.tmp 49) (Operand.const (Value.int IntKind.u8 1)) 5, type := 4, pos := "ref.go:44", after := #[{ on := 15, ground := Ground.data }], guard := none }) (v := ?_) rfl (by kernel_rfl) (by kernel_rfl) (by kernel_rfl) (fun _ _ _ h => h) (Or.inl ⟨by rfl, ?_⟩) (by assumption) ?_
    rotate_left
    · (intro wS hS; go_simp <;> with_reducible rfl)
    try simp only [Act.put, List.setIfInBounds_toArray, List.set_cons_zero, List.set_cons_succ]
    refine wpAnyH_take (i := 17) (oi := { dst := some 51, op := Op.move (Operand.tmp 1), type := 3, pos := "ref.go:44", after := #[], guard := none }) (v := ?_) rfl (by kernel_rfl) (by kernel_rfl) (by kernel_rfl) (fun _ _ _ h => h) (Or.inl ⟨by rfl, ?_⟩) (by assumption) ?_
    rotate_left
    · (intro wS hS; go_simp <;> with_reducible rfl)
    try simp only [Act.put, List.setIfInBounds_toArray, List.set_cons_zero, List.set_cons_succ]
    refine wpAnyH_ready (rs := [1, 19]) (by kernel_rfl) (by simp) ?_
    refine AllReadyH.cons (o := { dst := some 35, op := Op.call { callee := Callee.value (Operand.func 32), args := #[Operand.tmp 34, Operand.const (Value.int IntKind.i64 0), Operand.const (Value.int IntKind.i64 4)], argTypes := #[22, 3, 3] }, type := 24, pos := "ref.go:44", after := #[{ on := 0, ground := Ground.data }], guard := none }) rfl (fun K hK => ?_) (AllReadyH.cons (o := { dst := some 7, op := Op.alloc 91, type := 0, pos := "ref.go:44", after := #[], guard := none }) rfl (fun K hK => ?_) (AllReadyH.nil))
    · have c8 := cell_below hS b8; have c19 := cell_below hS b19
      go_simp
      refine (N0 _ (hrd.below hS)).out.mono ?_
      rintro e w101 ⟨rfl, hb⟩
      replace hS : (fun W => Below wb.heap.size wb W) w101 := below_then hS hb (Below.size hS)
      refine hK.out _ _ hS (fun _ => ?_)
      clear hK K hb
      try simp only [Act.put, List.setIfInBounds_toArray, List.set_cons_zero, List.set_cons_succ]
      refine wpAnyH_ready (rs := [3, 19]) (by kernel_rfl) (by simp) ?_
      refine AllReadyH.cons (o := { dst := some 37, op := Op.call { callee := Callee.value (Operand.func 32), args := #[Operand.tmp 36, Operand.const (Value.int IntKind.i64 4), Operand.const (Value.int IntKind.i64 4)], argTypes := #[22, 3, 3] }, type := 24, pos := "ref.go:44", after := #[{ on := 2, ground := Ground.data }, { on := 1, ground := Ground.chain }], guard := none }) rfl (fun K hK => ?_) (AllReadyH.cons (o := { dst := some 7, op := Op.alloc 91, type := 0, pos := "ref.go:44", after := #[], guard := none }) rfl (fun K hK => ?_) (AllReadyH.nil))
      · have c8 := cell_below hS b8; have c19 := cell_below hS b19
        go_simp
        refine (N1 _ (hrd.below hS)).out.mono ?_
        rintro e w103 ⟨rfl, hb⟩
        replace hS : (fun W => Below wb.heap.size wb W) w103 := below_then hS hb (Below.size hS)
        refine hK.out _ _ hS (fun _ => ?_)
        clear hK K hb
        try simp only [Act.put, List.setIfInBounds_toArray, List.set_cons_zero, List.set_cons_succ]
        refine wpAnyH_ready (rs := [9, 19]) (by kernel_rfl) (by simp) ?_
        refine AllReadyH.cons (o := { dst := some 43, op := Op.call { callee := Callee.value (Operand.func 32), args := #[Operand.tmp 42, Operand.const (Value.int IntKind.i64 9), Operand.const (Value.int IntKind.i64 2)], argTypes := #[22, 3, 3] }, type := 24, pos := "ref.go:44", after := #[{ on := 8, ground := Ground.data }, { on := 3, ground := Ground.chain }], guard := none }) rfl (fun K hK => ?_) (AllReadyH.cons (o := { dst := some 7, op := Op.alloc 91, type := 0, pos := "ref.go:44", after := #[], guard := none }) rfl (fun K hK => ?_) (AllReadyH.nil))
        · have c8 := cell_below hS b8; have c19 := cell_below hS b19
          go_simp
          refine (N2 _ (hrd.below hS)).out.mono ?_
          rintro e w109 ⟨rfl, hb⟩
          replace hS : (fun W => Below wb.heap.size wb W) w109 := below_then hS hb (Below.size hS)
          refine hK.out _ _ hS (fun _ => ?_)
          clear hK K hb
          try simp only [Act.put, List.setIfInBounds_toArray, List.set_cons_zero, List.set_cons_succ]
          refine wpAnyH_take (i := 10) (oi := { dst := some 44, op := Op.convert 24 3 (Operand.tmp 43), type := 3, pos := "ref.go:44", after := #[{ on := 9, ground := Ground.data }], guard := none }) (v := ?_) rfl (by kernel_rfl) (by kernel_rfl) (by kernel_rfl) (fun _ _ _ h => h) (Or.inl ⟨by rfl, ?_⟩) (by assumption) ?_
          rotate_left
          · (intro wS hS; go_simp <;> with_reducible rfl)
          try simp only [Act.put, List.setIfInBounds_toArray, List.set_cons_zero, List.set_cons_succ]
          refine wpAnyH_ready (rs := [12, 19]) (by kernel_rfl) (by simp) ?_
          refine AllReadyH.cons (o := { dst := some 46, op := Op.call { callee := Callee.value (Operand.func 32), args := #[Operand.tmp 45, Operand.const (Value.int IntKind.i64 11), Operand.const (Value.int IntKind.i64 8)], argTypes := #[22, 3, 3] }, type := 24, pos := "ref.go:44", after := #[{ on := 11, ground := Ground.data }, { on := 9, ground := Ground.chain }], guard := none }) rfl (fun K hK => ?_) (AllReadyH.cons (o := { dst := some 7, op := Op.alloc 91, type := 0, pos := "ref.go:44", after := #[], guard := none }) rfl (fun K hK => ?_) (AllReadyH.nil))
          · have c8 := cell_below hS b8; have c19 := cell_below hS b19
            go_simp
            refine (N3 _ (hrd.below hS)).out.mono ?_
            rintro e w112 ⟨rfl, hb⟩
            replace hS : (fun W => Below wb.heap.size wb W) w112 := below_then hS hb (Below.size hS)
            refine hK.out _ _ hS (fun _ => ?_)
            clear hK K hb
            try simp only [Act.put, List.setIfInBounds_toArray, List.set_cons_zero, List.set_cons_succ]
            refine wpAnyH_take (i := 18) (oi := { dst := some 52, op := Op.build 91 #[(0, Operand.tmp 35), (1, Operand.tmp 37), (2, Operand.tmp 41), (3, Operand.tmp 44), (4, Operand.tmp 46), (5, Operand.tmp 50), (6, Operand.tmp 51)], type := 91, pos := "ref.go:44", after := #[{ on := 1, ground := Ground.data }, { on := 3, ground := Ground.data }, { on := 7, ground := Ground.data }, { on := 10, ground := Ground.data }, { on := 12, ground := Ground.data }, { on := 16, ground := Ground.data }, { on := 17, ground := Ground.data }], guard := none }) (v := ?_) rfl (by kernel_rfl) (by kernel_rfl) (by kernel_rfl) (fun _ _ _ h => h) (Or.inl ⟨by rfl, ?_⟩) (by assumption) ?_
            rotate_left
            · (intro wS hS; go_simp <;> with_reducible rfl)
            try simp only [Act.put, List.setIfInBounds_toArray, List.set_cons_zero, List.set_cons_succ]
            refine wpAnyH_ready (rs := [19]) (by kernel_rfl) (by simp) ?_
            refine AllReadyH.cons (o := { dst := some 7, op := Op.alloc 91, type := 0, pos := "ref.go:44", after := #[], guard := none }) rfl (fun K hK => ?_) (AllReadyH.nil)
            go_simp
            obtain ⟨gA, hgA⟩ : ∃ x, x = w112.heap.size := ⟨_, rfl⟩
            have hhA : (w112.alloc (.cells #[.int .u64 0, .int .u64 0, .int .i64 0, .int .i64 0, .int .u64 0, .bool false, .int .i64 0, .slice none 0 0] 91)).heap[gA]? = some (.cells #[.int .u64 0, .int .u64 0, .int .i64 0, .int .i64 0, .int .u64 0, .bool false, .int .i64 0, .slice none 0 0] 91 (0, 0)) := by rw [hgA]; exact alloc_new _ _
            have hgB : wb.heap.size ≤ gA := by rw [hgA]; exact Below.size hS
            have hS2 : (fun W => Below wb.heap.size wb W) (w112.alloc (.cells #[.int .u64 0, .int .u64 0, .int .i64 0, .int .i64 0, .int .u64 0, .bool false, .int .i64 0, .slice none 0 0] 91)) := Below.alloc hS (Below.size hS) _
            refine hK.out _ _ hS2 (fun _ => ?_)
            clear hK K hS
            try simp only [Act.put, List.setIfInBounds_toArray, List.set_cons_zero, List.set_cons_succ]
            simp only [← hgA]
            clear hgA
            generalize w112.alloc (.cells #[.int .u64 0, .int .u64 0, .int .i64 0, .int .i64 0, .int .u64 0, .bool false, .int .i64 0, .slice none 0 0] 91) = wA at *
            have hS := hS2
            clear hS2
            refine wpAnyH_ready (rs := [20]) (by kernel_rfl) (by simp) ?_
            refine AllReadyH.cons (o := { dst := none, op := Op.store 91 (Operand.tmp 7) (Operand.tmp 52), type := 0, pos := "ref.go:44", after := #[{ on := 19, ground := Ground.data }, { on := 18, ground := Ground.data }, { on := 12, ground := Ground.chain }, { on := 0, ground := Ground.phase }, { on := 1, ground := Ground.phase }, { on := 2, ground := Ground.phase }, { on := 3, ground := Ground.phase }, { on := 4, ground := Ground.phase }, { on := 5, ground := Ground.phase }, { on := 6, ground := Ground.phase }, { on := 7, ground := Ground.phase }, { on := 8, ground := Ground.phase }, { on := 9, ground := Ground.phase }, { on := 10, ground := Ground.phase }, { on := 11, ground := Ground.phase }, { on := 12, ground := Ground.phase }, { on := 13, ground := Ground.phase }, { on := 14, ground := Ground.phase }, { on := 15, ground := Ground.phase }, { on := 16, ground := Ground.phase }, { on := 17, ground := Ground.phase }, { on := 18, ground := Ground.phase }, { on := 19, ground := Ground.phase }], guard := none }) rfl (fun K hK => ?_) (AllReadyH.nil)
            obtain ⟨⟨z0, z1, z2, z3, z4, z5, z6, z7⟩, k0, k1, k2, k3, k4, k5, k6, k7⟩ := eight_cells hhA
            have hh9 := eight_heap hhA (.int .u64 (id : Int)) (.int .u64 (fi : Int)) (.int .i64 (pr : Int)) (.int .i64 (le : Int)) (.int .u64 (en : Int)) (.bool pl) (.int .i64 lp) (.slice none 0 0)
            have hG9 := eight_gb wA gA (.int .u64 (id : Int)) (.int .u64 (fi : Int)) (.int .i64 (pr : Int)) (.int .i64 (le : Int)) (.int .u64 (en : Int)) (.bool pl) (.int .i64 lp) (.slice none 0 0)
            have hS9 := below_gbw hG9 hS hgB
            go_simp
            refine hK.out _ _ hS9 (fun _ => ?_)
            clear hK K
            try simp only [Act.put, List.setIfInBounds_toArray, List.set_cons_zero, List.set_cons_succ]
            refine wpAnyH_done (by kernel_rfl) ?_ _
            go_wp2_with fail
            go_meet
            exact ⟨gA, rfl, hgB, hh9, hS9⟩
          · go_simp
            obtain ⟨gA, hgA⟩ : ∃ x, x = w109.heap.size := ⟨_, rfl⟩
            have hhA : (w109.alloc (.cells #[.int .u64 0, .int .u64 0, .int .i64 0, .int .i64 0, .int .u64 0, .bool false, .int .i64 0, .slice none 0 0] 91)).heap[gA]? = some (.cells #[.int .u64 0, .int .u64 0, .int .i64 0, .int .i64 0, .int .u64 0, .bool false, .int .i64 0, .slice none 0 0] 91 (0, 0)) := by rw [hgA]; exact alloc_new _ _
            have hgB : wb.heap.size ≤ gA := by rw [hgA]; exact Below.size hS
            have hS2 : (fun W => Below wb.heap.size wb W) (w109.alloc (.cells #[.int .u64 0, .int .u64 0, .int .i64 0, .int .i64 0, .int .u64 0, .bool false, .int .i64 0, .slice none 0 0] 91)) := Below.alloc hS (Below.size hS) _
            refine hK.out _ _ hS2 (fun _ => ?_)
            clear hK K hS
            try simp only [Act.put, List.setIfInBounds_toArray, List.set_cons_zero, List.set_cons_succ]
            simp only [← hgA]
            clear hgA
            generalize w109.alloc (.cells #[.int .u64 0, .int .u64 0, .int .i64 0, .int .i64 0, .int .u64 0, .bool false, .int .i64 0, .slice none 0 0] 91) = wA at *
            have hS := hS2
            clear hS2
            refine wpAnyH_ready (rs := [12]) (by kernel_rfl) (by simp) ?_
            refine AllReadyH.cons (o := { dst := some 46, op := Op.call { callee := Callee.value (Operand.func 32), args := #[Operand.tmp 45, Operand.const (Value.int IntKind.i64 11), Operand.const (Value.int IntKind.i64 8)], argTypes := #[22, 3, 3] }, type := 24, pos := "ref.go:44", after := #[{ on := 11, ground := Ground.data }, { on := 9, ground := Ground.chain }], guard := none }) rfl (fun K hK => ?_) (AllReadyH.nil)
            have c8 := cell_below hS b8; have c19 := cell_below hS b19
            go_simp
            refine (N3 _ (hrd.below hS)).out.mono ?_
            rintro e w112 ⟨rfl, hb⟩
            replace hS : (fun W => Below wb.heap.size wb W) w112 := below_then hS hb (Below.size hS)
            replace hhA := heap_below hb hhA
            refine hK.out _ _ hS (fun _ => ?_)
            clear hK K hb
            try simp only [Act.put, List.setIfInBounds_toArray, List.set_cons_zero, List.set_cons_succ]
            refine wpAnyH_take (i := 18) (oi := { dst := some 52, op := Op.build 91 #[(0, Operand.tmp 35), (1, Operand.tmp 37), (2, Operand.tmp 41), (3, Operand.tmp 44), (4, Operand.tmp 46), (5, Operand.tmp 50), (6, Operand.tmp 51)], type := 91, pos := "ref.go:44", after := #[{ on := 1, ground := Ground.data }, { on := 3, ground := Ground.data }, { on := 7, ground := Ground.data }, { on := 10, ground := Ground.data }, { on := 12, ground := Ground.data }, { on := 16, ground := Ground.data }, { on := 17, ground := Ground.data }], guard := none }) (v := ?_) rfl (by kernel_rfl) (by kernel_rfl) (by kernel_rfl) (fun _ _ _ h => h) (Or.inl ⟨by rfl, ?_⟩) (by assumption) ?_
            rotate_left
            · (intro wS hS; go_simp <;> with_reducible rfl)
            try simp only [Act.put, List.setIfInBounds_toArray, List.set_cons_zero, List.set_cons_succ]
            refine wpAnyH_ready (rs := [20]) (by kernel_rfl) (by simp) ?_
            refine AllReadyH.cons (o := { dst := none, op := Op.store 91 (Operand.tmp 7) (Operand.tmp 52), type := 0, pos := "ref.go:44", after := #[{ on := 19, ground := Ground.data }, { on := 18, ground := Ground.data }, { on := 12, ground := Ground.chain }, { on := 0, ground := Ground.phase }, { on := 1, ground := Ground.phase }, { on := 2, ground := Ground.phase }, { on := 3, ground := Ground.phase }, { on := 4, ground := Ground.phase }, { on := 5, ground := Ground.phase }, { on := 6, ground := Ground.phase }, { on := 7, ground := Ground.phase }, { on := 8, ground := Ground.phase }, { on := 9, ground := Ground.phase }, { on := 10, ground := Ground.phase }, { on := 11, ground := Ground.phase }, { on := 12, ground := Ground.phase }, { on := 13, ground := Ground.phase }, { on := 14, ground := Ground.phase }, { on := 15, ground := Ground.phase }, { on := 16, ground := Ground.phase }, { on := 17, ground := Ground.phase }, { on := 18, ground := Ground.phase }, { on := 19, ground := Ground.phase }], guard := none }) rfl (fun K hK => ?_) (AllReadyH.nil)
            obtain ⟨⟨z0, z1, z2, z3, z4, z5, z6, z7⟩, k0, k1, k2, k3, k4, k5, k6, k7⟩ := eight_cells hhA
            have hh9 := eight_heap hhA (.int .u64 (id : Int)) (.int .u64 (fi : Int)) (.int .i64 (pr : Int)) (.int .i64 (le : Int)) (.int .u64 (en : Int)) (.bool pl) (.int .i64 lp) (.slice none 0 0)
            have hG9 := eight_gb w112 gA (.int .u64 (id : Int)) (.int .u64 (fi : Int)) (.int .i64 (pr : Int)) (.int .i64 (le : Int)) (.int .u64 (en : Int)) (.bool pl) (.int .i64 lp) (.slice none 0 0)
            have hS9 := below_gbw hG9 hS hgB
            go_simp
            refine hK.out _ _ hS9 (fun _ => ?_)
            clear hK K
            try simp only [Act.put, List.setIfInBounds_toArray, List.set_cons_zero, List.set_cons_succ]
            refine wpAnyH_done (by kernel_rfl) ?_ _
            go_wp2_with fail
            go_meet
            exact ⟨gA, rfl, hgB, hh9, hS9⟩
        · go_simp
          obtain ⟨gA, hgA⟩ : ∃ x, x = w103.heap.size := ⟨_, rfl⟩
          have hhA : (w103.alloc (.cells #[.int .u64 0, .int .u64 0, .int .i64 0, .int .i64 0, .int .u64 0, .bool false, .int .i64 0, .slice none 0 0] 91)).heap[gA]? = some (.cells #[.int .u64 0, .int .u64 0, .int .i64 0, .int .i64 0, .int .u64 0, .bool false, .int .i64 0, .slice none 0 0] 91 (0, 0)) := by rw [hgA]; exact alloc_new _ _
          have hgB : wb.heap.size ≤ gA := by rw [hgA]; exact Below.size hS
          have hS2 : (fun W => Below wb.heap.size wb W) (w103.alloc (.cells #[.int .u64 0, .int .u64 0, .int .i64 0, .int .i64 0, .int .u64 0, .bool false, .int .i64 0, .slice none 0 0] 91)) := Below.alloc hS (Below.size hS) _
          refine hK.out _ _ hS2 (fun _ => ?_)
          clear hK K hS
          try simp only [Act.put, List.setIfInBounds_toArray, List.set_cons_zero, List.set_cons_succ]
          simp only [← hgA]
          clear hgA
          generalize w103.alloc (.cells #[.int .u64 0, .int .u64 0, .int .i64 0, .int .i64 0, .int .u64 0, .bool false, .int .i64 0, .slice none 0 0] 91) = wA at *
          have hS := hS2
          clear hS2
          refine wpAnyH_ready (rs := [9]) (by kernel_rfl) (by simp) ?_
          refine AllReadyH.cons (o := { dst := some 43, op := Op.call { callee := Callee.value (Operand.func 32), args := #[Operand.tmp 42, Operand.const (Value.int IntKind.i64 9), Operand.const (Value.int IntKind.i64 2)], argTypes := #[22, 3, 3] }, type := 24, pos := "ref.go:44", after := #[{ on := 8, ground := Ground.data }, { on := 3, ground := Ground.chain }], guard := none }) rfl (fun K hK => ?_) (AllReadyH.nil)
          have c8 := cell_below hS b8; have c19 := cell_below hS b19
          go_simp
          refine (N2 _ (hrd.below hS)).out.mono ?_
          rintro e w109 ⟨rfl, hb⟩
          replace hS : (fun W => Below wb.heap.size wb W) w109 := below_then hS hb (Below.size hS)
          replace hhA := heap_below hb hhA
          refine hK.out _ _ hS (fun _ => ?_)
          clear hK K hb
          try simp only [Act.put, List.setIfInBounds_toArray, List.set_cons_zero, List.set_cons_succ]
          refine wpAnyH_take (i := 10) (oi := { dst := some 44, op := Op.convert 24 3 (Operand.tmp 43), type := 3, pos := "ref.go:44", after := #[{ on := 9, ground := Ground.data }], guard := none }) (v := ?_) rfl (by kernel_rfl) (by kernel_rfl) (by kernel_rfl) (fun _ _ _ h => h) (Or.inl ⟨by rfl, ?_⟩) (by assumption) ?_
          rotate_left
          · (intro wS hS; go_simp <;> with_reducible rfl)
          try simp only [Act.put, List.setIfInBounds_toArray, List.set_cons_zero, List.set_cons_succ]
          refine wpAnyH_ready (rs := [12]) (by kernel_rfl) (by simp) ?_
          refine AllReadyH.cons (o := { dst := some 46, op := Op.call { callee := Callee.value (Operand.func 32), args := #[Operand.tmp 45, Operand.const (Value.int IntKind.i64 11), Operand.const (Value.int IntKind.i64 8)], argTypes := #[22, 3, 3] }, type := 24, pos := "ref.go:44", after := #[{ on := 11, ground := Ground.data }, { on := 9, ground := Ground.chain }], guard := none }) rfl (fun K hK => ?_) (AllReadyH.nil)
          have c8 := cell_below hS b8; have c19 := cell_below hS b19
          go_simp
          refine (N3 _ (hrd.below hS)).out.mono ?_
          rintro e w112 ⟨rfl, hb⟩
          replace hS : (fun W => Below wb.heap.size wb W) w112 := below_then hS hb (Below.size hS)
          replace hhA := heap_below hb hhA
          refine hK.out _ _ hS (fun _ => ?_)
          clear hK K hb
          try simp only [Act.put, List.setIfInBounds_toArray, List.set_cons_zero, List.set_cons_succ]
          refine wpAnyH_take (i := 18) (oi := { dst := some 52, op := Op.build 91 #[(0, Operand.tmp 35), (1, Operand.tmp 37), (2, Operand.tmp 41), (3, Operand.tmp 44), (4, Operand.tmp 46), (5, Operand.tmp 50), (6, Operand.tmp 51)], type := 91, pos := "ref.go:44", after := #[{ on := 1, ground := Ground.data }, { on := 3, ground := Ground.data }, { on := 7, ground := Ground.data }, { on := 10, ground := Ground.data }, { on := 12, ground := Ground.data }, { on := 16, ground := Ground.data }, { on := 17, ground := Ground.data }], guard := none }) (v := ?_) rfl (by kernel_rfl) (by kernel_rfl) (by kernel_rfl) (fun _ _ _ h => h) (Or.inl ⟨by rfl, ?_⟩) (by assumption) ?_
          rotate_left
          · (intro wS hS; go_simp <;> with_reducible rfl)
          try simp only [Act.put, List.setIfInBounds_toArray, List.set_cons_zero, List.set_cons_succ]
          refine wpAnyH_ready (rs := [20]) (by kernel_rfl) (by simp) ?_
          refine AllReadyH.cons (o := { dst := none, op := Op.store 91 (Operand.tmp 7) (Operand.tmp 52), type := 0, pos := "ref.go:44", after := #[{ on := 19, ground := Ground.data }, { on := 18, ground := Ground.data }, { on := 12, ground := Ground.chain }, { on := 0, ground := Ground.phase }, { on := 1, ground := Ground.phase }, { on := 2, ground := Ground.phase }, { on := 3, ground := Ground.phase }, { on := 4, ground := Ground.phase }, { on := 5, ground := Ground.phase }, { on := 6, ground := Ground.phase }, { on := 7, ground := Ground.phase }, { on := 8, ground := Ground.phase }, { on := 9, ground := Ground.phase }, { on := 10, ground := Ground.phase }, { on := 11, ground := Ground.phase }, { on := 12, ground := Ground.phase }, { on := 13, ground := Ground.phase }, { on := 14, ground := Ground.phase }, { on := 15, ground := Ground.phase }, { on := 16, ground := Ground.phase }, { on := 17, ground := Ground.phase }, { on := 18, ground := Ground.phase }, { on := 19, ground := Ground.phase }], guard := none }) rfl (fun K hK => ?_) (AllReadyH.nil)
          obtain ⟨⟨z0, z1, z2, z3, z4, z5, z6, z7⟩, k0, k1, k2, k3, k4, k5, k6, k7⟩ := eight_cells hhA
          have hh9 := eight_heap hhA (.int .u64 (id : Int)) (.int .u64 (fi : Int)) (.int .i64 (pr : Int)) (.int .i64 (le : Int)) (.int .u64 (en : Int)) (.bool pl) (.int .i64 lp) (.slice none 0 0)
          have hG9 := eight_gb w112 gA (.int .u64 (id : Int)) (.int .u64 (fi : Int)) (.int .i64 (pr : Int)) (.int .i64 (le : Int)) (.int .u64 (en : Int)) (.bool pl) (.int .i64 lp) (.slice none 0 0)
          have hS9 := below_gbw hG9 hS hgB
          go_simp
          refine hK.out _ _ hS9 (fun _ => ?_)
          clear hK K
          try simp only [Act.put, List.setIfInBounds_toArray, List.set_cons_zero, List.set_cons_succ]
          refine wpAnyH_done (by kernel_rfl) ?_ _
          go_wp2_with fail
          go_meet
          exact ⟨gA, rfl, hgB, hh9, hS9⟩
      · go_simp
        obtain ⟨gA, hgA⟩ : ∃ x, x = w101.heap.size := ⟨_, rfl⟩
        have hhA : (w101.alloc (.cells #[.int .u64 0, .int .u64 0, .int .i64 0, .int .i64 0, .int .u64 0, .bool false, .int .i64 0, .slice none 0 0] 91)).heap[gA]? = some (.cells #[.int .u64 0, .int .u64 0, .int .i64 0, .int .i64 0, .int .u64 0, .bool false, .int .i64 0, .slice none 0 0] 91 (0, 0)) := by rw [hgA]; exact alloc_new _ _
        have hgB : wb.heap.size ≤ gA := by rw [hgA]; exact Below.size hS
        have hS2 : (fun W => Below wb.heap.size wb W) (w101.alloc (.cells #[.int .u64 0, .int .u64 0, .int .i64 0, .int .i64 0, .int .u64 0, .bool false, .int .i64 0, .slice none 0 0] 91)) := Below.alloc hS (Below.size hS) _
        refine hK.out _ _ hS2 (fun _ => ?_)
        clear hK K hS
        try simp only [Act.put, List.setIfInBounds_toArray, List.set_cons_zero, List.set_cons_succ]
        simp only [← hgA]
        clear hgA
        generalize w101.alloc (.cells #[.int .u64 0, .int .u64 0, .int .i64 0, .int .i64 0, .int .u64 0, .bool false, .int .i64 0, .slice none 0 0] 91) = wA at *
        have hS := hS2
        clear hS2
        refine wpAnyH_ready (rs := [3]) (by kernel_rfl) (by simp) ?_
        refine AllReadyH.cons (o := { dst := some 37, op := Op.call { callee := Callee.value (Operand.func 32), args := #[Operand.tmp 36, Operand.const (Value.int IntKind.i64 4), Operand.const (Value.int IntKind.i64 4)], argTypes := #[22, 3, 3] }, type := 24, pos := "ref.go:44", after := #[{ on := 2, ground := Ground.data }, { on := 1, ground := Ground.chain }], guard := none }) rfl (fun K hK => ?_) (AllReadyH.nil)
        have c8 := cell_below hS b8; have c19 := cell_below hS b19
        go_simp
        refine (N1 _ (hrd.below hS)).out.mono ?_
        rintro e w103 ⟨rfl, hb⟩
        replace hS : (fun W => Below wb.heap.size wb W) w103 := below_then hS hb (Below.size hS)
        replace hhA := heap_below hb hhA
        refine hK.out _ _ hS (fun _ => ?_)
        clear hK K hb
        try simp only [Act.put, List.setIfInBounds_toArray, List.set_cons_zero, List.set_cons_succ]
        refine wpAnyH_ready (rs := [9]) (by kernel_rfl) (by simp) ?_
        refine AllReadyH.cons (o := { dst := some 43, op := Op.call { callee := Callee.value (Operand.func 32), args := #[Operand.tmp 42, Operand.const (Value.int IntKind.i64 9), Operand.const (Value.int IntKind.i64 2)], argTypes := #[22, 3, 3] }, type := 24, pos := "ref.go:44", after := #[{ on := 8, ground := Ground.data }, { on := 3, ground := Ground.chain }], guard := none }) rfl (fun K hK => ?_) (AllReadyH.nil)
        have c8 := cell_below hS b8; have c19 := cell_below hS b19
        go_simp
        refine (N2 _ (hrd.below hS)).out.mono ?_
        rintro e w109 ⟨rfl, hb⟩
        replace hS : (fun W => Below wb.heap.size wb W) w109 := below_then hS hb (Below.size hS)
        replace hhA := heap_below hb hhA
        refine hK.out _ _ hS (fun _ => ?_)
        clear hK K hb
        try simp only [Act.put, List.setIfInBounds_toArray, List.set_cons_zero, List.set_cons_succ]
        refine wpAnyH_take (i := 10) (oi := { dst := some 44, op := Op.convert 24 3 (Operand.tmp 43), type := 3, pos := "ref.go:44", after := #[{ on := 9, ground := Ground.data }], guard := none }) (v := ?_) rfl (by kernel_rfl) (by kernel_rfl) (by kernel_rfl) (fun _ _ _ h => h) (Or.inl ⟨by rfl, ?_⟩) (by assumption) ?_
        rotate_left
        · (intro wS hS; go_simp <;> with_reducible rfl)
        try simp only [Act.put, List.setIfInBounds_toArray, List.set_cons_zero, List.set_cons_succ]
        refine wpAnyH_ready (rs := [12]) (by kernel_rfl) (by simp) ?_
        refine AllReadyH.cons (o := { dst := some 46, op := Op.call { callee := Callee.value (Operand.func 32), args := #[Operand.tmp 45, Operand.const (Value.int IntKind.i64 11), Operand.const (Value.int IntKind.i64 8)], argTypes := #[22, 3, 3] }, type := 24, pos := "ref.go:44", after := #[{ on := 11, ground := Ground.data }, { on := 9, ground := Ground.chain }], guard := none }) rfl (fun K hK => ?_) (AllReadyH.nil)
        have c8 := cell_below hS b8; have c19 := cell_below hS b19
        go_simp
        refine (N3 _ (hrd.below hS)).out.mono ?_
        rintro e w112 ⟨rfl, hb⟩
        replace hS : (fun W => Below wb.heap.size wb W) w112 := below_then hS hb (Below.size hS)
        replace hhA := heap_below hb hhA
        refine hK.out _ _ hS (fun _ => ?_)
        clear hK K hb
        try simp only [Act.put, List.setIfInBounds_toArray, List.set_cons_zero, List.set_cons_succ]
        refine wpAnyH_take (i := 18) (oi := { dst := some 52, op := Op.build 91 #[(0, Operand.tmp 35), (1, Operand.tmp 37), (2, Operand.tmp 41), (3, Operand.tmp 44), (4, Operand.tmp 46), (5, Operand.tmp 50), (6, Operand.tmp 51)], type := 91, pos := "ref.go:44", after := #[{ on := 1, ground := Ground.data }, { on := 3, ground := Ground.data }, { on := 7, ground := Ground.data }, { on := 10, ground := Ground.data }, { on := 12, ground := Ground.data }, { on := 16, ground := Ground.data }, { on := 17, ground := Ground.data }], guard := none }) (v := ?_) rfl (by kernel_rfl) (by kernel_rfl) (by kernel_rfl) (fun _ _ _ h => h) (Or.inl ⟨by rfl, ?_⟩) (by assumption) ?_
        rotate_left
        · (intro wS hS; go_simp <;> with_reducible rfl)
        try simp only [Act.put, List.setIfInBounds_toArray, List.set_cons_zero, List.set_cons_succ]
        refine wpAnyH_ready (rs := [20]) (by kernel_rfl) (by simp) ?_
        refine AllReadyH.cons (o := { dst := none, op := Op.store 91 (Operand.tmp 7) (Operand.tmp 52), type := 0, pos := "ref.go:44", after := #[{ on := 19, ground := Ground.data }, { on := 18, ground := Ground.data }, { on := 12, ground := Ground.chain }, { on := 0, ground := Ground.phase }, { on := 1, ground := Ground.phase }, { on := 2, ground := Ground.phase }, { on := 3, ground := Ground.phase }, { on := 4, ground := Ground.phase }, { on := 5, ground := Ground.phase }, { on := 6, ground := Ground.phase }, { on := 7, ground := Ground.phase }, { on := 8, ground := Ground.phase }, { on := 9, ground := Ground.phase }, { on := 10, ground := Ground.phase }, { on := 11, ground := Ground.phase }, { on := 12, ground := Ground.phase }, { on := 13, ground := Ground.phase }, { on := 14, ground := Ground.phase }, { on := 15, ground := Ground.phase }, { on := 16, ground := Ground.phase }, { on := 17, ground := Ground.phase }, { on := 18, ground := Ground.phase }, { on := 19, ground := Ground.phase }], guard := none }) rfl (fun K hK => ?_) (AllReadyH.nil)
        obtain ⟨⟨z0, z1, z2, z3, z4, z5, z6, z7⟩, k0, k1, k2, k3, k4, k5, k6, k7⟩ := eight_cells hhA
        have hh9 := eight_heap hhA (.int .u64 (id : Int)) (.int .u64 (fi : Int)) (.int .i64 (pr : Int)) (.int .i64 (le : Int)) (.int .u64 (en : Int)) (.bool pl) (.int .i64 lp) (.slice none 0 0)
        have hG9 := eight_gb w112 gA (.int .u64 (id : Int)) (.int .u64 (fi : Int)) (.int .i64 (pr : Int)) (.int .i64 (le : Int)) (.int .u64 (en : Int)) (.bool pl) (.int .i64 lp) (.slice none 0 0)
        have hS9 := below_gbw hG9 hS hgB
        go_simp
        refine hK.out _ _ hS9 (fun _ => ?_)
        clear hK K
        try simp only [Act.put, List.setIfInBounds_toArray, List.set_cons_zero, List.set_cons_succ]
        refine wpAnyH_done (by kernel_rfl) ?_ _
        go_wp2_with fail
        go_meet
        exact ⟨gA, rfl, hgB, hh9, hS9⟩
    · go_simp
      obtain ⟨gA, hgA⟩ : ∃ x, x = wd.heap.size := ⟨_, rfl⟩
      have hhA : (wd.alloc (.cells #[.int .u64 0, .int .u64 0, .int .i64 0, .int .i64 0, .int .u64 0, .bool false, .int .i64 0, .slice none 0 0] 91)).heap[gA]? = some (.cells #[.int .u64 0, .int .u64 0, .int .i64 0, .int .i64 0, .int .u64 0, .bool false, .int .i64 0, .slice none 0 0] 91 (0, 0)) := by rw [hgA]; exact alloc_new _ _
      have hgB : wb.heap.size ≤ gA := by rw [hgA]; exact Below.size hS
      have hS2 : (fun W => Below wb.heap.size wb W) (wd.alloc (.cells #[.int .u64 0, .int .u64 0, .int .i64 0, .int .i64 0, .int .u64 0, .bool false, .int .i64 0, .slice none 0 0] 91)) := Below.alloc hS (Below.size hS) _
      refine hK.out _ _ hS2 (fun _ => ?_)
      clear hK K hS
      try simp only [Act.put, List.setIfInBounds_toArray, List.set_cons_zero, List.set_cons_succ]
      simp only [← hgA]
      clear hgA
      generalize wd.alloc (.cells #[.int .u64 0, .int .u64 0, .int .i64 0, .int .i64 0, .int .u64 0, .bool false, .int .i64 0, .slice none 0 0] 91) = wA at *
      have hS := hS2
      clear hS2
      refine wpAnyH_ready (rs := [1]) (by kernel_rfl) (by simp) ?_
      refine AllReadyH.cons (o := { dst := some 35, op := Op.call { callee := Callee.value (Operand.func 32), args := #[Operand.tmp 34, Operand.const (Value.int IntKind.i64 0), Operand.const (Value.int IntKind.i64 4)], argTypes := #[22, 3, 3] }, type := 24, pos := "ref.go:44", after := #[{ on := 0, ground := Ground.data }], guard := none }) rfl (fun K hK => ?_) (AllReadyH.nil)
      have c8 := cell_below hS b8; have c19 := cell_below hS b19
      go_simp
      refine (N0 _ (hrd.below hS)).out.mono ?_
      rintro e w101 ⟨rfl, hb⟩
      replace hS : (fun W => Below wb.heap.size wb W) w101 := below_then hS hb (Below.size hS)
      replace hhA := heap_below hb hhA
      refine hK.out _ _ hS (fun _ => ?_)
      clear hK K hb
      try simp only [Act.put, List.setIfInBounds_toArray, List.set_cons_zero, List.set_cons_succ]
      refine wpAnyH_ready (rs := [3]) (by kernel_rfl) (by simp) ?_
      refine AllReadyH.cons (o := { dst := some 37, op := Op.call { callee := Callee.value (Operand.func 32), args := #[Operand.tmp 36, Operand.const (Value.int IntKind.i64 4), Operand.const (Value.int IntKind.i64 4)], argTypes := #[22, 3, 3] }, type := 24, pos := "ref.go:44", after := #[{ on := 2, ground := Ground.data }, { on := 1, ground := Ground.chain }], guard := none }) rfl (fun K hK => ?_) (AllReadyH.nil)
      have c8 := cell_below hS b8; have c19 := cell_below hS b19
      go_simp
      refine (N1 _ (hrd.below hS)).out.mono ?_
      rintro e w103 ⟨rfl, hb⟩
      replace hS : (fun W => Below wb.heap.size wb W) w103 := below_then hS hb (Below.size hS)
      replace hhA := heap_below hb hhA
      refine hK.out _ _ hS (fun _ => ?_)
      clear hK K hb
      try simp only [Act.put, List.setIfInBounds_toArray, List.set_cons_zero, List.set_cons_succ]
      refine wpAnyH_ready (rs := [9]) (by kernel_rfl) (by simp) ?_
      refine AllReadyH.cons (o := { dst := some 43, op := Op.call { callee := Callee.value (Operand.func 32), args := #[Operand.tmp 42, Operand.const (Value.int IntKind.i64 9), Operand.const (Value.int IntKind.i64 2)], argTypes := #[22, 3, 3] }, type := 24, pos := "ref.go:44", after := #[{ on := 8, ground := Ground.data }, { on := 3, ground := Ground.chain }], guard := none }) rfl (fun K hK => ?_) (AllReadyH.nil)
      have c8 := cell_below hS b8; have c19 := cell_below hS b19
      go_simp
      refine (N2 _ (hrd.below hS)).out.mono ?_
      rintro e w109 ⟨rfl, hb⟩
      replace hS : (fun W => Below wb.heap.size wb W) w109 := below_then hS hb (Below.size hS)
      replace hhA := heap_below hb hhA
      refine hK.out _ _ hS (fun _ => ?_)
      clear hK K hb
      try simp only [Act.put, List.setIfInBounds_toArray, List.set_cons_zero, List.set_cons_succ]
      refine wpAnyH_take (i := 10) (oi := { dst := some 44, op := Op.convert 24 3 (Operand.tmp 43), type := 3, pos := "ref.go:44", after := #[{ on := 9, ground := Ground.data }], guard := none }) (v := ?_) rfl (by kernel_rfl) (by kernel_rfl) (by kernel_rfl) (fun _ _ _ h => h) (Or.inl ⟨by rfl, ?_⟩) (by assumption) ?_
      rotate_left
      · (intro wS hS; go_simp <;> with_reducible rfl)
      try simp only [Act.put, List.setIfInBounds_toArray, List.set_cons_zero, List.set_cons_succ]
      refine wpAnyH_ready (rs := [12]) (by kernel_rfl) (by simp) ?_
      refine AllReadyH.cons (o := { dst := some 46, op := Op.call { callee := Callee.value (Operand.func 32), args := #[Operand.tmp 45, Operand.const (Value.int IntKind.i64 11), Operand.const (Value.int IntKind.i64 8)], argTypes := #[22, 3, 3] }, type := 24, pos := "ref.go:44", after := #[{ on := 11, ground := Ground.data }, { on := 9, ground := Ground.chain }], guard := none }) rfl (fun K hK => ?_) (AllReadyH.nil)
      have c8 := cell_below hS b8; have c19 := cell_below hS b19
      go_simp
      refine (N3 _ (hrd.below hS)).out.mono ?_
      rintro e w112 ⟨rfl, hb⟩
      replace hS : (fun W => Below wb.heap.size wb W) w112 := below_then hS hb (Below.size hS)
      replace hhA := heap_below hb hhA
      refine hK.out _ _ hS (fun _ => ?_)
      clear hK K hb
      try simp only [Act.put, List.setIfInBounds_toArray, List.set_cons_zero, List.set_cons_succ]
      refine wpAnyH_take (i := 18) (oi := { dst := some 52, op := Op.build 91 #[(0, Operand.tmp 35), (1, Operand.tmp 37), (2, Operand.tmp 41), (3, Operand.tmp 44), (4, Operand.tmp 46), (5, Operand.tmp 50), (6, Operand.tmp 51)], type := 91, pos := "ref.go:44", after := #[{ on := 1, ground := Ground.data }, { on := 3, ground := Ground.data }, { on := 7, ground := Ground.data }, { on := 10, ground := Ground.data }, { on := 12, ground := Ground.data }, { on := 16, ground := Ground.data }, { on := 17, ground := Ground.data }], guard := none }) (v := ?_) rfl (by kernel_rfl) (by kernel_rfl) (by kernel_rfl) (fun _ _ _ h => h) (Or.inl ⟨by rfl, ?_⟩) (by assumption) ?_
      rotate_left
      · (intro wS hS; go_simp <;> with_reducible rfl)
      try simp only [Act.put, List.setIfInBounds_toArray, List.set_cons_zero, List.set_cons_succ]
      refine wpAnyH_ready (rs := [20]) (by kernel_rfl) (by simp) ?_
      refine AllReadyH.cons (o := { dst := none, op := Op.store 91 (Operand.tmp 7) (Operand.tmp 52), type := 0, pos := "ref.go:44", after := #[{ on := 19, ground := Ground.data }, { on := 18, ground := Ground.data }, { on := 12, ground := Ground.chain }, { on := 0, ground := Ground.phase }, { on := 1, ground := Ground.phase }, { on := 2, ground := Ground.phase }, { on := 3, ground := Ground.phase }, { on := 4, ground := Ground.phase }, { on := 5, ground := Ground.phase }, { on := 6, ground := Ground.phase }, { on := 7, ground := Ground.phase }, { on := 8, ground := Ground.phase }, { on := 9, ground := Ground.phase }, { on := 10, ground := Ground.phase }, { on := 11, ground := Ground.phase }, { on := 12, ground := Ground.phase }, { on := 13, ground := Ground.phase }, { on := 14, ground := Ground.phase }, { on := 15, ground := Ground.phase }, { on := 16, ground := Ground.phase }, { on := 17, ground := Ground.phase }, { on := 18, ground := Ground.phase }, { on := 19, ground := Ground.phase }], guard := none }) rfl (fun K hK => ?_) (AllReadyH.nil)
      obtain ⟨⟨z0, z1, z2, z3, z4, z5, z6, z7⟩, k0, k1, k2, k3, k4, k5, k6, k7⟩ := eight_cells hhA
      have hh9 := eight_heap hhA (.int .u64 (id : Int)) (.int .u64 (fi : Int)) (.int .i64 (pr : Int)) (.int .i64 (le : Int)) (.int .u64 (en : Int)) (.bool pl) (.int .i64 lp) (.slice none 0 0)
      have hG9 := eight_gb w112 gA (.int .u64 (id : Int)) (.int .u64 (fi : Int)) (.int .i64 (pr : Int)) (.int .i64 (le : Int)) (.int .u64 (en : Int)) (.bool pl) (.int .i64 lp) (.slice none 0 0)
      have hS9 := below_gbw hG9 hS hgB
      go_simp
      refine hK.out _ _ hS9 (fun _ => ?_)
      clear hK K
      try simp only [Act.put, List.setIfInBounds_toArray, List.set_cons_zero, List.set_cons_succ]
      refine wpAnyH_done (by kernel_rfl) ?_ _
      go_wp2_with fail
      go_meet
      exact ⟨gA, rfl, hgB, hh9, hS9⟩
  case rest =>
    obtain ⟨gA, rfl, hgB, hhA, hS⟩ := hcut
    generalize hwc : wc = w3 at *
    clear hwc N0 N1 N2 N3
    have hr3 := heap_below hS hr2
    have hB3 := below_trans hBb hS
    have hrd3 := hrd.below hS
    replace b19 := cell_below hS b19
    replace b20 := cell_below hS b20
    have hltA := heap_lt hhA
    have hsz := hS.size
    obtain ⟨base, hbase⟩ : ∃ base, base = w3.heap.size := ⟨_, rfl⟩
    have hbB : base ≤ w3.heap.size := by omega
    have hbl : w.heap.size < base ∧ gA < base ∧ w1.heap.size < base ∧ w.heap.size < gA ∧ w1.heap.size < gA := by omega
    generalize hblk2 : w1.heap.size = gb at *
    clear hblk2 hbase b8 hrd hBb hr2 hS hltA hsz
    have hpgl := pagesF_length xs n
    go_wp2_with fail
    go_loopw [8] (fun i wr => ∃ (j : Nat) (A' : Option Addr) (k' : Nat), j ≤ n ∧ i = .int .i64 j ∧ wr.heap[gA]? = some (.cells (recCs id fi pr le en pl lp A' j k') 91 (0, 0)) ∧ wr.ownsRow base 3 1 (.slice A' j k') j (is_ (ints ((pagesF xs n).take j))) ∧ RdB wr (some ⟨gb, 0, none⟩) xs.length cp xs ∧ wr.heap[w.heap.size]? = some (.cells #[.int .u64 0, .int .u64 0, .int .i64 0, .int .i64 0, .int .u64 0, .bool false, .int .i64 0, .slice none 0 0] 91 (0, 0)) ∧ base ≤ wr.heap.size ∧ Below w.heap.size w wr) (fun i _ => n - (intOf i).toNat)
    case atStart => exact ⟨0, none, 0, by omega, rfl, hhA, World.ownsRow_nil _ _ _ _, hrd3, hr3, hbB, hB3⟩
    case round =>
      obtain ⟨j, A', k', hj, rfl, hhj, hoj, hrj, hresj, hbj, hBj⟩ := hrel
      clear hhA hr3 hB3 hbB hrd3 b19 b20
      have b20 : wr.cell? ⟨gb, 20, none⟩ = some (.int .u8 ((xs.getD 20 0).toNat : Int)) := hrj.bcell 20 (by omega)
      have b19 : wr.cell? ⟨gb, 19, none⟩ = some (.int .u8 ((xs.getD 19 0).toNat : Int)) := hrj.bcell 19 (by omega)
      rw [HX19.out] at b19
      rw [HX20.out] at b20
      by_cases hlt : j < n
      · have CJ := fun W hh => NB (21 + 2 * j) 2 W hh
        rw [← pagesF_getD xs n j hlt, show ((21 + 2 * j : Nat) : Int) = 21 + 2 * (j : Int) by omega] at CJ
        have hst : Hid (is_ (ints ((pagesF xs n).take (j + 1))) = is_ (ints ((pagesF xs n).take j)) ++ [.int .i64 (((pagesF xs n).getD j 0 : Nat) : Int)]) := by
          show _ = _
          exact is_take (pagesF xs n) j (by omega)
        have hpg : (pagesF xs n).getD j 0 < 65536 := by rw [pagesF_getD xs n j hlt]; exact getN_lt2 _ _
        clear HER NB b19
        generalize (pagesF xs n).getD j 0 = pg at *
        have hwp := IntKind.wrap_i64 (pg : Int)
        rw [show ((pg : Int) + 9223372036854775808) % 18446744073709551616 - 9223372036854775808 = pg by omega] at hwp
        have hjl : (j : Int) < n := by omega
        have hwj2 : IntKind.i64.wrap (2 * (j : Int)) = 2 * (j : Int) := by rw [IntKind.wrap_i64]; omega
        have hwj3 : IntKind.i64.wrap (21 + 2 * (j : Int)) = 21 + 2 * (j : Int) := by rw [IntKind.wrap_i64]; omega
        have c7 : wr.cell? ⟨gA, 7, none⟩ = some (.slice A' j k') := cell_heap hhj
        obtain ⟨ii, hii, hi0, hi1, hi2⟩ := info_ints
        have hjn : j + 1 ≤ 255 := by omega
        have hr := hrj.below ((Below.refl wr.heap.size wr).drew)
        have ho := hoj.drew
        have hh : wr.drew.heap[gA]? = some (.cells (recCs id fi pr le en pl lp A' j k') 91 (0, 0)) := hhj
        have hxr : wr.drew.heap[w.heap.size]? = some (.cells #[.int .u64 0, .int .u64 0, .int .i64 0, .int .i64 0, .int .u64 0, .bool false, .int .i64 0, .slice none 0 0] 91 (0, 0)) := hresj
        have hbz : base ≤ wr.drew.heap.size := hbj
        have hBz := hBj.drew
        clear hrj hoj hresj hbj hBj
        have hwrd : wr.drew.heap.size = wr.heap.size := rfl
        go_upto_region 10 with fail
        clear b20
        refine wp_region_held (S := fun _ => True) (by kernel_rfl) ?_
        change wpAnyH _ _ _ _ _ _ _ _ (wr).drew
        have hS : (fun _ => True) (wr).drew := trivial
        generalize (wr).drew = wd at hr ho hh hxr hbz hBz ⊢
        refine wpAnyH_take (i := 0) (oi := { dst := some 61, op := Op.fieldAddr 91 (Operand.tmp 7) 7, type := 0, pos := "ref.go:46", after := #[], guard := none }) (v := ?_) rfl (by kernel_rfl) (by kernel_rfl) (by kernel_rfl) (fun _ _ _ h => h) (Or.inl ⟨by rfl, ?_⟩) (by assumption) ?_
        rotate_left
        · (intro wS hS; go_simp <;> with_reducible rfl)
        try simp only [Act.put, List.setIfInBounds_toArray, List.set_cons_zero, List.set_cons_succ]
        refine wpAnyH_take (i := 2) (oi := { dst := some 63, op := Op.move (Operand.tmp 6), type := 22, pos := "ref.go:46", after := #[], guard := none }) (v := ?_) rfl (by kernel_rfl) (by kernel_rfl) (by kernel_rfl) (fun _ _ _ h => h) (Or.inl ⟨by rfl, ?_⟩) (by assumption) ?_
        rotate_left
        · (intro wS hS; go_simp <;> with_reducible rfl)
        try simp only [Act.put, List.setIfInBounds_toArray, List.set_cons_zero, List.set_cons_succ]
        refine wpAnyH_take (i := 3) (oi := { dst := some 64, op := Op.move (Operand.tmp 8), type := 3, pos := "ref.go:46", after := #[], guard := none }) (v := ?_) rfl (by kernel_rfl) (by kernel_rfl) (by kernel_rfl) (fun _ _ _ h => h) (Or.inl ⟨by rfl, ?_⟩) (by assumption) ?_
        rotate_left
        · (intro wS hS; go_simp <;> with_reducible rfl)
        try simp only [Act.put, List.setIfInBounds_toArray, List.set_cons_zero, List.set_cons_succ]
        refine wpAnyH_take (i := 4) (oi := { dst := some 65, op := Op.binOp BinOp.mul 3 (Operand.const (Value.int IntKind.i64 2)) (Operand.tmp 64) 3, type := 3, pos := "ref.go:46", after := #[{ on := 3, ground := Ground.data }], guard := none }) (v := ?_) rfl (by kernel_rfl) (by kernel_rfl) (by kernel_rfl) (fun _ _ _ h => h) (Or.inl ⟨by rfl, ?_⟩) (by assumption) ?_
        rotate_left
        · (intro wS hS; go_simp <;> with_reducible rfl)
        try simp only [Act.put, List.setIfInBounds_toArray, List.set_cons_zero, List.set_cons_succ]
        refine wpAnyH_take (i := 5) (oi := { dst := some 66, op := Op.binOp BinOp.add 3 (Operand.const (Value.int IntKind.i64 21)) (Operand.tmp 65) 3, type := 3, pos := "ref.go:46", after := #[{ on := 4, ground := Ground.data }], guard := none }) (v := ?_) rfl (by kernel_rfl) (by kernel_rfl) (by kernel_rfl) (fun _ _ _ h => h) (Or.inl ⟨by rfl, ?_⟩) (by assumption) ?_
        rotate_left
        · (intro wS hS; go_simp <;> with_reducible rfl)
        try simp only [Act.put, List.setIfInBounds_toArray, List.set_cons_zero, List.set_cons_succ]
        refine wpAnyH_ready (rs := [1, 6]) (by kernel_rfl) (by simp) ?_
        refine AllReadyH.cons (o := { dst := some 62, op := Op.load 89 (Operand.tmp 61), type := 89, pos := "ref.go:46", after := #[{ on := 0, ground := Ground.data }], guard := none }) rfl (fun K hK => ?_) (AllReadyH.cons (o := { dst := some 67, op := Op.call { callee := Callee.value (Operand.func 32), args := #[Operand.tmp 63, Operand.tmp 66, Operand.const (Value.int IntKind.i64 2)], argTypes := #[22, 3, 3] }, type := 24, pos := "ref.go:46", after := #[{ on := 2, ground := Ground.data }, { on := 5, ground := Ground.data }], guard := none }) rfl (fun K hK => ?_) (AllReadyH.nil))
        · have q7 : World.cell? wd ⟨gA, 7, none⟩ = some (.slice A' j k') := cell_heap hh
          go_simp
          refine hK.out _ _ trivial (fun _ => ?_)
          clear hK K q7
          try simp only [Act.put, List.setIfInBounds_toArray, List.set_cons_zero, List.set_cons_succ]
          refine wpAnyH_ready (rs := [6]) (by kernel_rfl) (by simp) ?_
          refine AllReadyH.cons (o := { dst := some 67, op := Op.call { callee := Callee.value (Operand.func 32), args := #[Operand.tmp 63, Operand.tmp 66, Operand.const (Value.int IntKind.i64 2)], argTypes := #[22, 3, 3] }, type := 24, pos := "ref.go:46", after := #[{ on := 2, ground := Ground.data }, { on := 5, ground := Ground.data }], guard := none }) rfl (fun K hK => ?_) (AllReadyH.nil)
          go_simp
          refine (CJ _ hr).out.mono ?_
          rintro e w106 ⟨rfl, hb⟩
          replace hS : (fun _ => True) w106 := trivial
          replace hh := heap_below hb hh
          replace hr := hr.below hb
          replace hxr := heap_below hb hxr
          replace ho := own_below ho hb
          replace hbz := Nat.le_trans hbz hb.size
          replace hBz := below_trans hBz hb
          refine hK.out _ _ hS (fun _ => ?_)
          clear hK K hb
          try simp only [Act.put, List.setIfInBounds_toArray, List.set_cons_zero, List.set_cons_succ]
          refine wpAnyH_take (i := 7) (oi := { dst := some 68, op := Op.convert 24 3 (Operand.tmp 67), type := 3, pos := "ref.go:46", after := #[{ on := 6, ground := Ground.data }], guard := none }) (v := ?_) rfl (by kernel_rfl) (by kernel_rfl) (by kernel_rfl) (fun _ _ _ h => h) (Or.inl ⟨by rfl, ?_⟩) (by assumption) ?_
          rotate_left
          · (intro wS hS; go_simp <;> with_reducible rfl)
          try simp only [Act.put, List.setIfInBounds_toArray, List.set_cons_zero, List.set_cons_succ]
          refine wpAnyH_ready (rs := [8]) (by kernel_rfl) (by simp) ?_
          refine AllReadyH.cons (o := { dst := some 69, op := Op.buildSlice 89 1 #[(0, Operand.tmp 68)], type := 89, pos := "ref.go:46", after := #[{ on := 7, ground := Ground.data }], guard := none }) rfl (fun K hK => ?_) (AllReadyH.nil)
          go_simp
          have hbA := (one_cells w106 #[.int .i64 (pg : Int)] 3).1
          have hv := (one_cells w106 #[.int .i64 (pg : Int)] 3).2 0 (.int .i64 (pg : Int)) rfl
          replace hr := hr.below hbA
          replace hh := heap_below hbA hh
          replace hxr := heap_below hbA hxr
          replace ho := own_below ho hbA
          replace hbz := Nat.le_trans hbz hbA.size
          replace hBz := below_trans hBz hbA
          refine hK.out _ _ trivial (fun _ => ?_)
          clear hK K hbA
          try simp only [Act.put, List.setIfInBounds_toArray, List.set_cons_zero, List.set_cons_succ]
          generalize hgB2 : World.heap w106 = hpB at *
          generalize World.alloc w106 (.cells #[.int .i64 (pg : Int)] 3) = wA at *
          clear hgB2
          refine wpAnyH_ready (rs := [9]) (by kernel_rfl) (by simp) ?_
          refine AllReadyH.cons (o := { dst := some 70, op := Op.call { callee := Callee.builtin Builtin.append, args := #[Operand.tmp 62, Operand.tmp 69], argTypes := #[89, 89] }, type := 89, pos := "ref.go:46", after := #[{ on := 1, ground := Ground.data }, { on := 8, ground := Ground.data }, { on := 6, ground := Ground.chain }], guard := none }) rfl (fun K hK => ?_) (AllReadyH.nil)
          refine step_append_lies _ rfl (.tmp 62) (.tmp 69) 89 rfl base 3 ii (.int .i64 0) 1 8 Try.underlying89 hii hi0 hi1 hi2 rfl (by decide) _ j _ rfl ho ⟨hpB.size, 0, none⟩ 1 1 [.int .i64 (pg : Int)] rfl rfl (fun jj u hu => by cases jj with | zero => (cases hu; exact hv) | succ q => (simp at hu)) (by simp [Value.oneCell']) (by decide) (by unfold maxLen; omega) (by omega) hbz _ rfl ?_
          intro gX capX wR9 ho' hg' hor hltX
          have hh5 := gb_heap hg' hh (fun e => by have := (ho.lt gA e.symm).1; omega)
          have hxr5 := gb_heap hg' hxr (fun e => by have := (ho.lt _ e.symm).1; omega)
          have hr5 := hr.kept hg' (fun ad e => by cases e; exact fun e => by have := (ho.lt gb e.symm).1; omega)
          have hbz5 := Nat.le_trans hbz (World.grownBy.size hg')
          have hBz5 : Below w.heap.size w wR9 := hBz.grown hg' hBz.size (fun k hk => by have := (ho.lt k hk).1; omega)
          have hgX := (ho'.lt gX rfl).1
          refine hK.out _ _ trivial (fun _ => ?_)
          clear hK K hh hxr hr hbz hBz hg' hor ho hv
          try simp only [Act.put, List.setIfInBounds_toArray, List.set_cons_zero, List.set_cons_succ]
          refine wpAnyH_take (i := 10) (oi := { dst := some 71, op := Op.fieldAddr 91 (Operand.tmp 7) 7, type := 0, pos := "ref.go:46", after := #[{ on := 0, ground := Ground.phase }, { on := 1, ground := Ground.phase }, { on := 2, ground := Ground.phase }, { on := 3, ground := Ground.phase }, { on := 4, ground := Ground.phase }, { on := 5, ground := Ground.phase }, { on := 6, ground := Ground.phase }, { on := 7, ground := Ground.phase }, { on := 8, ground := Ground.phase }, { on := 9, ground := Ground.phase }], guard := none }) (v := ?_) rfl (by kernel_rfl) (by kernel_rfl) (by kernel_rfl) (fun _ _ _ h => h) (Or.inl ⟨by rfl, ?_⟩) (by assumption) ?_
          rotate_left
          · (intro wS hS; go_simp <;> with_reducible rfl)
          try simp only [Act.put, List.setIfInBounds_toArray, List.set_cons_zero, List.set_cons_succ]
          refine wpAnyH_ready (rs := [11]) (by kernel_rfl) (by simp) ?_
          refine AllReadyH.cons (o := { dst := none, op := Op.store 89 (Operand.tmp 71) (Operand.tmp 70), type := 0, pos := "ref.go:46", after := #[{ on := 10, ground := Ground.data }, { on := 9, ground := Ground.data }, { on := 9, ground := Ground.chain }, { on := 0, ground := Ground.phase }, { on := 1, ground := Ground.phase }, { on := 2, ground := Ground.phase }, { on := 3, ground := Ground.phase }, { on := 4, ground := Ground.phase }, { on := 5, ground := Ground.phase }, { on := 6, ground := Ground.phase }, { on := 7, ground := Ground.phase }, { on := 8, ground := Ground.phase }, { on := 9, ground := Ground.phase }], guard := none }) rfl (fun K hK => ?_) (AllReadyH.nil)
          have q7 : World.cell? wR9 ⟨gA, 7, none⟩ = some (.slice A' j k') := cell_heap hh5
          have f7 := frozen_heap (o := 7) hh5
          have hG7 := gb_set wR9 gA 7 (.slice (some ⟨gX, 0, none⟩) (j + 1) capX)
          have hh6 := set_heap (o := 7) hh5 (.slice (some ⟨gX, 0, none⟩) (j + 1) capX)
          have hxr6 := gb_heap hG7 hxr5 (by simp; omega)
          have hr6 := hr5.kept hG7 (fun ad e => by cases e; simp; omega)
          have ho6 := ho'.kept hG7 (.inr (fun e => by simp [Value.ownBlock] at e; omega))
          have hB6 := below_gbw hG7 hBz5 (by omega)
          have hbz6 := Nat.le_trans hbz5 (World.grownBy.size hG7)
          go_simp
          refine hK.out _ _ trivial (fun _ => ?_)
          clear hK K
          try simp only [Act.put, List.setIfInBounds_toArray, List.set_cons_zero, List.set_cons_succ]
          refine wpAnyH_done (by kernel_rfl) ?_ _
          go_wp2_with fail
          go_roundw
          case rel => exact ⟨j + 1, some ⟨gX, 0, none⟩, capX, by omega, by go_num, hh6, by rw [hst.out]; exact ho6, hr6, hxr6, hbz6, hB6⟩
          case measure => simp [intOf]; omega
        · go_simp
          refine (CJ _ hr).out.mono ?_
          rintro e w106 ⟨rfl, hb⟩
          replace hS : (fun _ => True) w106 := trivial
          replace hh := heap_below hb hh
          replace hr := hr.below hb
          replace hxr := heap_below hb hxr
          replace ho := own_below ho hb
          replace hbz := Nat.le_trans hbz hb.size
          replace hBz := below_trans hBz hb
          refine hK.out _ _ hS (fun _ => ?_)
          clear hK K hb
          try simp only [Act.put, List.setIfInBounds_toArray, List.set_cons_zero, List.set_cons_succ]
          refine wpAnyH_take (i := 7) (oi := { dst := some 68, op := Op.convert 24 3 (Operand.tmp 67), type := 3, pos := "ref.go:46", after := #[{ on := 6, ground := Ground.data }], guard := none }) (v := ?_) rfl (by kernel_rfl) (by kernel_rfl) (by kernel_rfl) (fun _ _ _ h => h) (Or.inl ⟨by rfl, ?_⟩) (by assumption) ?_
          rotate_left
          · (intro wS hS; go_simp <;> with_reducible rfl)
          try simp only [Act.put, List.setIfInBounds_toArray, List.set_cons_zero, List.set_cons_succ]
          refine wpAnyH_ready (rs := [1, 8]) (by kernel_rfl) (by simp) ?_
          refine AllReadyH.cons (o := { dst := some 62, op := Op.load 89 (Operand.tmp 61), type := 89, pos := "ref.go:46", after := #[{ on := 0, ground := Ground.data }], guard := none }) rfl (fun K hK => ?_) (AllReadyH.cons (o := { dst := some 69, op := Op.buildSlice 89 1 #[(0, Operand.tmp 68)], type := 89, pos := "ref.go:46", after := #[{ on := 7, ground := Ground.data }], guard := none }) rfl (fun K hK => ?_) (AllReadyH.nil))
          · have q7 : World.cell? w106 ⟨gA, 7, none⟩ = some (.slice A' j k') := cell_heap hh
            go_simp
            refine hK.out _ _ trivial (fun _ => ?_)
            clear hK K q7
            try simp only [Act.put, List.setIfInBounds_toArray, List.set_cons_zero, List.set_cons_succ]
            refine wpAnyH_ready (rs := [8]) (by kernel_rfl) (by simp) ?_
            refine AllReadyH.cons (o := { dst := some 69, op := Op.buildSlice 89 1 #[(0, Operand.tmp 68)], type := 89, pos := "ref.go:46", after := #[{ on := 7, ground := Ground.data }], guard := none }) rfl (fun K hK => ?_) (AllReadyH.nil)
            go_simp
            have hbA := (one_cells w106 #[.int .i64 (pg : Int)] 3).1
            have hv := (one_cells w106 #[.int .i64 (pg : Int)] 3).2 0 (.int .i64 (pg : Int)) rfl
            replace hr := hr.below hbA
            replace hh := heap_below hbA hh
            replace hxr := heap_below hbA hxr
            replace ho := own_below ho hbA
            replace hbz := Nat.le_trans hbz hbA.size
            replace hBz := below_trans hBz hbA
            refine hK.out _ _ trivial (fun _ => ?_)
            clear hK K hbA
            try simp only [Act.put, List.setIfInBounds_toArray, List.set_cons_zero, List.set_cons_succ]
            generalize hgB2 : World.heap w106 = hpB at *
            generalize World.alloc w106 (.cells #[.int .i64 (pg : Int)] 3) = wA at *
            clear hgB2
            refine wpAnyH_ready (rs := [9]) (by kernel_rfl) (by simp) ?_
            refine AllReadyH.cons (o := { dst := some 70, op := Op.call { callee := Callee.builtin Builtin.append, args := #[Operand.tmp 62, Operand.tmp 69], argTypes := #[89, 89] }, type := 89, pos := "ref.go:46", after := #[{ on := 1, ground := Ground.data }, { on := 8, ground := Ground.data }, { on := 6, ground := Ground.chain }], guard := none }) rfl (fun K hK => ?_) (AllReadyH.nil)
            refine step_append_lies _ rfl (.tmp 62) (.tmp 69) 89 rfl base 3 ii (.int .i64 0) 1 8 Try.underlying89 hii hi0 hi1 hi2 rfl (by decide) _ j _ rfl ho ⟨hpB.size, 0, none⟩ 1 1 [.int .i64 (pg : Int)] rfl rfl (fun jj u hu => by cases jj with | zero => (cases hu; exact hv) | succ q => (simp at hu)) (by simp [Value.oneCell']) (by decide) (by unfold maxLen; omega) (by omega) hbz _ rfl ?_
            intro gX capX wR9 ho' hg' hor hltX
            have hh5 := gb_heap hg' hh (fun e => by have := (ho.lt gA e.symm).1; omega)
            have hxr5 := gb_heap hg' hxr (fun e => by have := (ho.lt _ e.symm).1; omega)
            have hr5 := hr.kept hg' (fun ad e => by cases e; exact fun e => by have := (ho.lt gb e.symm).1; omega)
            have hbz5 := Nat.le_trans hbz (World.grownBy.size hg')
            have hBz5 : Below w.heap.size w wR9 := hBz.grown hg' hBz.size (fun k hk => by have := (ho.lt k hk).1; omega)
            have hgX := (ho'.lt gX rfl).1
            refine hK.out _ _ trivial (fun _ => ?_)
            clear hK K hh hxr hr hbz hBz hg' hor ho hv
            try simp only [Act.put, List.setIfInBounds_toArray, List.set_cons_zero, List.set_cons_succ]
            refine wpAnyH_take (i := 10) (oi := { dst := some 71, op := Op.fieldAddr 91 (Operand.tmp 7) 7, type := 0, pos := "ref.go:46", after := #[{ on := 0, ground := Ground.phase }, { on := 1, ground := Ground.phase }, { on := 2, ground := Ground.phase }, { on := 3, ground := Ground.phase }, { on := 4, ground := Ground.phase }, { on := 5, ground := Ground.phase }, { on := 6, ground := Ground.phase }, { on := 7, ground := Ground.phase }, { on := 8, ground := Ground.phase }, { on := 9, ground := Ground.phase }], guard := none }) (v := ?_) rfl (by kernel_rfl) (by kernel_rfl) (by kernel_rfl) (fun _ _ _ h => h) (Or.inl ⟨by rfl, ?_⟩) (by assumption) ?_
            rotate_left
            · (intro wS hS; go_simp <;> with_reducible rfl)
            try simp only [Act.put, List.setIfInBounds_toArray, List.set_cons_zero, List.set_cons_succ]
            refine wpAnyH_ready (rs := [11]) (by kernel_rfl) (by simp) ?_
            refine AllReadyH.cons (o := { dst := none, op := Op.store 89 (Operand.tmp 71) (Operand.tmp 70), type := 0, pos := "ref.go:46", after := #[{ on := 10, ground := Ground.data }, { on := 9, ground := Ground.data }, { on := 9, ground := Ground.chain }, { on := 0, ground := Ground.phase }, { on := 1, ground := Ground.phase }, { on := 2, ground := Ground.phase }, { on := 3, ground := Ground.phase }, { on := 4, ground := Ground.phase }, { on := 5, ground := Ground.phase }, { on := 6, ground := Ground.phase }, { on := 7, ground := Ground.phase }, { on := 8, ground := Ground.phase }, { on := 9, ground := Ground.phase }], guard := none }) rfl (fun K hK => ?_) (AllReadyH.nil)
            have q7 : World.cell? wR9 ⟨gA, 7, none⟩ = some (.slice A' j k') := cell_heap hh5
            have f7 := frozen_heap (o := 7) hh5
            have hG7 := gb_set wR9 gA 7 (.slice (some ⟨gX, 0, none⟩) (j + 1) capX)
            have hh6 := set_heap (o := 7) hh5 (.slice (some ⟨gX, 0, none⟩) (j + 1) capX)
            have hxr6 := gb_heap hG7 hxr5 (by simp; omega)
            have hr6 := hr5.kept hG7 (fun ad e => by cases e; simp; omega)
            have ho6 := ho'.kept hG7 (.inr (fun e => by simp [Value.ownBlock] at e; omega))
            have hB6 := below_gbw hG7 hBz5 (by omega)
            have hbz6 := Nat.le_trans hbz5 (World.grownBy.size hG7)
            go_simp
            refine hK.out _ _ trivial (fun _ => ?_)
            clear hK K
            try simp only [Act.put, List.setIfInBounds_toArray, List.set_cons_zero, List.set_cons_succ]
            refine wpAnyH_done (by kernel_rfl) ?_ _
            go_wp2_with fail
            go_roundw
            case rel => exact ⟨j + 1, some ⟨gX, 0, none⟩, capX, by omega, by go_num, hh6, by rw [hst.out]; exact ho6, hr6, hxr6, hbz6, hB6⟩
            case measure => simp [intOf]; omega
          · go_simp
            have hbA := (one_cells w106 #[.int .i64 (pg : Int)] 3).1
            have hv := (one_cells w106 #[.int .i64 (pg : Int)] 3).2 0 (.int .i64 (pg : Int)) rfl
            replace hr := hr.below hbA
            replace hh := heap_below hbA hh
            replace hxr := heap_below hbA hxr
            replace ho := own_below ho hbA
            replace hbz := Nat.le_trans hbz hbA.size
            replace hBz := below_trans hBz hbA
            refine hK.out _ _ trivial (fun _ => ?_)
            clear hK K hbA
            try simp only [Act.put, List.setIfInBounds_toArray, List.set_cons_zero, List.set_cons_succ]
            generalize hgB2 : World.heap w106 = hpB at *
            generalize World.alloc w106 (.cells #[.int .i64 (pg : Int)] 3) = wA at *
            clear hgB2
            refine wpAnyH_ready (rs := [1]) (by kernel_rfl) (by simp) ?_
            refine AllReadyH.cons (o := { dst := some 62, op := Op.load 89 (Operand.tmp 61), type := 89, pos := "ref.go:46", after := #[{ on := 0, ground := Ground.data }], guard := none }) rfl (fun K hK => ?_) (AllReadyH.nil)
            have q7 : World.cell? wA ⟨gA, 7, none⟩ = some (.slice A' j k') := cell_heap hh
            go_simp
            refine hK.out _ _ trivial (fun _ => ?_)
            clear hK K q7
            try simp only [Act.put, List.setIfInBounds_toArray, List.set_cons_zero, List.set_cons_succ]
            refine wpAnyH_ready (rs := [9]) (by kernel_rfl) (by simp) ?_
            refine AllReadyH.cons (o := { dst := some 70, op := Op.call { callee := Callee.builtin Builtin.append, args := #[Operand.tmp 62, Operand.tmp 69], argTypes := #[89, 89] }, type := 89, pos := "ref.go:46", after := #[{ on := 1, ground := Ground.data }, { on := 8, ground := Ground.data }, { on := 6, ground := Ground.chain }], guard := none }) rfl (fun K hK => ?_) (AllReadyH.nil)
            refine step_append_lies _ rfl (.tmp 62) (.tmp 69) 89 rfl base 3 ii (.int .i64 0) 1 8 Try.underlying89 hii hi0 hi1 hi2 rfl (by decide) _ j _ rfl ho ⟨hpB.size, 0, none⟩ 1 1 [.int .i64 (pg : Int)] rfl rfl (fun jj u hu => by cases jj with | zero => (cases hu; exact hv) | succ q => (simp at hu)) (by simp [Value.oneCell']) (by decide) (by unfold maxLen; omega) (by omega) hbz _ rfl ?_
            intro gX capX wR9 ho' hg' hor hltX
            have hh5 := gb_heap hg' hh (fun e => by have := (ho.lt gA e.symm).1; omega)
            have hxr5 := gb_heap hg' hxr (fun e => by have := (ho.lt _ e.symm).1; omega)
            have hr5 := hr.kept hg' (fun ad e => by cases e; exact fun e => by have := (ho.lt gb e.symm).1; omega)
            have hbz5 := Nat.le_trans hbz (World.grownBy.size hg')
            have hBz5 : Below w.heap.size w wR9 := hBz.grown hg' hBz.size (fun k hk => by have := (ho.lt k hk).1; omega)
            have hgX := (ho'.lt gX rfl).1
            refine hK.out _ _ trivial (fun _ => ?_)
            clear hK K hh hxr hr hbz hBz hg' hor ho hv
            try simp only [Act.put, List.setIfInBounds_toArray, List.set_cons_zero, List.set_cons_succ]
            refine wpAnyH_take (i := 10) (oi := { dst := some 71, op := Op.fieldAddr 91 (Operand.tmp 7) 7, type := 0, pos := "ref.go:46", after := #[{ on := 0, ground := Ground.phase }, { on := 1, ground := Ground.phase }, { on := 2, ground := Ground.phase }, { on := 3, ground := Ground.phase }, { on := 4, ground := Ground.phase }, { on := 5, ground := Ground.phase }, { on := 6, ground := Ground.phase }, { on := 7, ground := Ground.phase }, { on := 8, ground := Ground.phase }, { on := 9, ground := Ground.phase }], guard := none }) (v := ?_) rfl (by kernel_rfl) (by kernel_rfl) (by kernel_rfl) (fun _ _ _ h => h) (Or.inl ⟨by rfl, ?_⟩) (by assumption) ?_
            rotate_left
            · (intro wS hS; go_simp <;> with_reducible rfl)
            try simp only [Act.put, List.setIfInBounds_toArray, List.set_cons_zero, List.set_cons_succ]
            refine wpAnyH_ready (rs := [11]) (by kernel_rfl) (by simp) ?_
            refine AllReadyH.cons (o := { dst := none, op := Op.store 89 (Operand.tmp 71) (Operand.tmp 70), type := 0, pos := "ref.go:46", after := #[{ on := 10, ground := Ground.data }, { on := 9, ground := Ground.data }, { on := 9, ground := Ground.chain }, { on := 0, ground := Ground.phase }, { on := 1, ground := Ground.phase }, { on := 2, ground := Ground.phase }, { on := 3, ground := Ground.phase }, { on := 4, ground := Ground.phase }, { on := 5, ground := Ground.phase }, { on := 6, ground := Ground.phase }, { on := 7, ground := Ground.phase }, { on := 8, ground := Ground.phase }, { on := 9, ground := Ground.phase }], guard := none }) rfl (fun K hK => ?_) (AllReadyH.nil)
            have q7 : World.cell? wR9 ⟨gA, 7, none⟩ = some (.slice A' j k') := cell_heap hh5
            have f7 := frozen_heap (o := 7) hh5
            have hG7 := gb_set wR9 gA 7 (.slice (some ⟨gX, 0, none⟩) (j + 1) capX)
            have hh6 := set_heap (o := 7) hh5 (.slice (some ⟨gX, 0, none⟩) (j + 1) capX)
            have hxr6 := gb_heap hG7 hxr5 (by simp; omega)
            have hr6 := hr5.kept hG7 (fun ad e => by cases e; simp; omega)
            have ho6 := ho'.kept hG7 (.inr (fun e => by simp [Value.ownBlock] at e; omega))
            have hB6 := below_gbw hG7 hBz5 (by omega)
            have hbz6 := Nat.le_trans hbz5 (World.grownBy.size hG7)
            go_simp
            refine hK.out _ _ trivial (fun _ => ?_)
            clear hK K
            try simp only [Act.put, List.setIfInBounds_toArray, List.set_cons_zero, List.set_cons_succ]
            refine wpAnyH_done (by kernel_rfl) ?_ _
            go_wp2_with fail
            go_roundw
            case rel => exact ⟨j + 1, some ⟨gX, 0, none⟩, capX, by omega, by go_num, hh6, by rw [hst.out]; exact ho6, hr6, hxr6, hbz6, hB6⟩
            case measure => simp [intOf]; omega
      · obtain rfl : j = n := by omega
        rw [List.take_of_length_le (by omega)] at hoj
        obtain ⟨A9, c9, e9, hrow, hbl9⟩ := Rd.of_own hoj
        cases e9
        obtain ⟨⟨z0, z1, z2, z3, z4, z5, z6, z7⟩, -⟩ := eight_cells hhj
        have KM := Lib.hid (refmay26_any id fi pr le en pl lp (ints (pagesF xs j)) A' j k' wr hrow (by omega))
        clear NB
        go_wp2_with fail
        refine KM.out.mono ?_
        rintro e w9 ⟨rfl, hb⟩
        have her := HER.out
        clear KM HER
        generalize mayM id fi pr le lp (ints (pagesF xs j)) = my at *
        have hh9 := heap_below hb hhj
        have hres9 := heap_below hb hresj
        have hrow9 := hrow.below hb
        have hB9 := below_trans hBj hb
        replace b19 := cell_below hb b19
        clear hb hhj hresj hrow hBj z0 z1 z2 z3 z4 z5 z6 z7 b20 hrj
        obtain ⟨⟨z0, z1, z2, z3, z4, z5, z6, z7⟩, -⟩ := eight_cells hh9
        obtain ⟨⟨y0, y1, y2, y3, y4, y5, y6, y7⟩, k0, k1, k2, k3, k4, k5, k6, k7⟩ := eight_cells hres9
        cases my with
        | false =>
          rw [if_neg (by decide)] at her
          subst her
          go_wp2_with fail
          have hh10 := eight_heap hres9 (.int .u64 0) (.int .u64 0) (.int .i64 0) (.int .i64 0) (.int .u64 0) (.bool false) (.int .i64 0) (.slice none 0 0)
          have hB10 := below_gbw (eight_gb w9 w.heap.size (.int .u64 0) (.int .u64 0) (.int .i64 0) (.int .i64 0) (.int .u64 0) (.bool false) (.int .i64 0) (.slice none 0 0)) hB9 (Nat.le_refl _)
          obtain ⟨⟨r0, r1, r2, r3, r4, r5, r6, r7⟩, -⟩ := eight_cells hh10
          refine bodyPost_ret (v := .tuple #[.agg #[.int .u64 0, .int .u64 0, .int .i64 0, .int .i64 0, .int .u64 0, .bool false, .int .i64 0, .slice none 0 0], .int .i64 6]) ?_ rfl ⟨.inl ⟨by decide, rfl⟩, hB10⟩
          simp only [eight] at r0 r1 r2 r3 r4 r5 r6 r7
          simp [results, Try.results69, go_sem, r0, r1, r2, r3, r4, r5, r6, r7]
        | true =>
          rw [if_pos rfl] at her
          by_cases h1p : 1 < pn
          · rw [if_pos h1p] at her
            have h1p' : (1 : Int) < (pn : Int) := by omega
            subst her
            clear h1p
            go_wp2_with fail
            have hh10 := eight_heap hres9 (.int .u64 0) (.int .u64 0) (.int .i64 0) (.int .i64 0) (.int .u64 0) (.bool false) (.int .i64 0) (.slice none 0 0)
            have hB10 := below_gbw (eight_gb w9 w.heap.size (.int .u64 0) (.int .u64 0) (.int .i64 0) (.int .i64 0) (.int .u64 0) (.bool false) (.int .i64 0) (.slice none 0 0)) hB9 (Nat.le_refl _)
            obtain ⟨⟨r0, r1, r2, r3, r4, r5, r6, r7⟩, -⟩ := eight_cells hh10
            refine bodyPost_ret (v := .tuple #[.agg #[.int .u64 0, .int .u64 0, .int .i64 0, .int .i64 0, .int .u64 0, .bool false, .int .i64 0, .slice none 0 0], .int .i64 6]) ?_ rfl ⟨.inl ⟨by decide, rfl⟩, hB10⟩
            simp only [eight] at r0 r1 r2 r3 r4 r5 r6 r7
            simp [results, Try.results69, go_sem, r0, r1, r2, r3, r4, r5, r6, r7]
          · rw [if_neg h1p] at her
            have h1p' : ¬ (1 : Int) < (pn : Int) := by omega
            subst her
            clear h1p
            go_wp2_with fail
            have hh10 := eight_heap hres9 (.int .u64 (id : Int)) (.int .u64 (fi : Int)) (.int .i64 (pr : Int)) (.int .i64 (le : Int)) (.int .u64 (en : Int)) (.bool pl) (.int .i64 lp) (.slice A' j k')
            have hG10 := eight_gb w9 w.heap.size (.int .u64 (id : Int)) (.int .u64 (fi : Int)) (.int .i64 (pr : Int)) (.int .i64 (le : Int)) (.int .u64 (en : Int)) (.bool pl) (.int .i64 lp) (.slice A' j k')
            have hB10 := below_gbw hG10 hB9 (Nat.le_refl _)
            have hrow10 := hrow9.kept hG10 (fun ad e => by have := hbl9 ad e; simp; omega)
            obtain ⟨⟨r0, r1, r2, r3, r4, r5, r6, r7⟩, -⟩ := eight_cells hh10
            refine bodyPost_ret (v := .tuple #[recV id fi pr le en pl lp A' j k', .int .i64 0]) ?_ rfl ⟨.inr ⟨rfl, A', j, k', rfl, hrow10⟩, hB10⟩
            simp only [eight] at r0 r1 r2 r3 r4 r5 r6 r7
            simp [results, Try.results69, go_sem, r0, r1, r2, r3, r4, r5, r6, r7]
end Go.Proofs.Ythkabhejfkekjaa
