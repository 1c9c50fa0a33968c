/- Contract of the reference's Get of a frame. No condition but the length's bound. -/
import Derived.Test.YthkabhejfkekjaaFrame2
import Derived.Test.YthkabhejfkekjaaFrame3
import Derived.Test.YthkabhejfkekjaaHeld
import Derived.Test.YthkabhejfkekjaaCrcRef
import Derived.Deep.DeepCutAuto
namespace Go.Proofs.Ythkabhejfkekjaa
open Go.RowKit

theorem wrap_i64_small' (x : Nat) (h : x < 65536) : IntKind.i64.wrap ((x : Nat) : Int) = x := by rw [IntKind.wrap_i64]; omega

theorem crcOf_one' (xs : List UInt8) : crcOf 1 xs = crcS xs := by unfold crcOf; rw [if_pos rfl]

set_option maxRecDepth 100000 in
set_option maxHeartbeats 4000000 in
theorem refget32_any (nu id o t : Nat) (d : List UInt8) (er : Nat) (xs : List UInt8) (w : World) (hN : xs.length ≤ 1000000) (hg : fgetF xs = (nu, id, o, t, d, er)) :
    Calls Try.prog 57 #[.string ⟨xs.toArray⟩] w fun e w' => e = .returned (.tuple #[frm nu id o t d, .int .i64 er]) ∧ Below w.heap.size w w' := by
  unfold fgetF at hg
  have hB := (one_cells w #[.int .u64 0, .int .u64 0, .int .i64 0, .int .i64 0, .string ⟨([] : List UInt8).toArray⟩] 66).1
  have hr := alloc_new w (.cells #[.int .u64 0, .int .u64 0, .int .i64 0, .int .i64 0, .string ⟨([] : List UInt8).toArray⟩] 66 (0, 0))
  obtain ⟨⟨z0, z1, z2, z3, z4⟩, f0, f1, f2, f3, f4⟩ := five_cells hr
  have hlt := heap_lt hr
  have HEND : ∀ (W : World), W.heap[w.heap.size]? = some (.cells #[.int .u64 0, .int .u64 0, .int .i64 0, .int .i64 0, .string ⟨([] : List UInt8).toArray⟩] 66 (0, 0)) → Below w.heap.size w W →
      Below w.heap.size w (five W w.heap.size (.int .u64 0) (.int .u64 0) (.int .i64 0) (.int .i64 0) (.string ⟨([] : List UInt8).toArray⟩)) := fun W _ hb => below_gbw (five_gb W _ _ _ _ _ _) hb (by omega)
  generalize hW1 : w.alloc (.cells #[.int .u64 0, .int .u64 0, .int .i64 0, .int .i64 0, .string ⟨([] : List UInt8).toArray⟩] 66) = w1 at *
  split at hg
  · rename_i h0
    simp only [Prod.mk.injEq] at hg
    obtain ⟨rfl, rfl, rfl, rfl, rfl, rfl⟩ := hg
    obtain rfl : xs = [] := List.eq_nil_of_length_eq_zero h0
    go_enter Try.func57, Try.ntmps57
    go_wp2_with fail
    have hh5 := five_heap hr (.int .u64 0) (.int .u64 0) (.int .i64 0) (.int .i64 0) (.string ⟨([] : List UInt8).toArray⟩)
    obtain ⟨⟨r0, r1, r2, r3, r4⟩, -⟩ := five_cells hh5
    refine bodyPost_ret (v := .tuple #[zfrm, .int .i64 5]) ?_ rfl ⟨rfl, HEND _ hr hB⟩
    simp only [five] at r0 r1 r2 r3 r4
    simp [results, Try.results57, go_sem, r0, r1, r2, r3, r4]
  rename_i h0
  have hne : xs.isEmpty = false := by cases xs with | nil => exact absurd rfl h0 | cons _ _ => rfl
  have hpos : 0 < xs.length := by omega
  have hidx : ∀ h : 0 < (⟨xs.toArray⟩ : ByteArray).size, ((⟨xs.toArray⟩ : ByteArray)[0]'h) = xs.getD 0 0 := by
    intro h
    rw [List.getD_eq_getElem?_getD, List.getElem?_eq_getElem hpos]; rfl
  clear h0
  split at hg
  · rename_i h1
    simp only [Prod.mk.injEq] at hg
    obtain ⟨rfl, rfl, rfl, rfl, rfl, rfl⟩ := hg
    generalize (xs.getD 0 0) = b at *
    have h1' : ((b.toNat : Int) != 26) = true := by rw [bne_iff_ne]; omega
    clear h1
    go_enter Try.func57, Try.ntmps57
    go_wp2_with fail
    have hh5 := five_heap hr (.int .u64 0) (.int .u64 0) (.int .i64 0) (.int .i64 0) (.string ⟨([] : List UInt8).toArray⟩)
    obtain ⟨⟨r0, r1, r2, r3, r4⟩, -⟩ := five_cells hh5
    refine bodyPost_ret (v := .tuple #[zfrm, .int .i64 6]) ?_ rfl ⟨rfl, HEND _ hr hB⟩
    simp only [five] at r0 r1 r2 r3 r4
    simp [results, Try.results57, go_sem, r0, r1, r2, r3, r4]
  rename_i h1
  have h1' : (((xs.getD 0 0).toNat : Int) != 26) = false := by rw [bne_eq_false_iff_eq]; omega
  clear h1
  generalize (xs.getD 0 0) = b at *
  split at hg
  · rename_i h2
    simp only [Prod.mk.injEq] at hg
    obtain ⟨rfl, rfl, rfl, rfl, rfl, rfl⟩ := hg
    go_enter Try.func57, Try.ntmps57
    go_wp2_with fail
    have hh5 := five_heap hr (.int .u64 0) (.int .u64 0) (.int .i64 0) (.int .i64 0) (.string ⟨([] : List UInt8).toArray⟩)
    obtain ⟨⟨r0, r1, r2, r3, r4⟩, -⟩ := five_cells hh5
    refine bodyPost_ret (v := .tuple #[zfrm, .int .i64 5]) ?_ rfl ⟨rfl, HEND _ hr hB⟩
    simp only [five] at r0 r1 r2 r3 r4
    simp [results, Try.results57, go_sem, r0, r1, r2, r3, r4]
  rename_i h2
  have h2' : ¬ ((xs.length : Int) < 13) := by omega
  clear h2
  have hcv := run_bytes_of xs w1
  have hrd := rd_bytesOf w1 xs (by unfold maxLen; omega)
  have hbb := bytesWorld_below w1 5 ⟨xs.toArray⟩
  go_enter Try.func57, Try.ntmps57
  go_upto_region 8 with fail
  have hr2 := heap_below hbb hr
  have hBb := below_trans hB hbb
  have hltb := heap_lt hr2
  generalize hWB : Lib.bytesWorld w1 5 ⟨xs.toArray⟩ = wb at *
  generalize grownCap w1 xs.length 0 5 = cp at *
  clear hcv hWB hW1 hbb hr hB z0 z1 z2 z3 z4 f0 f1 f2 f3 f4 hidx hne
  have N1 := Lib.hid (refnumber_any 1 4 xs _ _ _ _ hrd (by omega))
  have N2 := Lib.hid (refnumber_any 5 4 xs _ _ _ _ hrd (by omega))
  have N3 := Lib.hid (refnumber_any 9 2 xs _ _ _ _ hrd (by omega))
  have N4 := Lib.hid (refnumber_any 11 2 xs _ _ _ _ hrd (by omega))
  have ho2 := getN_lt2 xs 9
  have ht2 := getN_lt2 xs 11
  have hw3 := wrap_i64_small' (getN xs 9 2) ho2
  have hw4 := wrap_i64_small' (getN xs 11 2) ht2
  have N5 := fun (z : Nat) W hh => Lib.hid (refnumber_any z 2 xs (some ⟨w1.heap.size, 0, none⟩) xs.length cp W hh (by omega))
  simp only [show ((9 : Nat) : Int) = 9 from rfl, show ((11 : Nat) : Int) = 11 from rfl, show ((1 : Nat) : Int) = 1 from rfl, show ((5 : Nat) : Int) = 5 from rfl] at N1 N2 N3 N4
  generalize getN xs 1 4 = gnu at *
  generalize getN xs 5 4 = gid at *
  generalize getN xs 9 2 = go at *
  generalize getN xs 11 2 = gt at *
  go_cut [5] (fun s5 wx => s5 = .pointer (some ⟨wb.heap.size, 0, none⟩) ∧ wx = wb.alloc (.cells (frmCs gnu gid go gt []) 66))
  case first =>
    clear hg N5 HEND
    go_wp2_with fail
    refine N1.out.mono ?_
    rintro e w' ⟨rfl, rfl⟩
    go_wp2_with fail
    refine N2.out.mono ?_
    rintro e w' ⟨rfl, rfl⟩
    go_wp2_with fail
    refine N3.out.mono ?_
    rintro e w' ⟨rfl, rfl⟩
    go_wp2_with fail
    refine N4.out.mono ?_
    rintro e w' ⟨rfl, rfl⟩
    go_wp2_with fail
    go_meet
    exact ⟨rfl, rfl⟩
  obtain ⟨rfl, hwc⟩ := hcut
  have hb1 := (one_cells wb (frmCs gnu gid go gt []) 66).1
  have hh := alloc_new wb (.cells (frmCs gnu gid go gt []) 66 (0, 0))
  rw [← hwc] at hb1 hh
  generalize wc = w3 at *
  have hr3 := heap_below hb1 hr2
  have hB3 := below_trans hBb hb1
  have hrd3 := hrd.below hb1
  obtain ⟨⟨y0, y1, y2, y3, y4⟩, k0, k1, k2, k3, k4⟩ := five_cells hh
  obtain ⟨⟨z0, z1, z2, z3, z4⟩, f0, f1, f2, f3, f4⟩ := five_cells hr3
  clear hwc N1 N2 N3 N4
  split at hg
  · rename_i h3
    simp only [Prod.mk.injEq] at hg
    obtain ⟨rfl, rfl, rfl, rfl, rfl, rfl⟩ := hg
    clear N5
    rcases lenOk_no h3 with g1 | ⟨g1, g2⟩ | ⟨g1, g2, g3⟩ | ⟨g1, g2, g3, g4⟩ | ⟨g1, g2, g3, g4, g5⟩
    case' inr.inr.inr.inr =>
      have hm := tmod100 g3
      have hq : ((go : Int) % 100 != 0) = true := by simpa using g5
      have hq2 : 0 ≤ (go : Int) % 100 ∧ (go : Int) % 100 < 100 := by omega
      clear g5
    case' inr.inr.inl => omega
    all_goals
      clear h3
      go_wp2_with fail
      have hh5 := five_heap hr3 (.int .u64 0) (.int .u64 0) (.int .i64 0) (.int .i64 0) (.string ⟨([] : List UInt8).toArray⟩)
      obtain ⟨⟨r0, r1, r2, r3, r4⟩, -⟩ := five_cells hh5
      refine bodyPost_ret (v := .tuple #[zfrm, .int .i64 6]) ?_ rfl ⟨rfl, HEND _ hr3 hB3⟩
      simp only [five] at r0 r1 r2 r3 r4
      simp [results, Try.results57, go_sem, r0, r1, r2, r3, r4]
  rename_i h3
  have h3' : lenOk (go : Int) (gt : Int) = true := by simpa using h3
  obtain ⟨j1, j2, j3, j4⟩ := lenOk_nat.1 h3'
  have hm := tmod100 (o := (go : Int)) (by omega)
  rw [show (go : Int) % 100 = 0 by omega] at hm
  obtain ⟨q, hq⟩ : ∃ q, q = gt - go := ⟨_, rfl⟩
  have hq2 : (gt : Int) - (go : Int) = (q : Int) := by omega
  have hq3 : q ≤ 3192 := by omega
  have KL := fun W => Lib.hid (low_any 100 (q : Int) W)
  rw [show min (100 : Int) (q : Int) = ((min 100 q : Nat) : Int) by omega] at KL
  rw [← hq] at hg
  have hl1 : 1 ≤ min 100 q ∧ min 100 q ≤ 100 := by omega
  have HMY : Hid (∀ k : Nat, k = min 100 q → (gnu < 2147483648 ∧ gid < 2147483648) → MayF gnu gid go gt k) := fun k hk h => ⟨h.1, h.2, j1, j2, j3, j4, by omega⟩
  generalize hl : min 100 q = l at *
  obtain ⟨z, hz⟩ : ∃ z, z = 13 + l := ⟨_, rfl⟩
  rw [← hz] at hg
  rw [show 15 + l = z + 2 by omega] at hg
  have e1 : (13 : Int) + (l : Int) = (z : Int) := by omega
  have e2 : (15 : Int) + (l : Int) = (z : Int) + 2 := by omega
  have hzz : 14 ≤ z ∧ z ≤ 113 := by omega
  have hzl : z - 13 = l := by omega
  clear h3 h3' hl hl1 hq
  split at hg
  · rename_i h4
    simp only [Prod.mk.injEq] at hg
    obtain ⟨rfl, rfl, rfl, rfl, rfl, rfl⟩ := hg
    have h4' : (xs.length : Int) < (z : Int) + 2 := by omega
    clear h4 N5 hz HMY
    go_wp2_with (first
      | (go_at_call 30; refine (KL _).out.mono ?_; rintro e w' ⟨rfl, rfl⟩))
    have hh5 := five_heap hr3 (.int .u64 0) (.int .u64 0) (.int .i64 0) (.int .i64 0) (.string ⟨([] : List UInt8).toArray⟩)
    obtain ⟨⟨r0, r1, r2, r3, r4⟩, -⟩ := five_cells hh5
    refine bodyPost_ret (v := .tuple #[zfrm, .int .i64 5]) ?_ rfl ⟨rfl, HEND _ hr3 hB3⟩
    simp only [five] at r0 r1 r2 r3 r4
    simp [results, Try.results57, go_sem, r0, r1, r2, r3, r4]
  rename_i h4
  have h4' : ¬ ((xs.length : Int) < (z : Int) + 2) := by omega
  have hzn : z + 2 ≤ xs.length := by omega
  have hncp := hrd.nc
  have hcm := hrd.cm
  unfold maxLen at hcm
  have hzc : z ≤ cp := by omega
  have hwz : IntKind.i64.wrap (z : Int) = z := wrap_i64_small' z (by omega)
  have G6 := N5 z
  have KS := fun W hh => Lib.hid (refof_any 1 (xs.take z) (some ⟨w1.heap.size, 0, none⟩) z cp W hh)
  rw [crcOf_one'] at KS
  have hdl : ((xs.drop 13).take l).length = l := by rw [List.length_take, List.length_drop]; omega
  have hext : (⟨xs.toArray⟩ : ByteArray).extract 13 z = ⟨((xs.drop 13).take l).toArray⟩ := by rw [ext_bytes, hzl]
  have KM := fun W => Lib.hid (refmay_any gnu gid (go : Int) (gt : Int) ((xs.drop 13).take l) W (by omega))
  rw [hdl] at KM
  have hbt := hrd3.btake z (by omega)
  generalize crcS (xs.take z) = cs at *
  generalize getN xs (z : Int) 2 = sm at *
  generalize hd0 : (xs.drop 13).take l = d0 at *
  clear h4 N5 hz
  go_wp2_with (first
      | (go_at_call 30; refine (KL _).out.mono ?_; rintro e w' ⟨rfl, rfl⟩))
  clear KL
  refine wp_region_held (S := fun W => Below (w3).heap.size (w3) W) (by kernel_rfl) ?_
  change wpAnyH _ _ _ _ _ _ _ _ (w3).drew
  have hS : (fun W => Below (w3).heap.size (w3) W) (w3).drew := (Below.refl _ _).drew
  refine wpAnyH_take (i := 0) (oi := { dst := some 65, op := Op.move (Operand.tmp 4), type := 22, pos := "ref.go:44", after := #[], guard := none }) (v := ?_) rfl (by kernel_rfl) (by kernel_rfl) (by kernel_rfl) (fun _ _ _ h => h) (Or.inl ⟨by rfl, ?_⟩) (by assumption) ?_
  rotate_left
  · (intro wS hS; go_simp <;> with_reducible rfl)
  try simp only [Act.put, List.setIfInBounds_toArray, List.set_cons_zero, List.set_cons_succ]
  refine wpAnyH_take (i := 1) (oi := { dst := some 66, op := Op.move (Operand.tmp 6), type := 3, pos := "ref.go:44", after := #[], guard := none }) (v := ?_) rfl (by kernel_rfl) (by kernel_rfl) (by kernel_rfl) (fun _ _ _ h => h) (Or.inl ⟨by rfl, ?_⟩) (by assumption) ?_
  rotate_left
  · (intro wS hS; go_simp <;> with_reducible rfl)
  try simp only [Act.put, List.setIfInBounds_toArray, List.set_cons_zero, List.set_cons_succ]
  refine wpAnyH_take (i := 2) (oi := { dst := some 67, op := Op.binOp BinOp.add 3 (Operand.const (Value.int IntKind.i64 13)) (Operand.tmp 66) 3, type := 3, pos := "ref.go:44", after := #[{ on := 1, ground := Ground.data }], guard := none }) (v := ?_) rfl (by kernel_rfl) (by kernel_rfl) (by kernel_rfl) (fun _ _ _ h => h) (Or.inl ⟨by rfl, ?_⟩) (by assumption) ?_
  rotate_left
  · (intro wS hS; go_simp <;> with_reducible rfl)
  try simp only [Act.put, List.setIfInBounds_toArray, List.set_cons_zero, List.set_cons_succ]
  refine wpAnyH_take (i := 4) (oi := { dst := some 69, op := Op.move (Operand.tmp 4), type := 22, pos := "ref.go:44", after := #[], guard := none }) (v := ?_) rfl (by kernel_rfl) (by kernel_rfl) (by kernel_rfl) (fun _ _ _ h => h) (Or.inl ⟨by rfl, ?_⟩) (by assumption) ?_
  rotate_left
  · (intro wS hS; go_simp <;> with_reducible rfl)
  try simp only [Act.put, List.setIfInBounds_toArray, List.set_cons_zero, List.set_cons_succ]
  refine wpAnyH_take (i := 5) (oi := { dst := some 70, op := Op.move (Operand.tmp 6), type := 3, pos := "ref.go:44", after := #[], guard := none }) (v := ?_) rfl (by kernel_rfl) (by kernel_rfl) (by kernel_rfl) (fun _ _ _ h => h) (Or.inl ⟨by rfl, ?_⟩) (by assumption) ?_
  rotate_left
  · (intro wS hS; go_simp <;> with_reducible rfl)
  try simp only [Act.put, List.setIfInBounds_toArray, List.set_cons_zero, List.set_cons_succ]
  refine wpAnyH_take (i := 6) (oi := { dst := some 71, op := Op.binOp BinOp.add 3 (Operand.const (Value.int IntKind.i64 13)) (Operand.tmp 70) 3, type := 3, pos := "ref.go:44", after := #[{ on := 5, ground := Ground.data }], guard := none }) (v := ?_) rfl (by kernel_rfl) (by kernel_rfl) (by kernel_rfl) (fun _ _ _ h => h) (Or.inl ⟨by rfl, ?_⟩) (by assumption) ?_
  rotate_left
  · (intro wS hS; go_simp <;> with_reducible rfl)
  try simp only [Act.put, List.setIfInBounds_toArray, List.set_cons_zero, List.set_cons_succ]
  refine wpAnyH_take (i := 7) (oi := { dst := some 72, op := Op.slice 22 (Operand.tmp 69) none (some (Operand.tmp 71)) none, type := 22, pos := "ref.go:44", after := #[{ on := 4, ground := Ground.data }, { on := 6, ground := Ground.data }], guard := none }) (v := ?_) rfl (by kernel_rfl) (by kernel_rfl) (by kernel_rfl) (fun _ _ _ h => h) (Or.inl ⟨by rfl, ?_⟩) (by assumption) ?_
  rotate_left
  · (intro wS hS; go_simp <;> with_reducible rfl)
  try simp only [Act.put, List.setIfInBounds_toArray, List.set_cons_zero, List.set_cons_succ]
  refine wpAnyH_ready (rs := [3]) (by kernel_rfl) (by simp) ?_
  refine AllReadyH.cons (o := { dst := some 68, op := Op.call { callee := Callee.value (Operand.func 32), args := #[Operand.tmp 65, Operand.tmp 67, Operand.const (Value.int IntKind.i64 2)], argTypes := #[22, 3, 3] }, type := 24, pos := "ref.go:44", after := #[{ on := 0, ground := Ground.data }, { on := 2, ground := Ground.data }], guard := none }) rfl (fun K hK => ?_) AllReadyH.nil
  go_simp
  refine (G6 _ (hrd3.below hS)).out.mono ?_
  rintro e w103 ⟨rfl, rfl⟩
  refine hK.out _ _ hS (fun _ => ?_)
  clear hK K
  try simp only [Act.put, List.setIfInBounds_toArray, List.set_cons_zero, List.set_cons_succ]
  refine wpAnyH_ready (rs := [8]) (by kernel_rfl) (by simp) ?_
  refine AllReadyH.cons (o := { dst := some 73, op := Op.call { callee := Callee.value (Operand.func 21), args := #[Operand.const (Value.int IntKind.i64 1), Operand.tmp 72], argTypes := #[3, 22] }, type := 24, pos := "ref.go:44", after := #[{ on := 7, ground := Ground.data }, { on := 3, ground := Ground.chain }], guard := none }) rfl (fun K hK => ?_) AllReadyH.nil
  go_simp
  refine (KS _ (hbt.below hS)).out.mono ?_
  rintro e w108 ⟨rfl, rfl⟩
  refine hK.out _ _ hS (fun _ => ?_)
  clear hK K
  try simp only [Act.put, List.setIfInBounds_toArray, List.set_cons_zero, List.set_cons_succ]
  refine wpAnyH_take (i := 9) (oi := { dst := some 74, op := Op.binOp BinOp.neq 24 (Operand.tmp 68) (Operand.tmp 73) 24, type := 4, pos := "ref.go:44", after := #[{ on := 3, ground := Ground.data }, { on := 8, ground := Ground.data }], guard := none }) (v := ?_) rfl (by kernel_rfl) (by kernel_rfl) (by kernel_rfl) (fun _ _ _ h => h) (Or.inl ⟨by rfl, ?_⟩) (by assumption) ?_
  rotate_left
  · (intro wS hS; go_simp <;> with_reducible rfl)
  try simp only [Act.put, List.setIfInBounds_toArray, List.set_cons_zero, List.set_cons_succ]
  refine wpAnyH_done (by kernel_rfl) ?_ _
  generalize w3.drew = w4 at *
  have hr5 := heap_below hS hr3
  have hh5 := heap_below hS hh
  have hB5 := hB3.trans (below_of hS (by have := heap_lt hr3; omega))
  obtain ⟨⟨y0, y1, y2, y3, y4⟩, k0, k1, k2, k3, k4⟩ := five_cells hh5
  obtain ⟨⟨z0, z1, z2, z3, z4⟩, f0, f1, f2, f3, f4⟩ := five_cells hr5
  clear hr3 hh hB3 hrd3 hbt G6 KS
  split at hg
  · rename_i h5
    simp only [Prod.mk.injEq] at hg
    obtain ⟨rfl, rfl, rfl, rfl, rfl, rfl⟩ := hg
    have h5' : ((sm : Int) != cs) = true := by rw [bne_iff_ne]; omega
    clear h5 HMY hS
    go_wp2_with fail
    have hh5 := five_heap hr5 (.int .u64 0) (.int .u64 0) (.int .i64 0) (.int .i64 0) (.string ⟨([] : List UInt8).toArray⟩)
    obtain ⟨⟨r0, r1, r2, r3, r4⟩, -⟩ := five_cells hh5
    refine bodyPost_ret (v := .tuple #[zfrm, .int .i64 7]) ?_ rfl ⟨rfl, HEND _ hr5 hB5⟩
    simp only [five] at r0 r1 r2 r3 r4
    simp [results, Try.results57, go_sem, r0, r1, r2, r3, r4]
  rename_i h5
  have h5' : ((sm : Int) != cs) = false := by rw [bne_eq_false_iff_eq]; omega
  clear h5 hS
  have h13 : 13 ≤ z := by omega
  have hzl2 : z ≤ xs.length := by omega
  have hh6 := set_heap (o := 4) hh5 (.string ⟨d0.toArray⟩)
  have hg6 := gb_set w4 wb.heap.size 4 (.string ⟨d0.toArray⟩)
  have hr6 := gb_heap hg6 hr5 (by simp; omega)
  have hB6 := below_gbw hg6 hB5 (by omega)
  obtain ⟨⟨v0, v1, v2, v3, v4⟩, -⟩ := five_cells (a := .int .u64 gnu) (b := .int .u64 gid) (c := .int .i64 go) (d := .int .i64 gt) (e := .string ⟨d0.toArray⟩) hh6
  go_wp2_with fail
  generalize hW6 : w4.setCell ⟨wb.heap.size, 4, none⟩ (.string ⟨d0.toArray⟩) = w6 at *
  refine (KM _).out.mono ?_
  rintro e w7 ⟨rfl, hb⟩
  have hr7 := heap_below hb hr6
  have hh7 := heap_below hb hh6
  have hB7 := below_trans hB6 hb
  clear hW6 hg6 hr5 hh5 hB5 hr6 hh6 hB6 hb KM v0 v1 v2 v3 v4 y0 y1 y2 y3 y4 z0 z1 z2 z3 z4 k0 k1 k2 k3 k4 f0 f1 f2 f3 f4 hext
  obtain ⟨⟨v0, v1, v2, v3, v4⟩, -⟩ := five_cells hh7
  obtain ⟨⟨z0, z1, z2, z3, z4⟩, f0, f1, f2, f3, f4⟩ := five_cells hr7
  split at hg
  · rename_i h6
    simp only [Prod.mk.injEq] at hg
    obtain ⟨rfl, rfl, rfl, rfl, rfl, rfl⟩ := hg
    rw [mayF_no (by omega)]
    clear h6 HMY
    go_wp2_with fail
    have hh5 := five_heap hr7 (.int .u64 0) (.int .u64 0) (.int .i64 0) (.int .i64 0) (.string ⟨([] : List UInt8).toArray⟩)
    obtain ⟨⟨r0, r1, r2, r3, r4⟩, -⟩ := five_cells hh5
    refine bodyPost_ret (v := .tuple #[zfrm, .int .i64 6]) ?_ rfl ⟨rfl, HEND _ hr7 hB7⟩
    simp only [five] at r0 r1 r2 r3 r4
    simp [results, Try.results57, go_sem, r0, r1, r2, r3, r4]
  rename_i h6
  simp only [Prod.mk.injEq] at hg
  obtain ⟨rfl, rfl, rfl, rfl, rfl, rfl⟩ := hg
  rw [mayF_of (HMY.out l rfl (by omega))]
  clear h6 HMY HEND
  go_wp2_with fail
  have hh8 := five_heap hr7 (.int .u64 (gnu : Int)) (.int .u64 (gid : Int)) (.int .i64 (go : Int)) (.int .i64 (gt : Int)) (.string ⟨d0.toArray⟩)
  have hB8 := below_gbw (five_gb w7 w.heap.size (.int .u64 (gnu : Int)) (.int .u64 (gid : Int)) (.int .i64 (go : Int)) (.int .i64 (gt : Int)) (.string ⟨d0.toArray⟩)) hB7 (Nat.le_refl _)
  obtain ⟨⟨r0, r1, r2, r3, r4⟩, -⟩ := five_cells hh8
  refine bodyPost_ret (v := .tuple #[frm gnu gid (go : Int) (gt : Int) d0, .int .i64 0]) ?_ rfl ⟨rfl, hB8⟩
  simp only [five] at r0 r1 r2 r3 r4
  simp [results, Try.results57, go_sem, r0, r1, r2, r3, r4]
end Go.Proofs.Ythkabhejfkekjaa
