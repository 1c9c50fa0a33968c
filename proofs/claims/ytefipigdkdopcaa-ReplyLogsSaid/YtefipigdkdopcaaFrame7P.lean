/- Contract of frame.Get. No condition but the length's bound. -/
import Derived.Test.YtefipigdkdopcaaFrame3P
import Derived.Test.YtefipigdkdopcaaHeld
import Derived.Test.YtefipigdkdopcaaBe
import Derived.Test.YtefipigdkdopcaaCrcP
import Derived.Deep.DeepCutAuto
namespace Go.Proofs.Ytefipigdkdopcaa
open Go.RowKit

theorem wrap_i64_small (x : Nat) (h : x < 65536) : IntKind.i64.wrap ((x : Nat) : Int) = x := by rw [IntKind.wrap_i64]; omega

theorem fgetn_any (at_ : Nat) (xs : List UInt8) (A : Option Addr) (n c g : Nat) (w : World) (hg : w.cell? ⟨g, 0, none⟩ = some (.slice A n c)) (hx : RdB w A n c xs) (hN : n ≤ 140737488355328) :
    Calls Try.prog 109 #[.int .i64 at_, .int .i64 2, .pointer (some ⟨g, 0, none⟩)] w fun e w' => e = .returned (.int .i64 (getN xs at_ 2 : Nat)) ∧ Below w.heap.size w w' := by
  have K := Lib.hid (get_any at_ 2 xs A n c w hx hN)
  have hw := wrap_i64_small (getN xs at_ 2) (getN_lt2 _ _)
  generalize getN xs at_ 2 = v at *
  go_enter Try.func109, Try.ntmps109
  go_wp2_with (go_at_call 110; refine K.out.mono ?_; rintro e w' ⟨rfl, hb⟩)
  go_ret
  exact ⟨rfl, hb⟩

set_option maxRecDepth 100000 in
set_option maxHeartbeats 4000000 in
theorem fget32_any (nu id o t : Nat) (d : List UInt8) (er : Nat) (xs : List UInt8) (A : Option Addr) (n c : Nat) (w : World) (hx : RdB w A n c xs) (hN : n ≤ 1000000) (hg : fgetF xs = (nu, id, o, t, d, er)) :
    Calls Try.prog 67 #[.slice A n c] w fun e w' => e = .returned (.tuple #[frm nu id o t d, .int .i64 (if er = 0 then 15 + (d.length : Int) else 0), .int .i64 er]) ∧ Below w.heap.size w w' := by
  have hxl := hx.blen
  have hcm := hx.cm
  have hnc := hx.nc
  unfold maxLen at hcm
  unfold fgetF at hg
  rw [hxl] at hg
  obtain ⟨hB, hca, hcb⟩ := two_cells w #[.slice A n c] #[.int .u64 0, .int .u64 0, .int .i64 0, .int .i64 0, .string ⟨([] : List UInt8).toArray⟩] 53 100
  have q0 := hca 0 (.slice A n c) rfl
  have hr : ((w.alloc (.cells #[.slice A n c] 53)).alloc (.cells #[.int .u64 0, .int .u64 0, .int .i64 0, .int .i64 0, .string ⟨([] : List UInt8).toArray⟩] 100)).heap[w.heap.size + 1]? = some (.cells #[.int .u64 0, .int .u64 0, .int .i64 0, .int .i64 0, .string ⟨([] : List UInt8).toArray⟩] 100 (0, 0)) := by
    have := alloc_new (w.alloc (.cells #[.slice A n c] 53)) (.cells #[.int .u64 0, .int .u64 0, .int .i64 0, .int .i64 0, .string ⟨([] : List UInt8).toArray⟩] 100 (0, 0))
    rwa [alloc_size] at this
  replace hx := hx.below hB
  clear hca hcb
  obtain ⟨⟨z0, z1, z2, z3, z4⟩, f0, f1, f2, f3, f4⟩ := five_cells hr
  have hlt := heap_lt hr
  have HEND : ∀ (W : World), W.heap[w.heap.size + 1]? = some (.cells #[.int .u64 0, .int .u64 0, .int .i64 0, .int .i64 0, .string ⟨([] : List UInt8).toArray⟩] 100 (0, 0)) → Below w.heap.size w W →
      Below w.heap.size w (five W (w.heap.size + 1) (.int .u64 0) (.int .u64 0) (.int .i64 0) (.int .i64 0) (.string ⟨([] : List UInt8).toArray⟩)) := fun W _ hb => below_gbw (five_gb W _ _ _ _ _ _) hb (by omega)
  split at hg
  · rename_i h0
    simp only [Prod.mk.injEq] at hg
    obtain ⟨rfl, rfl, rfl, rfl, rfl, rfl⟩ := hg
    subst h0
    generalize hW1 : (w.alloc (.cells #[.slice A 0 c] 53)).alloc (.cells #[.int .u64 0, .int .u64 0, .int .i64 0, .int .i64 0, .string ⟨([] : List UInt8).toArray⟩] 100) = w1 at *
    go_enter Try.func67, Try.ntmps67
    go_wp2_with fail
    have hh5 := five_heap hr (.int .u64 0) (.int .u64 0) (.int .i64 0) (.int .i64 0) (.string ⟨([] : List UInt8).toArray⟩)
    obtain ⟨⟨r0, r1, r2, r3, r4⟩, -⟩ := five_cells hh5
    refine bodyPost_ret (v := .tuple #[zfrm, .int .i64 0, .int .i64 5]) ?_ rfl ⟨rfl, HEND _ hr hB⟩
    simp only [five] at r0 r1 r2 r3 r4
    simp [results, Try.results67, go_sem, r0, r1, r2, r3, r4]
  rename_i h0
  obtain ⟨ad, rfl⟩ := hx.some_of_pos (by omega)
  have hb0 := hx.bcell 0 (by omega)
  rw [show ad.add 0 = ad from by simp [Addr.add]] at hb0
  have hbl := toNat_lt (xs.getD 0 0)
  have h0n : ((n : Int) == 0) = false := by simpa using h0
  split at hg
  · rename_i h1
    simp only [Prod.mk.injEq] at hg
    obtain ⟨rfl, rfl, rfl, rfl, rfl, rfl⟩ := hg
    generalize (xs.getD 0 0).toNat = b at *
    have h1' : ((b : Int) != 26) = true := by rw [bne_iff_ne]; omega
    have hpos : 0 < n := by omega
    clear h1 h0
    generalize hW1 : (w.alloc (.cells #[.slice (some ad) n c] 53)).alloc (.cells #[.int .u64 0, .int .u64 0, .int .i64 0, .int .i64 0, .string ⟨([] : List UInt8).toArray⟩] 100) = w1 at *
    go_enter Try.func67, Try.ntmps67
    go_wp2_with fail
    have hh5 := five_heap hr (.int .u64 0) (.int .u64 0) (.int .i64 0) (.int .i64 0) (.string ⟨([] : List UInt8).toArray⟩)
    obtain ⟨⟨r0, r1, r2, r3, r4⟩, -⟩ := five_cells hh5
    refine bodyPost_ret (v := .tuple #[zfrm, .int .i64 0, .int .i64 6]) ?_ rfl ⟨rfl, HEND _ hr hB⟩
    simp only [five] at r0 r1 r2 r3 r4
    simp [results, Try.results67, go_sem, r0, r1, r2, r3, r4]
  rename_i h1
  have h1' : (xs.getD 0 0).toNat = 26 := by omega
  rw [h1'] at hb0
  clear h1 hbl
  split at hg
  · rename_i h2
    simp only [Prod.mk.injEq] at hg
    obtain ⟨rfl, rfl, rfl, rfl, rfl, rfl⟩ := hg
    have hpos : 0 < n := by omega
    clear h0
    generalize hW1 : (w.alloc (.cells #[.slice (some ad) n c] 53)).alloc (.cells #[.int .u64 0, .int .u64 0, .int .i64 0, .int .i64 0, .string ⟨([] : List UInt8).toArray⟩] 100) = w1 at *
    go_enter Try.func67, Try.ntmps67
    go_wp2_with fail
    have hh5 := five_heap hr (.int .u64 0) (.int .u64 0) (.int .i64 0) (.int .i64 0) (.string ⟨([] : List UInt8).toArray⟩)
    obtain ⟨⟨r0, r1, r2, r3, r4⟩, -⟩ := five_cells hh5
    refine bodyPost_ret (v := .tuple #[zfrm, .int .i64 0, .int .i64 5]) ?_ rfl ⟨rfl, HEND _ hr hB⟩
    simp only [five] at r0 r1 r2 r3 r4
    simp [results, Try.results67, go_sem, r0, r1, r2, r3, r4]
  rename_i h2
  have h2' : 13 ≤ n := by omega
  have hpos : 0 < n := by omega
  clear h0 h2
  have G1 := fun W hh => Lib.hid (get_any 1 4 xs (some ad) n c W hh (by omega))
  have G2 := fun W hh => Lib.hid (get_any 5 4 xs (some ad) n c W hh (by omega))
  have G3 := fun W h hh => Lib.hid (fgetn_any 9 xs (some ad) n c w.heap.size W h hh (by omega))
  have G4 := fun W h hh => Lib.hid (fgetn_any 11 xs (some ad) n c w.heap.size W h hh (by omega))
  have KL := fun W => Lib.hid (flen_any ((getN xs 9 2 : Nat) : Int) ((getN xs 11 2 : Nat) : Int) W)
  have ho2 := getN_lt2 xs 9
  have ht2 := getN_lt2 xs 11
  have G5 := fun (z : Nat) W h hh => Lib.hid (fgetn_any z xs (some ad) n c w.heap.size W h hh (by omega))
  simp only [show ((9 : Nat) : Int) = 9 from rfl, show ((11 : Nat) : Int) = 11 from rfl] at G3 G4
  generalize getN xs 1 4 = gnu at *
  generalize getN xs 5 4 = gid at *
  generalize getN xs 9 2 = go at *
  generalize getN xs 11 2 = gt at *
  generalize hW1 : (w.alloc (.cells #[.slice (some ad) n c] 53)).alloc (.cells #[.int .u64 0, .int .u64 0, .int .i64 0, .int .i64 0, .string ⟨([] : List UInt8).toArray⟩] 100) = w1 at *
  go_enter Try.func67, Try.ntmps67
  go_wp2_with fail
  clear hW1
  go_cut [6] (fun s6 wx => ∃ g, s6 = .pointer (some ⟨g, 0, none⟩) ∧ w1.heap.size ≤ g ∧ wx.heap[g]? = some (.cells (frmCs gnu gid go gt []) 100 (0, 0)) ∧ Below w1.heap.size w1 wx)
  case first =>
    clear hg KL G5 HEND
    have hza : Try.prog.info? 100 = Try.prog.info? 100 := rfl
    refine wp_region_held (S := fun W => Below w1.heap.size w1 W) (by kernel_rfl) ?_
    change wpAnyH _ _ _ _ _ _ _ _ (w1).drew
    have hS : (fun W => Below w1.heap.size w1 W) (w1).drew := (Below.refl _ _).drew
    generalize (w1).drew = wd at hS ⊢
    refine wpAnyH_take (i := 0) (oi := { dst := some 27, op := Op.load 53 (Operand.tmp 1), type := 53, pos := "frame.go:66", after := #[], guard := none }) (v := ?_) rfl (by kernel_rfl) (by kernel_rfl) (by kernel_rfl) (fun _ _ _ h => h) (Or.inl ⟨by rfl, ?_⟩) (by assumption) ?_
    rotate_left
    · (intro wS hS; have p0 := cell_below hS q0; go_simp <;> with_reducible rfl)
    try simp only [Act.put, List.setIfInBounds_toArray, List.set_cons_zero, List.set_cons_succ]
    refine wpAnyH_take (i := 2) (oi := { dst := some 29, op := Op.load 53 (Operand.tmp 1), type := 53, pos := "frame.go:66", after := #[], guard := none }) (v := ?_) rfl (by kernel_rfl) (by kernel_rfl) (by kernel_rfl) (fun _ _ _ h => h) (Or.inl ⟨by rfl, ?_⟩) (by assumption) ?_
    rotate_left
    · (intro wS hS; have p0 := cell_below hS q0; go_simp <;> with_reducible rfl)
    try simp only [Act.put, List.setIfInBounds_toArray, List.set_cons_zero, List.set_cons_succ]
    refine wpAnyH_take (i := 4) (oi := { dst := some 31, op := Op.move (Operand.tmp 5), type := 152, pos := "frame.go:66", after := #[], guard := none }) (v := ?_) rfl (by kernel_rfl) (by kernel_rfl) (by kernel_rfl) (fun _ _ _ h => h) (Or.inl ⟨by rfl, ?_⟩) (by assumption) ?_
    rotate_left
    · (intro wS hS; go_simp <;> with_reducible rfl)
    try simp only [Act.put, List.setIfInBounds_toArray, List.set_cons_zero, List.set_cons_succ]
    refine wpAnyH_take (i := 6) (oi := { dst := some 33, op := Op.move (Operand.tmp 5), type := 152, pos := "frame.go:66", after := #[], guard := none }) (v := ?_) rfl (by kernel_rfl) (by kernel_rfl) (by kernel_rfl) (fun _ _ _ h => h) (Or.inl ⟨by rfl, ?_⟩) (by assumption) ?_
    rotate_left
    · (intro wS hS; go_simp <;> with_reducible rfl)
    try simp only [Act.put, List.setIfInBounds_toArray, List.set_cons_zero, List.set_cons_succ]
    refine wpAnyH_ready (rs := [1, 9]) (by kernel_rfl) (by simp) ?_
    refine AllReadyH.cons (o := { dst := some 28, op := Op.call { callee := Callee.value (Operand.func 110), args := #[Operand.tmp 27, Operand.const (Value.int IntKind.i64 1), Operand.const (Value.int IntKind.i64 4)], argTypes := #[53, 3, 3] }, type := 22, pos := "frame.go:66", after := #[{ on := 0, ground := Ground.data }], guard := none }) rfl (fun K hK => ?_) (AllReadyH.cons (o := { dst := some 6, op := Op.alloc 100, type := 0, pos := "frame.go:66", after := #[], guard := none }) rfl (fun K hK => ?_) (AllReadyH.nil))
    · have p0 := cell_below hS q0
      go_simp
      refine (G1 _ (hx.below hS)).out.mono ?_
      rintro e w101 ⟨rfl, hb⟩
      replace hS : (fun W => Below w1.heap.size w1 W) w101 := below_then hS hb (Below.size hS)
      refine hK.out _ _ hS (fun _ => ?_)
      clear hK K hb
      try simp only [Act.put, List.setIfInBounds_toArray, List.set_cons_zero, List.set_cons_succ]
      refine wpAnyH_ready (rs := [3, 9]) (by kernel_rfl) (by simp) ?_
      refine AllReadyH.cons (o := { dst := some 30, op := Op.call { callee := Callee.value (Operand.func 110), args := #[Operand.tmp 29, Operand.const (Value.int IntKind.i64 5), Operand.const (Value.int IntKind.i64 4)], argTypes := #[53, 3, 3] }, type := 22, pos := "frame.go:66", after := #[{ on := 2, ground := Ground.data }, { on := 1, ground := Ground.chain }], guard := none }) rfl (fun K hK => ?_) (AllReadyH.cons (o := { dst := some 6, op := Op.alloc 100, type := 0, pos := "frame.go:66", after := #[], guard := none }) rfl (fun K hK => ?_) (AllReadyH.nil))
      · have p0 := cell_below hS q0
        go_simp
        refine (G2 _ (hx.below hS)).out.mono ?_
        rintro e w103 ⟨rfl, hb⟩
        replace hS : (fun W => Below w1.heap.size w1 W) w103 := below_then hS hb (Below.size hS)
        refine hK.out _ _ hS (fun _ => ?_)
        clear hK K hb
        try simp only [Act.put, List.setIfInBounds_toArray, List.set_cons_zero, List.set_cons_succ]
        refine wpAnyH_ready (rs := [5, 9]) (by kernel_rfl) (by simp) ?_
        refine AllReadyH.cons (o := { dst := some 32, op := Op.call { callee := Callee.value (Operand.tmp 31), args := #[Operand.const (Value.int IntKind.i64 9), Operand.const (Value.int IntKind.i64 2)], argTypes := #[3, 3] }, type := 3, pos := "frame.go:66", after := #[{ on := 4, ground := Ground.data }, { on := 3, ground := Ground.chain }], guard := none }) rfl (fun K hK => ?_) (AllReadyH.cons (o := { dst := some 6, op := Op.alloc 100, type := 0, pos := "frame.go:66", after := #[], guard := none }) rfl (fun K hK => ?_) (AllReadyH.nil))
        · have p0 := cell_below hS q0
          go_simp
          refine (G3 _ p0 (hx.below hS)).out.mono ?_
          rintro e w105 ⟨rfl, hb⟩
          replace hS : (fun W => Below w1.heap.size w1 W) w105 := below_then hS hb (Below.size hS)
          refine hK.out _ _ hS (fun _ => ?_)
          clear hK K hb
          try simp only [Act.put, List.setIfInBounds_toArray, List.set_cons_zero, List.set_cons_succ]
          refine wpAnyH_ready (rs := [7, 9]) (by kernel_rfl) (by simp) ?_
          refine AllReadyH.cons (o := { dst := some 34, op := Op.call { callee := Callee.value (Operand.tmp 33), args := #[Operand.const (Value.int IntKind.i64 11), Operand.const (Value.int IntKind.i64 2)], argTypes := #[3, 3] }, type := 3, pos := "frame.go:66", after := #[{ on := 6, ground := Ground.data }, { on := 5, ground := Ground.chain }], guard := none }) rfl (fun K hK => ?_) (AllReadyH.cons (o := { dst := some 6, op := Op.alloc 100, type := 0, pos := "frame.go:66", after := #[], guard := none }) rfl (fun K hK => ?_) (AllReadyH.nil))
          · have p0 := cell_below hS q0
            go_simp
            refine (G4 _ p0 (hx.below hS)).out.mono ?_
            rintro e w107 ⟨rfl, hb⟩
            replace hS : (fun W => Below w1.heap.size w1 W) w107 := below_then hS hb (Below.size hS)
            refine hK.out _ _ hS (fun _ => ?_)
            clear hK K hb
            try simp only [Act.put, List.setIfInBounds_toArray, List.set_cons_zero, List.set_cons_succ]
            refine wpAnyH_take (i := 8) (oi := { dst := some 35, op := Op.build 100 #[(0, Operand.tmp 28), (1, Operand.tmp 30), (2, Operand.tmp 32), (3, Operand.tmp 34)], type := 100, pos := "frame.go:66", after := #[{ on := 1, ground := Ground.data }, { on := 3, ground := Ground.data }, { on := 5, ground := Ground.data }, { on := 7, ground := Ground.data }], guard := none }) (v := ?_) rfl (by kernel_rfl) (by kernel_rfl) (by kernel_rfl) (fun _ _ _ h => h) (Or.inl ⟨by rfl, ?_⟩) (by assumption) ?_
            rotate_left
            · (intro wS hS; go_simp <;> with_reducible rfl)
            try simp only [Act.put, List.setIfInBounds_toArray, List.set_cons_zero, List.set_cons_succ]
            refine wpAnyH_ready (rs := [9]) (by kernel_rfl) (by simp) ?_
            refine AllReadyH.cons (o := { dst := some 6, op := Op.alloc 100, type := 0, pos := "frame.go:66", after := #[], guard := none }) rfl (fun K hK => ?_) (AllReadyH.nil)
            go_simp
            obtain ⟨gA, hgA⟩ : ∃ g, g = (w107).heap.size := ⟨_, rfl⟩
            have hhA : (w107.alloc (.cells #[.int .u64 0, .int .u64 0, .int .i64 0, .int .i64 0, .string ⟨([] : List UInt8).toArray⟩] 100)).heap[gA]? = some (.cells #[.int .u64 0, .int .u64 0, .int .i64 0, .int .i64 0, .string ⟨([] : List UInt8).toArray⟩] 100 (0, 0)) := by rw [hgA]; exact alloc_new _ _
            have hBA : (fun W => Below w1.heap.size w1 W) (w107.alloc (.cells #[.int .u64 0, .int .u64 0, .int .i64 0, .int .i64 0, .string ⟨([] : List UInt8).toArray⟩] 100)) := Below.alloc hS (Below.size hS) _
            have hgB : (w1).heap.size ≤ gA := by rw [hgA]; exact Below.size hS
            refine hK.out _ _ hBA (fun _ => ?_)
            clear hK K
            try simp only [Act.put, List.setIfInBounds_toArray, List.set_cons_zero, List.set_cons_succ]
            simp only [← hgA]
            clear hgA
            generalize w107.alloc (.cells #[.int .u64 0, .int .u64 0, .int .i64 0, .int .i64 0, .string ⟨([] : List UInt8).toArray⟩] 100) = wA at *
            refine wpAnyH_stronger (S' := fun W => Below w1.heap.size w1 W ∧ ∃ a b c d e, W.heap[gA]? = some (.cells #[a, b, c, d, e] 100 (0, 0))) (fun _ h => h.1) _ _ _ _ ?_
            clear hS
            have hS : (fun W => Below w1.heap.size w1 W ∧ ∃ a b c d e, W.heap[gA]? = some (.cells #[a, b, c, d, e] 100 (0, 0))) wA := ⟨hBA, _, _, _, _, _, hhA⟩
            clear hhA
            refine wpAnyH_ready (rs := [10]) (by kernel_rfl) (by simp) ?_
            refine AllReadyH.cons (o := { dst := none, op := Op.store 100 (Operand.tmp 6) (Operand.tmp 35), type := 0, pos := "frame.go:66", after := #[{ on := 9, ground := Ground.data }, { on := 8, ground := Ground.data }, { on := 7, ground := Ground.chain }, { on := 0, ground := Ground.phase }, { on := 1, ground := Ground.phase }, { on := 2, ground := Ground.phase }, { on := 3, ground := Ground.phase }, { on := 4, ground := Ground.phase }, { on := 5, ground := Ground.phase }, { on := 6, ground := Ground.phase }, { on := 7, ground := Ground.phase }, { on := 8, ground := Ground.phase }, { on := 9, ground := Ground.phase }], guard := none }) rfl (fun K hK => ?_) (AllReadyH.nil)
            obtain ⟨hS1, y5, y6, y7, y8, y9, hhA⟩ := hS
            obtain ⟨⟨y0, y1, y2, y3, y4⟩, k0, k1, k2, k3, k4⟩ := five_cells hhA
            have hh5 := five_heap hhA (.int .u64 (gnu : Int)) (.int .u64 (gid : Int)) (.int .i64 (go : Int)) (.int .i64 (gt : Int)) (.string ⟨([] : List UInt8).toArray⟩)
            have hB5 := hS1.trans (below_gb (five_gb wA gA (.int .u64 (gnu : Int)) (.int .u64 (gid : Int)) (.int .i64 (go : Int)) (.int .i64 (gt : Int)) (.string ⟨([] : List UInt8).toArray⟩)) (Below.size hS1) hgB)
            go_simp
            refine hK.out _ _ ⟨hB5, _, _, _, _, _, hh5⟩ (fun _ => ?_)
            clear hK K
            try simp only [Act.put, List.setIfInBounds_toArray, List.set_cons_zero, List.set_cons_succ]
            refine wpAnyH_done (by kernel_rfl) ?_ _
            go_wp2_with fail
            go_meet
            exact ⟨gA, rfl, hgB, hh5, hB5⟩
          · go_simp
            obtain ⟨gA, hgA⟩ : ∃ g, g = (w105).heap.size := ⟨_, rfl⟩
            have hhA : (w105.alloc (.cells #[.int .u64 0, .int .u64 0, .int .i64 0, .int .i64 0, .string ⟨([] : List UInt8).toArray⟩] 100)).heap[gA]? = some (.cells #[.int .u64 0, .int .u64 0, .int .i64 0, .int .i64 0, .string ⟨([] : List UInt8).toArray⟩] 100 (0, 0)) := by rw [hgA]; exact alloc_new _ _
            have hBA : (fun W => Below w1.heap.size w1 W) (w105.alloc (.cells #[.int .u64 0, .int .u64 0, .int .i64 0, .int .i64 0, .string ⟨([] : List UInt8).toArray⟩] 100)) := Below.alloc hS (Below.size hS) _
            have hgB : (w1).heap.size ≤ gA := by rw [hgA]; exact Below.size hS
            refine hK.out _ _ hBA (fun _ => ?_)
            clear hK K
            try simp only [Act.put, List.setIfInBounds_toArray, List.set_cons_zero, List.set_cons_succ]
            simp only [← hgA]
            clear hgA
            generalize w105.alloc (.cells #[.int .u64 0, .int .u64 0, .int .i64 0, .int .i64 0, .string ⟨([] : List UInt8).toArray⟩] 100) = wA at *
            refine wpAnyH_stronger (S' := fun W => Below w1.heap.size w1 W ∧ ∃ a b c d e, W.heap[gA]? = some (.cells #[a, b, c, d, e] 100 (0, 0))) (fun _ h => h.1) _ _ _ _ ?_
            clear hS
            have hS : (fun W => Below w1.heap.size w1 W ∧ ∃ a b c d e, W.heap[gA]? = some (.cells #[a, b, c, d, e] 100 (0, 0))) wA := ⟨hBA, _, _, _, _, _, hhA⟩
            clear hhA
            refine wpAnyH_ready (rs := [7]) (by kernel_rfl) (by simp) ?_
            refine AllReadyH.cons (o := { dst := some 34, op := Op.call { callee := Callee.value (Operand.tmp 33), args := #[Operand.const (Value.int IntKind.i64 11), Operand.const (Value.int IntKind.i64 2)], argTypes := #[3, 3] }, type := 3, pos := "frame.go:66", after := #[{ on := 6, ground := Ground.data }, { on := 5, ground := Ground.chain }], guard := none }) rfl (fun K hK => ?_) (AllReadyH.nil)
            have p0 := cell_below hS.1 q0
            go_simp
            refine (G4 _ p0 (hx.below hS.1)).out.mono ?_
            rintro e w107 ⟨rfl, hb⟩
            replace hS : (fun W => Below w1.heap.size w1 W ∧ ∃ a b c d e, W.heap[gA]? = some (.cells #[a, b, c, d, e] 100 (0, 0))) w107 := ⟨below_then hS.1 hb (Below.size hS.1), by obtain ⟨_, a, b, c, d, e, hh⟩ := hS; exact ⟨a, b, c, d, e, heap_below hb hh⟩⟩
            refine hK.out _ _ hS (fun _ => ?_)
            clear hK K hb
            try simp only [Act.put, List.setIfInBounds_toArray, List.set_cons_zero, List.set_cons_succ]
            refine wpAnyH_take (i := 8) (oi := { dst := some 35, op := Op.build 100 #[(0, Operand.tmp 28), (1, Operand.tmp 30), (2, Operand.tmp 32), (3, Operand.tmp 34)], type := 100, pos := "frame.go:66", after := #[{ on := 1, ground := Ground.data }, { on := 3, ground := Ground.data }, { on := 5, ground := Ground.data }, { on := 7, ground := Ground.data }], guard := none }) (v := ?_) rfl (by kernel_rfl) (by kernel_rfl) (by kernel_rfl) (fun _ _ _ h => h) (Or.inl ⟨by rfl, ?_⟩) (by assumption) ?_
            rotate_left
            · (intro wS hS; go_simp <;> with_reducible rfl)
            try simp only [Act.put, List.setIfInBounds_toArray, List.set_cons_zero, List.set_cons_succ]
            refine wpAnyH_ready (rs := [10]) (by kernel_rfl) (by simp) ?_
            refine AllReadyH.cons (o := { dst := none, op := Op.store 100 (Operand.tmp 6) (Operand.tmp 35), type := 0, pos := "frame.go:66", after := #[{ on := 9, ground := Ground.data }, { on := 8, ground := Ground.data }, { on := 7, ground := Ground.chain }, { on := 0, ground := Ground.phase }, { on := 1, ground := Ground.phase }, { on := 2, ground := Ground.phase }, { on := 3, ground := Ground.phase }, { on := 4, ground := Ground.phase }, { on := 5, ground := Ground.phase }, { on := 6, ground := Ground.phase }, { on := 7, ground := Ground.phase }, { on := 8, ground := Ground.phase }, { on := 9, ground := Ground.phase }], guard := none }) rfl (fun K hK => ?_) (AllReadyH.nil)
            obtain ⟨hS1, y5, y6, y7, y8, y9, hhA⟩ := hS
            obtain ⟨⟨y0, y1, y2, y3, y4⟩, k0, k1, k2, k3, k4⟩ := five_cells hhA
            have hh5 := five_heap hhA (.int .u64 (gnu : Int)) (.int .u64 (gid : Int)) (.int .i64 (go : Int)) (.int .i64 (gt : Int)) (.string ⟨([] : List UInt8).toArray⟩)
            have hB5 := hS1.trans (below_gb (five_gb w107 gA (.int .u64 (gnu : Int)) (.int .u64 (gid : Int)) (.int .i64 (go : Int)) (.int .i64 (gt : Int)) (.string ⟨([] : List UInt8).toArray⟩)) (Below.size hS1) hgB)
            go_simp
            refine hK.out _ _ ⟨hB5, _, _, _, _, _, hh5⟩ (fun _ => ?_)
            clear hK K
            try simp only [Act.put, List.setIfInBounds_toArray, List.set_cons_zero, List.set_cons_succ]
            refine wpAnyH_done (by kernel_rfl) ?_ _
            go_wp2_with fail
            go_meet
            exact ⟨gA, rfl, hgB, hh5, hB5⟩
        · go_simp
          obtain ⟨gA, hgA⟩ : ∃ g, g = (w103).heap.size := ⟨_, rfl⟩
          have hhA : (w103.alloc (.cells #[.int .u64 0, .int .u64 0, .int .i64 0, .int .i64 0, .string ⟨([] : List UInt8).toArray⟩] 100)).heap[gA]? = some (.cells #[.int .u64 0, .int .u64 0, .int .i64 0, .int .i64 0, .string ⟨([] : List UInt8).toArray⟩] 100 (0, 0)) := by rw [hgA]; exact alloc_new _ _
          have hBA : (fun W => Below w1.heap.size w1 W) (w103.alloc (.cells #[.int .u64 0, .int .u64 0, .int .i64 0, .int .i64 0, .string ⟨([] : List UInt8).toArray⟩] 100)) := Below.alloc hS (Below.size hS) _
          have hgB : (w1).heap.size ≤ gA := by rw [hgA]; exact Below.size hS
          refine hK.out _ _ hBA (fun _ => ?_)
          clear hK K
          try simp only [Act.put, List.setIfInBounds_toArray, List.set_cons_zero, List.set_cons_succ]
          simp only [← hgA]
          clear hgA
          generalize w103.alloc (.cells #[.int .u64 0, .int .u64 0, .int .i64 0, .int .i64 0, .string ⟨([] : List UInt8).toArray⟩] 100) = wA at *
          refine wpAnyH_stronger (S' := fun W => Below w1.heap.size w1 W ∧ ∃ a b c d e, W.heap[gA]? = some (.cells #[a, b, c, d, e] 100 (0, 0))) (fun _ h => h.1) _ _ _ _ ?_
          clear hS
          have hS : (fun W => Below w1.heap.size w1 W ∧ ∃ a b c d e, W.heap[gA]? = some (.cells #[a, b, c, d, e] 100 (0, 0))) wA := ⟨hBA, _, _, _, _, _, hhA⟩
          clear hhA
          refine wpAnyH_ready (rs := [5]) (by kernel_rfl) (by simp) ?_
          refine AllReadyH.cons (o := { dst := some 32, op := Op.call { callee := Callee.value (Operand.tmp 31), args := #[Operand.const (Value.int IntKind.i64 9), Operand.const (Value.int IntKind.i64 2)], argTypes := #[3, 3] }, type := 3, pos := "frame.go:66", after := #[{ on := 4, ground := Ground.data }, { on := 3, ground := Ground.chain }], guard := none }) rfl (fun K hK => ?_) (AllReadyH.nil)
          have p0 := cell_below hS.1 q0
          go_simp
          refine (G3 _ p0 (hx.below hS.1)).out.mono ?_
          rintro e w105 ⟨rfl, hb⟩
          replace hS : (fun W => Below w1.heap.size w1 W ∧ ∃ a b c d e, W.heap[gA]? = some (.cells #[a, b, c, d, e] 100 (0, 0))) w105 := ⟨below_then hS.1 hb (Below.size hS.1), by obtain ⟨_, a, b, c, d, e, hh⟩ := hS; exact ⟨a, b, c, d, e, heap_below hb hh⟩⟩
          refine hK.out _ _ hS (fun _ => ?_)
          clear hK K hb
          try simp only [Act.put, List.setIfInBounds_toArray, List.set_cons_zero, List.set_cons_succ]
          refine wpAnyH_ready (rs := [7]) (by kernel_rfl) (by simp) ?_
          refine AllReadyH.cons (o := { dst := some 34, op := Op.call { callee := Callee.value (Operand.tmp 33), args := #[Operand.const (Value.int IntKind.i64 11), Operand.const (Value.int IntKind.i64 2)], argTypes := #[3, 3] }, type := 3, pos := "frame.go:66", after := #[{ on := 6, ground := Ground.data }, { on := 5, ground := Ground.chain }], guard := none }) rfl (fun K hK => ?_) (AllReadyH.nil)
          have p0 := cell_below hS.1 q0
          go_simp
          refine (G4 _ p0 (hx.below hS.1)).out.mono ?_
          rintro e w107 ⟨rfl, hb⟩
          replace hS : (fun W => Below w1.heap.size w1 W ∧ ∃ a b c d e, W.heap[gA]? = some (.cells #[a, b, c, d, e] 100 (0, 0))) w107 := ⟨below_then hS.1 hb (Below.size hS.1), by obtain ⟨_, a, b, c, d, e, hh⟩ := hS; exact ⟨a, b, c, d, e, heap_below hb hh⟩⟩
          refine hK.out _ _ hS (fun _ => ?_)
          clear hK K hb
          try simp only [Act.put, List.setIfInBounds_toArray, List.set_cons_zero, List.set_cons_succ]
          refine wpAnyH_take (i := 8) (oi := { dst := some 35, op := Op.build 100 #[(0, Operand.tmp 28), (1, Operand.tmp 30), (2, Operand.tmp 32), (3, Operand.tmp 34)], type := 100, pos := "frame.go:66", after := #[{ on := 1, ground := Ground.data }, { on := 3, ground := Ground.data }, { on := 5, ground := Ground.data }, { on := 7, ground := Ground.data }], guard := none }) (v := ?_) rfl (by kernel_rfl) (by kernel_rfl) (by kernel_rfl) (fun _ _ _ h => h) (Or.inl ⟨by rfl, ?_⟩) (by assumption) ?_
          rotate_left
          · (intro wS hS; go_simp <;> with_reducible rfl)
          try simp only [Act.put, List.setIfInBounds_toArray, List.set_cons_zero, List.set_cons_succ]
          refine wpAnyH_ready (rs := [10]) (by kernel_rfl) (by simp) ?_
          refine AllReadyH.cons (o := { dst := none, op := Op.store 100 (Operand.tmp 6) (Operand.tmp 35), type := 0, pos := "frame.go:66", after := #[{ on := 9, ground := Ground.data }, { on := 8, ground := Ground.data }, { on := 7, ground := Ground.chain }, { on := 0, ground := Ground.phase }, { on := 1, ground := Ground.phase }, { on := 2, ground := Ground.phase }, { on := 3, ground := Ground.phase }, { on := 4, ground := Ground.phase }, { on := 5, ground := Ground.phase }, { on := 6, ground := Ground.phase }, { on := 7, ground := Ground.phase }, { on := 8, ground := Ground.phase }, { on := 9, ground := Ground.phase }], guard := none }) rfl (fun K hK => ?_) (AllReadyH.nil)
          obtain ⟨hS1, y5, y6, y7, y8, y9, hhA⟩ := hS
          obtain ⟨⟨y0, y1, y2, y3, y4⟩, k0, k1, k2, k3, k4⟩ := five_cells hhA
          have hh5 := five_heap hhA (.int .u64 (gnu : Int)) (.int .u64 (gid : Int)) (.int .i64 (go : Int)) (.int .i64 (gt : Int)) (.string ⟨([] : List UInt8).toArray⟩)
          have hB5 := hS1.trans (below_gb (five_gb w107 gA (.int .u64 (gnu : Int)) (.int .u64 (gid : Int)) (.int .i64 (go : Int)) (.int .i64 (gt : Int)) (.string ⟨([] : List UInt8).toArray⟩)) (Below.size hS1) hgB)
          go_simp
          refine hK.out _ _ ⟨hB5, _, _, _, _, _, hh5⟩ (fun _ => ?_)
          clear hK K
          try simp only [Act.put, List.setIfInBounds_toArray, List.set_cons_zero, List.set_cons_succ]
          refine wpAnyH_done (by kernel_rfl) ?_ _
          go_wp2_with fail
          go_meet
          exact ⟨gA, rfl, hgB, hh5, hB5⟩
      · go_simp
        obtain ⟨gA, hgA⟩ : ∃ g, g = (w101).heap.size := ⟨_, rfl⟩
        have hhA : (w101.alloc (.cells #[.int .u64 0, .int .u64 0, .int .i64 0, .int .i64 0, .string ⟨([] : List UInt8).toArray⟩] 100)).heap[gA]? = some (.cells #[.int .u64 0, .int .u64 0, .int .i64 0, .int .i64 0, .string ⟨([] : List UInt8).toArray⟩] 100 (0, 0)) := by rw [hgA]; exact alloc_new _ _
        have hBA : (fun W => Below w1.heap.size w1 W) (w101.alloc (.cells #[.int .u64 0, .int .u64 0, .int .i64 0, .int .i64 0, .string ⟨([] : List UInt8).toArray⟩] 100)) := Below.alloc hS (Below.size hS) _
        have hgB : (w1).heap.size ≤ gA := by rw [hgA]; exact Below.size hS
        refine hK.out _ _ hBA (fun _ => ?_)
        clear hK K
        try simp only [Act.put, List.setIfInBounds_toArray, List.set_cons_zero, List.set_cons_succ]
        simp only [← hgA]
        clear hgA
        generalize w101.alloc (.cells #[.int .u64 0, .int .u64 0, .int .i64 0, .int .i64 0, .string ⟨([] : List UInt8).toArray⟩] 100) = wA at *
        refine wpAnyH_stronger (S' := fun W => Below w1.heap.size w1 W ∧ ∃ a b c d e, W.heap[gA]? = some (.cells #[a, b, c, d, e] 100 (0, 0))) (fun _ h => h.1) _ _ _ _ ?_
        clear hS
        have hS : (fun W => Below w1.heap.size w1 W ∧ ∃ a b c d e, W.heap[gA]? = some (.cells #[a, b, c, d, e] 100 (0, 0))) wA := ⟨hBA, _, _, _, _, _, hhA⟩
        clear hhA
        refine wpAnyH_ready (rs := [3]) (by kernel_rfl) (by simp) ?_
        refine AllReadyH.cons (o := { dst := some 30, op := Op.call { callee := Callee.value (Operand.func 110), args := #[Operand.tmp 29, Operand.const (Value.int IntKind.i64 5), Operand.const (Value.int IntKind.i64 4)], argTypes := #[53, 3, 3] }, type := 22, pos := "frame.go:66", after := #[{ on := 2, ground := Ground.data }, { on := 1, ground := Ground.chain }], guard := none }) rfl (fun K hK => ?_) (AllReadyH.nil)
        have p0 := cell_below hS.1 q0
        go_simp
        refine (G2 _ (hx.below hS.1)).out.mono ?_
        rintro e w103 ⟨rfl, hb⟩
        replace hS : (fun W => Below w1.heap.size w1 W ∧ ∃ a b c d e, W.heap[gA]? = some (.cells #[a, b, c, d, e] 100 (0, 0))) w103 := ⟨below_then hS.1 hb (Below.size hS.1), by obtain ⟨_, a, b, c, d, e, hh⟩ := hS; exact ⟨a, b, c, d, e, heap_below hb hh⟩⟩
        refine hK.out _ _ hS (fun _ => ?_)
        clear hK K hb
        try simp only [Act.put, List.setIfInBounds_toArray, List.set_cons_zero, List.set_cons_succ]
        refine wpAnyH_ready (rs := [5]) (by kernel_rfl) (by simp) ?_
        refine AllReadyH.cons (o := { dst := some 32, op := Op.call { callee := Callee.value (Operand.tmp 31), args := #[Operand.const (Value.int IntKind.i64 9), Operand.const (Value.int IntKind.i64 2)], argTypes := #[3, 3] }, type := 3, pos := "frame.go:66", after := #[{ on := 4, ground := Ground.data }, { on := 3, ground := Ground.chain }], guard := none }) rfl (fun K hK => ?_) (AllReadyH.nil)
        have p0 := cell_below hS.1 q0
        go_simp
        refine (G3 _ p0 (hx.below hS.1)).out.mono ?_
        rintro e w105 ⟨rfl, hb⟩
        replace hS : (fun W => Below w1.heap.size w1 W ∧ ∃ a b c d e, W.heap[gA]? = some (.cells #[a, b, c, d, e] 100 (0, 0))) w105 := ⟨below_then hS.1 hb (Below.size hS.1), by obtain ⟨_, a, b, c, d, e, hh⟩ := hS; exact ⟨a, b, c, d, e, heap_below hb hh⟩⟩
        refine hK.out _ _ hS (fun _ => ?_)
        clear hK K hb
        try simp only [Act.put, List.setIfInBounds_toArray, List.set_cons_zero, List.set_cons_succ]
        refine wpAnyH_ready (rs := [7]) (by kernel_rfl) (by simp) ?_
        refine AllReadyH.cons (o := { dst := some 34, op := Op.call { callee := Callee.value (Operand.tmp 33), args := #[Operand.const (Value.int IntKind.i64 11), Operand.const (Value.int IntKind.i64 2)], argTypes := #[3, 3] }, type := 3, pos := "frame.go:66", after := #[{ on := 6, ground := Ground.data }, { on := 5, ground := Ground.chain }], guard := none }) rfl (fun K hK => ?_) (AllReadyH.nil)
        have p0 := cell_below hS.1 q0
        go_simp
        refine (G4 _ p0 (hx.below hS.1)).out.mono ?_
        rintro e w107 ⟨rfl, hb⟩
        replace hS : (fun W => Below w1.heap.size w1 W ∧ ∃ a b c d e, W.heap[gA]? = some (.cells #[a, b, c, d, e] 100 (0, 0))) w107 := ⟨below_then hS.1 hb (Below.size hS.1), by obtain ⟨_, a, b, c, d, e, hh⟩ := hS; exact ⟨a, b, c, d, e, heap_below hb hh⟩⟩
        refine hK.out _ _ hS (fun _ => ?_)
        clear hK K hb
        try simp only [Act.put, List.setIfInBounds_toArray, List.set_cons_zero, List.set_cons_succ]
        refine wpAnyH_take (i := 8) (oi := { dst := some 35, op := Op.build 100 #[(0, Operand.tmp 28), (1, Operand.tmp 30), (2, Operand.tmp 32), (3, Operand.tmp 34)], type := 100, pos := "frame.go:66", after := #[{ on := 1, ground := Ground.data }, { on := 3, ground := Ground.data }, { on := 5, ground := Ground.data }, { on := 7, ground := Ground.data }], guard := none }) (v := ?_) rfl (by kernel_rfl) (by kernel_rfl) (by kernel_rfl) (fun _ _ _ h => h) (Or.inl ⟨by rfl, ?_⟩) (by assumption) ?_
        rotate_left
        · (intro wS hS; go_simp <;> with_reducible rfl)
        try simp only [Act.put, List.setIfInBounds_toArray, List.set_cons_zero, List.set_cons_succ]
        refine wpAnyH_ready (rs := [10]) (by kernel_rfl) (by simp) ?_
        refine AllReadyH.cons (o := { dst := none, op := Op.store 100 (Operand.tmp 6) (Operand.tmp 35), type := 0, pos := "frame.go:66", after := #[{ on := 9, ground := Ground.data }, { on := 8, ground := Ground.data }, { on := 7, ground := Ground.chain }, { on := 0, ground := Ground.phase }, { on := 1, ground := Ground.phase }, { on := 2, ground := Ground.phase }, { on := 3, ground := Ground.phase }, { on := 4, ground := Ground.phase }, { on := 5, ground := Ground.phase }, { on := 6, ground := Ground.phase }, { on := 7, ground := Ground.phase }, { on := 8, ground := Ground.phase }, { on := 9, ground := Ground.phase }], guard := none }) rfl (fun K hK => ?_) (AllReadyH.nil)
        obtain ⟨hS1, y5, y6, y7, y8, y9, hhA⟩ := hS
        obtain ⟨⟨y0, y1, y2, y3, y4⟩, k0, k1, k2, k3, k4⟩ := five_cells hhA
        have hh5 := five_heap hhA (.int .u64 (gnu : Int)) (.int .u64 (gid : Int)) (.int .i64 (go : Int)) (.int .i64 (gt : Int)) (.string ⟨([] : List UInt8).toArray⟩)
        have hB5 := hS1.trans (below_gb (five_gb w107 gA (.int .u64 (gnu : Int)) (.int .u64 (gid : Int)) (.int .i64 (go : Int)) (.int .i64 (gt : Int)) (.string ⟨([] : List UInt8).toArray⟩)) (Below.size hS1) hgB)
        go_simp
        refine hK.out _ _ ⟨hB5, _, _, _, _, _, hh5⟩ (fun _ => ?_)
        clear hK K
        try simp only [Act.put, List.setIfInBounds_toArray, List.set_cons_zero, List.set_cons_succ]
        refine wpAnyH_done (by kernel_rfl) ?_ _
        go_wp2_with fail
        go_meet
        exact ⟨gA, rfl, hgB, hh5, hB5⟩
    · go_simp
      obtain ⟨gA, hgA⟩ : ∃ g, g = (wd).heap.size := ⟨_, rfl⟩
      have hhA : (wd.alloc (.cells #[.int .u64 0, .int .u64 0, .int .i64 0, .int .i64 0, .string ⟨([] : List UInt8).toArray⟩] 100)).heap[gA]? = some (.cells #[.int .u64 0, .int .u64 0, .int .i64 0, .int .i64 0, .string ⟨([] : List UInt8).toArray⟩] 100 (0, 0)) := by rw [hgA]; exact alloc_new _ _
      have hBA : (fun W => Below w1.heap.size w1 W) (wd.alloc (.cells #[.int .u64 0, .int .u64 0, .int .i64 0, .int .i64 0, .string ⟨([] : List UInt8).toArray⟩] 100)) := Below.alloc hS (Below.size hS) _
      have hgB : (w1).heap.size ≤ gA := by rw [hgA]; exact Below.size hS
      refine hK.out _ _ hBA (fun _ => ?_)
      clear hK K
      try simp only [Act.put, List.setIfInBounds_toArray, List.set_cons_zero, List.set_cons_succ]
      simp only [← hgA]
      clear hgA
      generalize wd.alloc (.cells #[.int .u64 0, .int .u64 0, .int .i64 0, .int .i64 0, .string ⟨([] : List UInt8).toArray⟩] 100) = wA at *
      refine wpAnyH_stronger (S' := fun W => Below w1.heap.size w1 W ∧ ∃ a b c d e, W.heap[gA]? = some (.cells #[a, b, c, d, e] 100 (0, 0))) (fun _ h => h.1) _ _ _ _ ?_
      clear hS
      have hS : (fun W => Below w1.heap.size w1 W ∧ ∃ a b c d e, W.heap[gA]? = some (.cells #[a, b, c, d, e] 100 (0, 0))) wA := ⟨hBA, _, _, _, _, _, hhA⟩
      clear hhA
      refine wpAnyH_ready (rs := [1]) (by kernel_rfl) (by simp) ?_
      refine AllReadyH.cons (o := { dst := some 28, op := Op.call { callee := Callee.value (Operand.func 110), args := #[Operand.tmp 27, Operand.const (Value.int IntKind.i64 1), Operand.const (Value.int IntKind.i64 4)], argTypes := #[53, 3, 3] }, type := 22, pos := "frame.go:66", after := #[{ on := 0, ground := Ground.data }], guard := none }) rfl (fun K hK => ?_) (AllReadyH.nil)
      have p0 := cell_below hS.1 q0
      go_simp
      refine (G1 _ (hx.below hS.1)).out.mono ?_
      rintro e w101 ⟨rfl, hb⟩
      replace hS : (fun W => Below w1.heap.size w1 W ∧ ∃ a b c d e, W.heap[gA]? = some (.cells #[a, b, c, d, e] 100 (0, 0))) w101 := ⟨below_then hS.1 hb (Below.size hS.1), by obtain ⟨_, a, b, c, d, e, hh⟩ := hS; exact ⟨a, b, c, d, e, heap_below hb hh⟩⟩
      refine hK.out _ _ hS (fun _ => ?_)
      clear hK K hb
      try simp only [Act.put, List.setIfInBounds_toArray, List.set_cons_zero, List.set_cons_succ]
      refine wpAnyH_ready (rs := [3]) (by kernel_rfl) (by simp) ?_
      refine AllReadyH.cons (o := { dst := some 30, op := Op.call { callee := Callee.value (Operand.func 110), args := #[Operand.tmp 29, Operand.const (Value.int IntKind.i64 5), Operand.const (Value.int IntKind.i64 4)], argTypes := #[53, 3, 3] }, type := 22, pos := "frame.go:66", after := #[{ on := 2, ground := Ground.data }, { on := 1, ground := Ground.chain }], guard := none }) rfl (fun K hK => ?_) (AllReadyH.nil)
      have p0 := cell_below hS.1 q0
      go_simp
      refine (G2 _ (hx.below hS.1)).out.mono ?_
      rintro e w103 ⟨rfl, hb⟩
      replace hS : (fun W => Below w1.heap.size w1 W ∧ ∃ a b c d e, W.heap[gA]? = some (.cells #[a, b, c, d, e] 100 (0, 0))) w103 := ⟨below_then hS.1 hb (Below.size hS.1), by obtain ⟨_, a, b, c, d, e, hh⟩ := hS; exact ⟨a, b, c, d, e, heap_below hb hh⟩⟩
      refine hK.out _ _ hS (fun _ => ?_)
      clear hK K hb
      try simp only [Act.put, List.setIfInBounds_toArray, List.set_cons_zero, List.set_cons_succ]
      refine wpAnyH_ready (rs := [5]) (by kernel_rfl) (by simp) ?_
      refine AllReadyH.cons (o := { dst := some 32, op := Op.call { callee := Callee.value (Operand.tmp 31), args := #[Operand.const (Value.int IntKind.i64 9), Operand.const (Value.int IntKind.i64 2)], argTypes := #[3, 3] }, type := 3, pos := "frame.go:66", after := #[{ on := 4, ground := Ground.data }, { on := 3, ground := Ground.chain }], guard := none }) rfl (fun K hK => ?_) (AllReadyH.nil)
      have p0 := cell_below hS.1 q0
      go_simp
      refine (G3 _ p0 (hx.below hS.1)).out.mono ?_
      rintro e w105 ⟨rfl, hb⟩
      replace hS : (fun W => Below w1.heap.size w1 W ∧ ∃ a b c d e, W.heap[gA]? = some (.cells #[a, b, c, d, e] 100 (0, 0))) w105 := ⟨below_then hS.1 hb (Below.size hS.1), by obtain ⟨_, a, b, c, d, e, hh⟩ := hS; exact ⟨a, b, c, d, e, heap_below hb hh⟩⟩
      refine hK.out _ _ hS (fun _ => ?_)
      clear hK K hb
      try simp only [Act.put, List.setIfInBounds_toArray, List.set_cons_zero, List.set_cons_succ]
      refine wpAnyH_ready (rs := [7]) (by kernel_rfl) (by simp) ?_
      refine AllReadyH.cons (o := { dst := some 34, op := Op.call { callee := Callee.value (Operand.tmp 33), args := #[Operand.const (Value.int IntKind.i64 11), Operand.const (Value.int IntKind.i64 2)], argTypes := #[3, 3] }, type := 3, pos := "frame.go:66", after := #[{ on := 6, ground := Ground.data }, { on := 5, ground := Ground.chain }], guard := none }) rfl (fun K hK => ?_) (AllReadyH.nil)
      have p0 := cell_below hS.1 q0
      go_simp
      refine (G4 _ p0 (hx.below hS.1)).out.mono ?_
      rintro e w107 ⟨rfl, hb⟩
      replace hS : (fun W => Below w1.heap.size w1 W ∧ ∃ a b c d e, W.heap[gA]? = some (.cells #[a, b, c, d, e] 100 (0, 0))) w107 := ⟨below_then hS.1 hb (Below.size hS.1), by obtain ⟨_, a, b, c, d, e, hh⟩ := hS; exact ⟨a, b, c, d, e, heap_below hb hh⟩⟩
      refine hK.out _ _ hS (fun _ => ?_)
      clear hK K hb
      try simp only [Act.put, List.setIfInBounds_toArray, List.set_cons_zero, List.set_cons_succ]
      refine wpAnyH_take (i := 8) (oi := { dst := some 35, op := Op.build 100 #[(0, Operand.tmp 28), (1, Operand.tmp 30), (2, Operand.tmp 32), (3, Operand.tmp 34)], type := 100, pos := "frame.go:66", after := #[{ on := 1, ground := Ground.data }, { on := 3, ground := Ground.data }, { on := 5, ground := Ground.data }, { on := 7, ground := Ground.data }], guard := none }) (v := ?_) rfl (by kernel_rfl) (by kernel_rfl) (by kernel_rfl) (fun _ _ _ h => h) (Or.inl ⟨by rfl, ?_⟩) (by assumption) ?_
      rotate_left
      · (intro wS hS; go_simp <;> with_reducible rfl)
      try simp only [Act.put, List.setIfInBounds_toArray, List.set_cons_zero, List.set_cons_succ]
      refine wpAnyH_ready (rs := [10]) (by kernel_rfl) (by simp) ?_
      refine AllReadyH.cons (o := { dst := none, op := Op.store 100 (Operand.tmp 6) (Operand.tmp 35), type := 0, pos := "frame.go:66", after := #[{ on := 9, ground := Ground.data }, { on := 8, ground := Ground.data }, { on := 7, ground := Ground.chain }, { on := 0, ground := Ground.phase }, { on := 1, ground := Ground.phase }, { on := 2, ground := Ground.phase }, { on := 3, ground := Ground.phase }, { on := 4, ground := Ground.phase }, { on := 5, ground := Ground.phase }, { on := 6, ground := Ground.phase }, { on := 7, ground := Ground.phase }, { on := 8, ground := Ground.phase }, { on := 9, ground := Ground.phase }], guard := none }) rfl (fun K hK => ?_) (AllReadyH.nil)
      obtain ⟨hS1, y5, y6, y7, y8, y9, hhA⟩ := hS
      obtain ⟨⟨y0, y1, y2, y3, y4⟩, k0, k1, k2, k3, k4⟩ := five_cells hhA
      have hh5 := five_heap hhA (.int .u64 (gnu : Int)) (.int .u64 (gid : Int)) (.int .i64 (go : Int)) (.int .i64 (gt : Int)) (.string ⟨([] : List UInt8).toArray⟩)
      have hB5 := hS1.trans (below_gb (five_gb w107 gA (.int .u64 (gnu : Int)) (.int .u64 (gid : Int)) (.int .i64 (go : Int)) (.int .i64 (gt : Int)) (.string ⟨([] : List UInt8).toArray⟩)) (Below.size hS1) hgB)
      go_simp
      refine hK.out _ _ ⟨hB5, _, _, _, _, _, hh5⟩ (fun _ => ?_)
      clear hK K
      try simp only [Act.put, List.setIfInBounds_toArray, List.set_cons_zero, List.set_cons_succ]
      refine wpAnyH_done (by kernel_rfl) ?_ _
      go_wp2_with fail
      go_meet
      exact ⟨gA, rfl, hgB, hh5, hB5⟩
  case rest =>
    obtain ⟨g, rfl, hgB, hh, hS⟩ := hcut
    generalize hwc : wc = w2 at *
    clear hwc
    replace hB := below_trans hB hS
    have hr2 := heap_below hS hr
    have p0 := cell_below hS q0
    replace hx := hx.below hS
    obtain ⟨⟨y0, y1, y2, y3, y4⟩, k0, k1, k2, k3, k4⟩ := five_cells hh
    obtain ⟨⟨z0, z1, z2, z3, z4⟩, f0, f1, f2, f3, f4⟩ := five_cells hr2
    have hlt2 := heap_lt hh
    clear hS hr q0
    split at hg
    · rename_i h3
      simp only [Prod.mk.injEq] at hg
      obtain ⟨rfl, rfl, rfl, rfl, rfl, rfl⟩ := hg
      rw [h3, if_neg (by decide)] at KL
      clear h3 G5
      go_wp2_with fail
      refine (KL _).out.mono ?_
      rintro e w' ⟨rfl, rfl⟩
      go_wp2_with fail
      have hh5 := five_heap hr2 (.int .u64 0) (.int .u64 0) (.int .i64 0) (.int .i64 0) (.string ⟨([] : List UInt8).toArray⟩)
      obtain ⟨⟨r0, r1, r2, r3, r4⟩, -⟩ := five_cells hh5
      refine bodyPost_ret (v := .tuple #[zfrm, .int .i64 0, .int .i64 6]) ?_ rfl ⟨rfl, HEND _ hr2 hB⟩
      simp only [five] at r0 r1 r2 r3 r4
      simp [results, Try.results67, go_sem, r0, r1, r2, r3, r4]
    rename_i h3
    have h3' : lenOk (go : Int) (gt : Int) = true := by simpa using h3
    obtain ⟨j1, j2, j3, j4⟩ := lenOk_nat.1 h3'
    rw [h3', if_pos rfl, show min 100 ((gt : Int) - (go : Int)) = ((min 100 (gt - go) : Nat) : Int) by omega] at KL
    have hl1 : 1 ≤ min 100 (gt - go) ∧ min 100 (gt - go) ≤ 100 := by omega
    have HMY : Hid (∀ k : Nat, k = min 100 (gt - go) → (gnu < 2147483648 ∧ gid < 2147483648) → MayF gnu gid go gt k) := fun k hk h => ⟨h.1, h.2, j1, j2, j3, j4, hk⟩
    generalize hl : min 100 (gt - go) = l at *
    obtain ⟨z, hz⟩ : ∃ z, z = 13 + l := ⟨_, rfl⟩
    rw [← hz] at hg
    rw [show 15 + l = z + 2 by omega] at hg
    have e1 : (13 : Int) + (l : Int) = (z : Int) := by omega
    have hzz : 14 ≤ z ∧ z ≤ 113 := by omega
    have hzl : z - 13 = l := by omega
    clear h3 h3' hl hl1
    split at hg
    · rename_i h4
      simp only [Prod.mk.injEq] at hg
      obtain ⟨rfl, rfl, rfl, rfl, rfl, rfl⟩ := hg
      have h4' : (n : Int) < (z : Int) + 2 := by omega
      clear h4 G5 hz HMY
      go_wp2_with fail
      refine (KL _).out.mono ?_
      rintro e w' ⟨rfl, rfl⟩
      go_wp2_with fail
      have hh5 := five_heap hr2 (.int .u64 0) (.int .u64 0) (.int .i64 0) (.int .i64 0) (.string ⟨([] : List UInt8).toArray⟩)
      obtain ⟨⟨r0, r1, r2, r3, r4⟩, -⟩ := five_cells hh5
      refine bodyPost_ret (v := .tuple #[zfrm, .int .i64 0, .int .i64 5]) ?_ rfl ⟨rfl, HEND _ hr2 hB⟩
      simp only [five] at r0 r1 r2 r3 r4
      simp [results, Try.results67, go_sem, r0, r1, r2, r3, r4]
    rename_i h4
    have h4' : ¬ ((n : Int) < (z : Int) + 2) := by omega
    have hzn : z + 2 ≤ n := by omega
    have G6 := G5 z
    have KS := fun W hh => Lib.hid (short_any (xs.take z) (some ad) z c W hh)
    have hcs := crcS_lt2 (xs.take z)
    have hwr := wrap_i64_small (crcS (xs.take z)) hcs
    have hcne : ¬ (c = 13) := by omega
    have hrc := hx.bsliced 13 z (by omega) (by omega)
    rw [if_neg hcne, Option.map_some, hzl, show ad.add 13 = ⟨ad.block, ad.off + 13, none⟩ from by simp [Addr.add]] at hrc
    have hdl : ((xs.drop 13).take l).length = l := by rw [List.length_take, List.length_drop]; omega
    have KC := fun W => Lib.hid (fcheck_any gnu gid (go : Int) (gt : Int) ((xs.drop 13).take l) W (by omega))
    have KZ := fun W => Lib.hid (fsize_any gnu gid (go : Int) (gt : Int) ((xs.drop 13).take l) W (by omega))
    rw [hdl] at KC KZ
    generalize crcS (xs.take z) = cs at *
    generalize getN xs (z : Int) 2 = sm at *
    generalize hd0 : (xs.drop 13).take l = d0 at *
    have hzc : z ≤ c := by omega
    clear h4 G5 hz
    go_wp2_with fail
    refine (KL _).out.mono ?_
    rintro e w' ⟨rfl, rfl⟩
    go_wp2_with fail
    clear KL
    refine wp_region_held (S := fun W => Below (w2).heap.size (w2) W) (by kernel_rfl) ?_
    change wpAnyH _ _ _ _ _ _ _ _ (w2).drew
    have hS : (fun W => Below (w2).heap.size (w2) W) (w2).drew := (Below.refl _ _).drew
    refine wpAnyH_take (i := 0) (oi := { dst := some 63, op := Op.move (Operand.tmp 5), type := 152, pos := "frame.go:73", after := #[], guard := none }) (v := ?_) rfl (by kernel_rfl) (by kernel_rfl) (by kernel_rfl) (fun _ _ _ h => h) (Or.inl ⟨by rfl, ?_⟩) (by assumption) ?_
    rotate_left
    · (intro wS hS; go_simp <;> with_reducible rfl)
    try simp only [Act.put, List.setIfInBounds_toArray, List.set_cons_zero, List.set_cons_succ]
    refine wpAnyH_take (i := 1) (oi := { dst := some 64, op := Op.move (Operand.tmp 9), type := 3, pos := "frame.go:73", after := #[], guard := none }) (v := ?_) rfl (by kernel_rfl) (by kernel_rfl) (by kernel_rfl) (fun _ _ _ h => h) (Or.inl ⟨by rfl, ?_⟩) (by assumption) ?_
    rotate_left
    · (intro wS hS; go_simp <;> with_reducible rfl)
    try simp only [Act.put, List.setIfInBounds_toArray, List.set_cons_zero, List.set_cons_succ]
    refine wpAnyH_take (i := 3) (oi := { dst := some 66, op := Op.load 53 (Operand.tmp 1), type := 53, pos := "frame.go:73", after := #[], guard := none }) (v := ?_) rfl (by kernel_rfl) (by kernel_rfl) (by kernel_rfl) (fun _ _ _ h => h) (Or.inl ⟨by rfl, ?_⟩) (by assumption) ?_
    rotate_left
    · (intro wS hS; have p0 := cell_below hS p0; go_simp <;> with_reducible rfl)
    try simp only [Act.put, List.setIfInBounds_toArray, List.set_cons_zero, List.set_cons_succ]
    refine wpAnyH_take (i := 4) (oi := { dst := some 67, op := Op.move (Operand.tmp 9), type := 3, pos := "frame.go:73", after := #[], guard := none }) (v := ?_) rfl (by kernel_rfl) (by kernel_rfl) (by kernel_rfl) (fun _ _ _ h => h) (Or.inl ⟨by rfl, ?_⟩) (by assumption) ?_
    rotate_left
    · (intro wS hS; go_simp <;> with_reducible rfl)
    try simp only [Act.put, List.setIfInBounds_toArray, List.set_cons_zero, List.set_cons_succ]
    refine wpAnyH_take (i := 5) (oi := { dst := some 68, op := Op.slice 53 (Operand.tmp 66) none (some (Operand.tmp 67)) none, type := 53, pos := "frame.go:73", after := #[{ on := 3, ground := Ground.data }, { on := 4, ground := Ground.data }], guard := none }) (v := ?_) rfl (by kernel_rfl) (by kernel_rfl) (by kernel_rfl) (fun _ _ _ h => h) (Or.inl ⟨by rfl, ?_⟩) (by assumption) ?_
    rotate_left
    · (intro wS hS; go_simp <;> with_reducible rfl)
    try simp only [Act.put, List.setIfInBounds_toArray, List.set_cons_zero, List.set_cons_succ]
    refine wpAnyH_ready (rs := [2]) (by kernel_rfl) (by simp) ?_
    refine AllReadyH.cons (o := { dst := some 65, op := Op.call { callee := Callee.value (Operand.tmp 63), args := #[Operand.tmp 64, Operand.const (Value.int IntKind.i64 2)], argTypes := #[3, 3] }, type := 3, pos := "frame.go:73", after := #[{ on := 0, ground := Ground.data }, { on := 1, ground := Ground.data }], guard := none }) rfl (fun K hK => ?_) AllReadyH.nil
    go_simp
    refine (G6 _ (cell_below hS p0) (hx.below hS)).out.mono ?_
    rintro e w102 ⟨rfl, hb⟩
    replace hS : (fun W => Below (w2).heap.size (w2) W) w102 := below_then hS hb (Below.size hS)
    refine hK.out _ _ hS (fun _ => ?_)
    clear hK K hb
    try simp only [Act.put, List.setIfInBounds_toArray, List.set_cons_zero, List.set_cons_succ]
    refine wpAnyH_ready (rs := [6]) (by kernel_rfl) (by simp) ?_
    refine AllReadyH.cons (o := { dst := some 69, op := Op.call { callee := Callee.value (Operand.func 112), args := #[Operand.tmp 68], argTypes := #[53] }, type := 154, pos := "frame.go:73", after := #[{ on := 5, ground := Ground.data }, { on := 2, ground := Ground.chain }], guard := none }) rfl (fun K hK => ?_) AllReadyH.nil
    go_simp
    refine (KS _ ((hx.btake z (by omega)).below hS)).out.mono ?_
    rintro e w106 ⟨rfl, hb⟩
    replace hS : (fun W => Below (w2).heap.size (w2) W) w106 := below_then hS hb (Below.size hS)
    refine hK.out _ _ hS (fun _ => ?_)
    clear hK K hb
    try simp only [Act.put, List.setIfInBounds_toArray, List.set_cons_zero, List.set_cons_succ]
    refine wpAnyH_take (i := 7) (oi := { dst := some 70, op := Op.convert 154 3 (Operand.tmp 69), type := 3, pos := "frame.go:73", after := #[{ on := 6, ground := Ground.data }], guard := none }) (v := ?_) rfl (by kernel_rfl) (by kernel_rfl) (by kernel_rfl) (fun _ _ _ h => h) (Or.inl ⟨by rfl, ?_⟩) (by assumption) ?_
    rotate_left
    · (intro wS hS; go_simp <;> with_reducible rfl)
    try simp only [Act.put, List.setIfInBounds_toArray, List.set_cons_zero, List.set_cons_succ]
    refine wpAnyH_take (i := 8) (oi := { dst := some 71, op := Op.binOp BinOp.neq 3 (Operand.tmp 65) (Operand.tmp 70) 3, type := 4, pos := "frame.go:73", after := #[{ on := 2, ground := Ground.data }, { on := 7, ground := Ground.data }], guard := none }) (v := ?_) rfl (by kernel_rfl) (by kernel_rfl) (by kernel_rfl) (fun _ _ _ h => h) (Or.inl ⟨by rfl, ?_⟩) (by assumption) ?_
    rotate_left
    · (intro wS hS; go_simp <;> with_reducible rfl)
    try simp only [Act.put, List.setIfInBounds_toArray, List.set_cons_zero, List.set_cons_succ]
    refine wpAnyH_take (i := 9) (oi := { dst := some 62, op := Op.assign (Operand.tmp 71), type := 4, pos := "frame.go:73", after := #[{ on := 8, ground := Ground.data }, { on := 6, ground := Ground.chain }], guard := none }) (v := ?_) rfl (by kernel_rfl) (by kernel_rfl) (by kernel_rfl) (fun _ _ _ h => h) (Or.inl ⟨by rfl, ?_⟩) (by assumption) ?_
    rotate_left
    · (intro wS hS; go_simp <;> with_reducible rfl)
    try simp only [Act.put, List.setIfInBounds_toArray, List.set_cons_zero, List.set_cons_succ]
    refine wpAnyH_done (by kernel_rfl) ?_ _
    replace hB := hB.trans (below_of hS (Nat.le_of_lt (by omega)))
    have hr3 := heap_below hS hr2
    have hh3 := heap_below hS hh
    have p3 := cell_below hS p0
    have hrc3 := hrc.below hS
    obtain ⟨⟨y0, y1, y2, y3, y4⟩, k0, k1, k2, k3, k4⟩ := five_cells hh3
    obtain ⟨⟨z0, z1, z2, z3, z4⟩, f0, f1, f2, f3, f4⟩ := five_cells hr3
    have hlt3 := heap_lt hh3
    clear hS hr2 hh p0 hrc hx G6 KS
    split at hg
    · rename_i h5
      simp only [Prod.mk.injEq] at hg
      obtain ⟨rfl, rfl, rfl, rfl, rfl, rfl⟩ := hg
      have h5' : ((sm : Int) != cs) = true := by rw [bne_iff_ne]; omega
      clear h5
      go_wp2_with fail
      have hh5 := five_heap hr3 (.int .u64 0) (.int .u64 0) (.int .i64 0) (.int .i64 0) (.string ⟨([] : List UInt8).toArray⟩)
      obtain ⟨⟨r0, r1, r2, r3, r4⟩, -⟩ := five_cells hh5
      refine bodyPost_ret (v := .tuple #[zfrm, .int .i64 0, .int .i64 7]) ?_ rfl ⟨rfl, HEND _ hr3 hB⟩
      simp only [five] at r0 r1 r2 r3 r4
      simp [results, Try.results67, go_sem, r0, r1, r2, r3, r4]
    rename_i h5
    have h5' : ((sm : Int) != cs) = false := by rw [bne_eq_false_iff_eq]; omega
    have hks := run_string_of (P := Try.prog) 53 9 5 Try.underlying53 Try.underlying5 Try.underlying9 hrc3
    have h13 : 13 ≤ z := by omega
    have hh4 := set_heap (o := 4) hh3 (.string ⟨d0.toArray⟩)
    have hg4 := gb_set w106 g 4 (.string ⟨d0.toArray⟩)
    have hr4 := gb_heap hg4 hr3 (by simp; omega)
    have hB4 := below_gbw hg4 hB (by omega)
    obtain ⟨⟨v0, v1, v2, v3, v4⟩, -⟩ := five_cells (a := .int .u64 gnu) (b := .int .u64 gid) (c := .int .i64 go) (d := .int .i64 gt) (e := .string ⟨d0.toArray⟩) hh4
    clear h5
    go_wp2_with fail
    generalize hW4 : w106.setCell ⟨g, 4, none⟩ (.string ⟨d0.toArray⟩) = w4 at *
    clear hks hW4 hg4 hr3 hh3 hrc3 p3 y0 y1 y2 y3 y4 z0 z1 z2 z3 z4 k0 k1 k2 k3 k4 f0 f1 f2 f3 f4 hB hlt2 hlt3 hb0
    split at hg
    · rename_i h6
      simp only [Prod.mk.injEq] at hg
      obtain ⟨rfl, rfl, rfl, rfl, rfl, rfl⟩ := hg
      rw [mayF_no (by omega), if_neg (by decide)] at KC
      refine (KC _).out.mono ?_
      rintro e w5 ⟨rfl, hb⟩
      have hr5 := heap_below hb hr4
      have hB5 := below_trans hB4 hb
      obtain ⟨⟨z0, z1, z2, z3, z4⟩, f0, f1, f2, f3, f4⟩ := five_cells hr5
      clear h6 hb hr4 hB4 KZ KC v0 v1 v2 v3 v4
      go_wp2_with fail
      have hh5 := five_heap hr5 (.int .u64 0) (.int .u64 0) (.int .i64 0) (.int .i64 0) (.string ⟨([] : List UInt8).toArray⟩)
      obtain ⟨⟨r0, r1, r2, r3, r4⟩, -⟩ := five_cells hh5
      refine bodyPost_ret (v := .tuple #[zfrm, .int .i64 0, .int .i64 6]) ?_ rfl ⟨rfl, HEND _ hr5 hB5⟩
      simp only [five] at r0 r1 r2 r3 r4
      simp [results, Try.results67, go_sem, r0, r1, r2, r3, r4]
    rename_i h6
    simp only [Prod.mk.injEq] at hg
    obtain ⟨rfl, rfl, rfl, rfl, rfl, rfl⟩ := hg
    have hmy := HMY.out l rfl (by omega)
    rw [mayF_of hmy, if_pos rfl] at KC KZ
    refine (KC _).out.mono ?_
    rintro e w5 ⟨rfl, hb⟩
    have hr5 := heap_below hb hr4
    have hh5 := heap_below hb hh4
    have hB5 := below_trans hB4 hb
    have hsz : w.heap.size + 1 < w5.heap.size := heap_lt hr5
    have hgne : w.heap.size + 1 < g := by omega
    clear h6 hb hr4 hh4 hB4 KC v0 v1 v2 v3 v4 hmy HMY
    go_wp2_with fail
    refine wp_region_held (S := fun W => Below w.heap.size w5 W ∧ W.heap[g]? = some (.cells (frmCs gnu gid go gt d0) 100 (0, 0)) ∧ ∃ a b c d e, W.heap[w.heap.size + 1]? = some (.cells #[a, b, c, d, e] 100 (0, 0))) (by kernel_rfl) ?_
    change wpAnyH _ _ _ _ _ _ _ _ (w5).drew
    have hS : (fun W => Below w.heap.size w5 W ∧ W.heap[g]? = some (.cells (frmCs gnu gid go gt d0) 100 (0, 0)) ∧ ∃ a b c d e, W.heap[w.heap.size + 1]? = some (.cells #[a, b, c, d, e] 100 (0, 0))) (w5).drew := ⟨below_drewN (Below.refl _ _) 1, hh5, _, _, _, _, _, hr5⟩
    generalize (w5).drew = wd at hS ⊢
    refine wpAnyH_take (i := 0) (oi := { dst := some 77, op := Op.load 100 (Operand.tmp 6), type := 100, pos := "frame.go:81", after := #[], guard := none }) (v := ?_) rfl (by kernel_rfl) (by kernel_rfl) (by kernel_rfl) (fun _ _ _ h => h) (Or.inl ⟨by rfl, ?_⟩) (by assumption) ?_
    rotate_left
    · (intro wS hS; obtain ⟨⟨v0, v1, v2, v3, v4⟩, -⟩ := five_cells hS.2.1; go_simp <;> with_reducible rfl)
    try simp only [Act.put, List.setIfInBounds_toArray, List.set_cons_zero, List.set_cons_succ]
    refine wpAnyH_take (i := 1) (oi := { dst := some 78, op := Op.load 100 (Operand.tmp 6), type := 100, pos := "frame.go:81", after := #[], guard := none }) (v := ?_) rfl (by kernel_rfl) (by kernel_rfl) (by kernel_rfl) (fun _ _ _ h => h) (Or.inl ⟨by rfl, ?_⟩) (by assumption) ?_
    rotate_left
    · (intro wS hS; obtain ⟨⟨v0, v1, v2, v3, v4⟩, -⟩ := five_cells hS.2.1; go_simp <;> with_reducible rfl)
    try simp only [Act.put, List.setIfInBounds_toArray, List.set_cons_zero, List.set_cons_succ]
    refine wpAnyH_ready (rs := [2]) (by kernel_rfl) (by simp) ?_
    refine AllReadyH.cons (o := { dst := some 79, op := Op.call { callee := Callee.value (Operand.func 113), args := #[Operand.tmp 78], argTypes := #[100] }, type := 3, pos := "frame.go:81", after := #[{ on := 1, ground := Ground.data }], guard := none }) rfl (fun K hK => ?_) (AllReadyH.nil)
    obtain ⟨⟨v0, v1, v2, v3, v4⟩, -⟩ := five_cells hS.2.1
    go_simp
    refine (KZ _).out.mono ?_
    rintro e w102 ⟨rfl, hb⟩
    replace hS : (fun W => Below w.heap.size w5 W ∧ W.heap[g]? = some (.cells (frmCs gnu gid go gt d0) 100 (0, 0)) ∧ ∃ a b c d e, W.heap[w.heap.size + 1]? = some (.cells #[a, b, c, d, e] 100 (0, 0))) w102 := ⟨below_then hS.1 hb (Nat.le_trans (Nat.le_of_lt (by omega)) (Below.size hS.1)), heap_below hb hS.2.1, by obtain ⟨_, _, a, b, c, d, e, hh⟩ := hS; exact ⟨a, b, c, d, e, heap_below hb hh⟩⟩
    refine hK.out _ _ hS (fun _ => ?_)
    clear hK K hb
    try simp only [Act.put, List.setIfInBounds_toArray, List.set_cons_zero, List.set_cons_succ]
    refine wpAnyH_ready (rs := [3]) (by kernel_rfl) (by simp) ?_
    refine AllReadyH.cons (o := { dst := none, op := Op.store 100 (Operand.tmp 2) (Operand.tmp 77), type := 0, pos := "frame.go:81", after := #[{ on := 0, ground := Ground.data }, { on := 2, ground := Ground.chain }, { on := 0, ground := Ground.phase }, { on := 1, ground := Ground.textOnly Departure.lateStores }, { on := 2, ground := Ground.textOnly Departure.lateStoresUnsure }], guard := none }) rfl (fun K hK => ?_) (AllReadyH.nil)
    obtain ⟨hS1, hhg, x5, x6, x7, x8, x9, hhr⟩ := hS
    obtain ⟨⟨y0, y1, y2, y3, y4⟩, k0, k1, k2, k3, k4⟩ := five_cells hhr
    have hh6 := five_heap hhr (.int .u64 (gnu : Int)) (.int .u64 (gid : Int)) (.int .i64 (go : Int)) (.int .i64 (gt : Int)) (.string ⟨d0.toArray⟩)
    have hG6 := five_gb w102 (w.heap.size + 1) (.int .u64 (gnu : Int)) (.int .u64 (gid : Int)) (.int .i64 (go : Int)) (.int .i64 (gt : Int)) (.string ⟨d0.toArray⟩)
    have hB6 := hS1.trans (below_gb hG6 (Nat.le_trans (Nat.le_of_lt (by omega)) (Below.size hS1)) (by omega))
    have hhg6 := gb_heap hG6 hhg (by simp; omega)
    go_simp
    refine hK.out _ _ ⟨hB6, hhg6, _, _, _, _, _, hh6⟩ (fun _ => ?_)
    clear hK K
    try simp only [Act.put, List.setIfInBounds_toArray, List.set_cons_zero, List.set_cons_succ]
    refine wpAnyH_take (i := 4) (oi := { dst := some 3, op := Op.assign (Operand.tmp 79), type := 3, pos := "frame.go:81", after := #[{ on := 2, ground := Ground.data }, { on := 3, ground := Ground.chain }, { on := 0, ground := Ground.phase }, { on := 1, ground := Ground.phase }, { on := 2, ground := Ground.phase }, { on := 3, ground := Ground.phase }], guard := none }) (v := ?_) rfl (by kernel_rfl) (by kernel_rfl) (by kernel_rfl) (fun _ _ _ h => h) (Or.inl ⟨by rfl, ?_⟩) (by assumption) ?_
    rotate_left
    · (intro wS hS; go_simp <;> with_reducible rfl)
    try simp only [Act.put, List.setIfInBounds_toArray, List.set_cons_zero, List.set_cons_succ]
    refine wpAnyH_take (i := 5) (oi := { dst := some 4, op := Op.assign (Operand.const (Value.int IntKind.i64 0)), type := 25, pos := "frame.go:81", after := #[{ on := 4, ground := Ground.chain }, { on := 0, ground := Ground.phase }, { on := 1, ground := Ground.phase }, { on := 2, ground := Ground.phase }, { on := 3, ground := Ground.phase }, { on := 4, ground := Ground.phase }], guard := none }) (v := ?_) rfl (by kernel_rfl) (by kernel_rfl) (by kernel_rfl) (fun _ _ _ h => h) (Or.inl ⟨by rfl, ?_⟩) (by assumption) ?_
    rotate_left
    · (intro wS hS; go_simp <;> with_reducible rfl)
    try simp only [Act.put, List.setIfInBounds_toArray, List.set_cons_zero, List.set_cons_succ]
    refine wpAnyH_done (by kernel_rfl) ?_ _
    go_wp2_with fail
    obtain ⟨⟨r0, r1, r2, r3, r4⟩, -⟩ := five_cells hh6
    refine bodyPost_ret (v := .tuple #[frm gnu gid (go : Int) (gt : Int) d0, .int .i64 (15 + (l : Int)), .int .i64 0]) ?_ rfl ⟨?_, hB5.trans hB6⟩
    · simp only [five] at r0 r1 r2 r3 r4
      simp [results, Try.results67, go_sem, r0, r1, r2, r3, r4]
    · rfl
end Go.Proofs.Ytefipigdkdopcaa
