/- The law FrameTurned of layer 32 (frame), walked. -/
import Derived.Test.YthkabhejfkekjaaFrame9
import Derived.Test.YthkabhejfkekjaaFrame6
import Derived.Test.YthkabhejfkekjaaFrameSame
import Derived.Test.YthkabhejfkekjaaFrameMay
import Derived.Test.YthkabhejfkekjaaCrcLaw
import Derived.Test.YthkabhejfkekjaaHeld
import Derived.Deep.DeepCutAuto
namespace Go.Proofs.Ythkabhejfkekjaa
open Go.RowKit

theorem rd_set {w : World} {g n c j : Nat} {xs : List UInt8} {nb : UInt8} (h : RdB w (some ⟨g, 0, none⟩) n c xs) (hj : j < n) : RdB (w.setCell ⟨g, j, none⟩ (.int .u8 (nb.toNat : Int))) (some ⟨g, 0, none⟩) n c (xs.set j nb) := by
  have hl := h.blen
  refine ⟨by rw [bs_length, List.length_set]; omega, h.nc, h.cm, fun e => (by cases e), fun ad e i u hu => ?_⟩
  cases e
  have hi : i < n := by
    have := (List.getElem?_eq_some_iff.1 hu).1
    rw [bs_length, List.length_set] at this; omega
  rw [add_plain0]
  have hc := h.bcell i hi
  rw [add_plain0] at hc
  rw [bs_get _ _ (by rw [List.length_set]; omega)] at hu
  by_cases hij : j = i
  · subst hij
    rw [World.cell?_setCell_same _ _ _ hc, ← hu, List.getElem_set_self]
  · rw [World.cell?_setCell_other _ _ _ _ (fun e => hij (by cases e; rfl)), hc, ← hu, List.getElem_set_ne hij, List.getD_eq_getElem?_getD, List.getElem?_eq_getElem (by omega)]
    rfl
theorem bytesWorld_thaw (w : World) (e : TypeId) (s : ByteArray) (j : Nat) (hj : j < s.size) : (Lib.bytesWorld w e s).frozen? ⟨w.heap.size, j, none⟩ = false := by
  have h := Lib.bytesWorld_at_new w e s
  have hs : s.size ≤ (Lib.bytesCells w e s).size := by
    unfold Lib.bytesCells
    rw [Array.size_append, Array.size_map]
    exact Nat.le_add_right _ _
  unfold World.frozen?
  rw [h]
  simp; omega

set_option maxRecDepth 100000 in
set_option maxHeartbeats 4000000 in
theorem frameturned_law (nu id : Nat) (o t : Int) (d : List UInt8) (at_ : Nat) (fs gs : List Fr) (A B : Option Addr) (n c m k : Nat) (w : World) (hx : Rd w A n c 5 (frCs fs)) (hy : Rd w B m k 5 (frCs gs)) (hd : d.length ≤ maxLen) (hat : at_ < 65536) :
    Calls Try.prog 15 #[.agg #[.int .u64 (nu : Int), .int .u64 (id : Int), .int .i64 o, .int .i64 t, .string ⟨d.toArray⟩, .int .u16 (at_ : Int), .slice A n c, .slice B m k]] w fun e w' => e = .returned (.bool true) ∧ Below w.heap.size w w' := by
  obtain ⟨hB, hca⟩ := one_cells w #[.int .u64 (nu : Int), .int .u64 (id : Int), .int .i64 o, .int .i64 t, .string ⟨d.toArray⟩, .int .u16 (at_ : Int), .slice A n c, .slice B m k] 86
  have c0 := hca 0 (.int .u64 (nu : Int)) rfl
  have c1 := hca 1 (.int .u64 (id : Int)) rfl
  have c2 := hca 2 (.int .i64 o) rfl
  have c3 := hca 3 (.int .i64 t) rfl
  have c4 := hca 4 (.string ⟨d.toArray⟩) rfl
  have c5 := hca 5 (.int .u16 (at_ : Int)) rfl
  have c6 := hca 6 (.slice A n c) rfl
  have c7 := hca 7 (.slice B m k) rfl
  have hm1 := hx.cm
  have hm2 := hy.cm
  have hn1 := hx.nc
  have hn2 := hy.nc
  unfold maxLen at hm1 hm2 hd
  clear hca
  replace hx := hx.below hB
  replace hy := hy.below hB
  go_enter Try.func15, Try.ntmps15
  go_wp2_with fail
  generalize w.alloc (.cells #[.int .u64 (nu : Int), .int .u64 (id : Int), .int .i64 o, .int .i64 t, .string ⟨d.toArray⟩, .int .u16 (at_ : Int), .slice A n c, .slice B m k] 86) = w0 at *
  refine wp_region_held (S := fun W => Below w0.heap.size w0 W) (by kernel_rfl) ?_
  change wpAnyH _ _ _ _ _ _ _ _ (w0).drew
  have hS : (fun W => Below w0.heap.size w0 W) (w0).drew := (Below.refl _ _).drew
  generalize (w0).drew = wd at hS ⊢
  refine wpAnyH_take (i := 0) (oi := { dst := some 12, op := Op.fieldAddr 86 (Operand.tmp 1) 0, type := 0, pos := "law.go:89", after := #[], guard := none }) (v := ?_) rfl (by kernel_rfl) (by kernel_rfl) (by kernel_rfl) (fun _ _ _ h => h) (Or.inl ⟨by rfl, ?_⟩) (by assumption) ?_
  rotate_left
  · (intro wS hS; go_simp <;> with_reducible rfl)
  try simp only [Act.put, List.setIfInBounds_toArray, List.set_cons_zero, List.set_cons_succ]
  refine wpAnyH_take (i := 1) (oi := { dst := some 13, op := Op.load 66 (Operand.tmp 12), type := 66, pos := "law.go:89", after := #[{ on := 0, ground := Ground.data }], guard := none }) (v := ?_) rfl (by kernel_rfl) (by kernel_rfl) (by kernel_rfl) (fun _ _ _ h => h) (Or.inl ⟨by rfl, ?_⟩) (by assumption) ?_
  rotate_left
  · (intro wS hS; have p0 := cell_below hS c0; have p1 := cell_below hS c1; have p2 := cell_below hS c2; have p3 := cell_below hS c3; have p4 := cell_below hS c4; have p5 := cell_below hS c5; have p6 := cell_below hS c6; have p7 := cell_below hS c7; go_simp <;> with_reducible rfl)
  try simp only [Act.put, List.setIfInBounds_toArray, List.set_cons_zero, List.set_cons_succ]
  refine wpAnyH_take (i := 2) (oi := { dst := some 14, op := Op.fieldAddr 86 (Operand.tmp 1) 1, type := 0, pos := "law.go:89", after := #[{ on := 9, ground := Ground.gcOnly Departure.lateStores }], guard := none }) (v := ?_) rfl (by kernel_rfl) (by kernel_rfl) (by kernel_rfl) (fun _ _ _ h => h) (Or.inl ⟨by rfl, ?_⟩) (by assumption) ?_
  rotate_left
  · (intro wS hS; go_simp <;> with_reducible rfl)
  try simp only [Act.put, List.setIfInBounds_toArray, List.set_cons_zero, List.set_cons_succ]
  refine wpAnyH_take (i := 3) (oi := { dst := some 15, op := Op.load 25 (Operand.tmp 14), type := 25, pos := "law.go:89", after := #[{ on := 2, ground := Ground.data }, { on := 9, ground := Ground.gcOnly Departure.lateStores }], guard := none }) (v := ?_) rfl (by kernel_rfl) (by kernel_rfl) (by kernel_rfl) (fun _ _ _ h => h) (Or.inl ⟨by rfl, ?_⟩) (by assumption) ?_
  rotate_left
  · (intro wS hS; have p0 := cell_below hS c0; have p1 := cell_below hS c1; have p2 := cell_below hS c2; have p3 := cell_below hS c3; have p4 := cell_below hS c4; have p5 := cell_below hS c5; have p6 := cell_below hS c6; have p7 := cell_below hS c7; go_simp <;> with_reducible rfl)
  try simp only [Act.put, List.setIfInBounds_toArray, List.set_cons_zero, List.set_cons_succ]
  refine wpAnyH_take (i := 4) (oi := { dst := some 16, op := Op.fieldAddr 86 (Operand.tmp 1) 2, type := 0, pos := "law.go:89", after := #[{ on := 10, ground := Ground.gcOnly Departure.lateStores }], guard := none }) (v := ?_) rfl (by kernel_rfl) (by kernel_rfl) (by kernel_rfl) (fun _ _ _ h => h) (Or.inl ⟨by rfl, ?_⟩) (by assumption) ?_
  rotate_left
  · (intro wS hS; go_simp <;> with_reducible rfl)
  try simp only [Act.put, List.setIfInBounds_toArray, List.set_cons_zero, List.set_cons_succ]
  refine wpAnyH_take (i := 5) (oi := { dst := some 17, op := Op.load 82 (Operand.tmp 16), type := 82, pos := "law.go:89", after := #[{ on := 4, ground := Ground.data }, { on := 10, ground := Ground.gcOnly Departure.lateStores }], guard := none }) (v := ?_) rfl (by kernel_rfl) (by kernel_rfl) (by kernel_rfl) (fun _ _ _ h => h) (Or.inl ⟨by rfl, ?_⟩) (by assumption) ?_
  rotate_left
  · (intro wS hS; have p0 := cell_below hS c0; have p1 := cell_below hS c1; have p2 := cell_below hS c2; have p3 := cell_below hS c3; have p4 := cell_below hS c4; have p5 := cell_below hS c5; have p6 := cell_below hS c6; have p7 := cell_below hS c7; go_simp <;> with_reducible rfl)
  try simp only [Act.put, List.setIfInBounds_toArray, List.set_cons_zero, List.set_cons_succ]
  refine wpAnyH_take (i := 6) (oi := { dst := some 18, op := Op.fieldAddr 86 (Operand.tmp 1) 3, type := 0, pos := "law.go:89", after := #[{ on := 11, ground := Ground.gcOnly Departure.lateStores }], guard := none }) (v := ?_) rfl (by kernel_rfl) (by kernel_rfl) (by kernel_rfl) (fun _ _ _ h => h) (Or.inl ⟨by rfl, ?_⟩) (by assumption) ?_
  rotate_left
  · (intro wS hS; go_simp <;> with_reducible rfl)
  try simp only [Act.put, List.setIfInBounds_toArray, List.set_cons_zero, List.set_cons_succ]
  refine wpAnyH_take (i := 7) (oi := { dst := some 19, op := Op.load 82 (Operand.tmp 18), type := 82, pos := "law.go:89", after := #[{ on := 6, ground := Ground.data }, { on := 11, ground := Ground.gcOnly Departure.lateStores }], guard := none }) (v := ?_) rfl (by kernel_rfl) (by kernel_rfl) (by kernel_rfl) (fun _ _ _ h => h) (Or.inl ⟨by rfl, ?_⟩) (by assumption) ?_
  rotate_left
  · (intro wS hS; have p0 := cell_below hS c0; have p1 := cell_below hS c1; have p2 := cell_below hS c2; have p3 := cell_below hS c3; have p4 := cell_below hS c4; have p5 := cell_below hS c5; have p6 := cell_below hS c6; have p7 := cell_below hS c7; go_simp <;> with_reducible rfl)
  try simp only [Act.put, List.setIfInBounds_toArray, List.set_cons_zero, List.set_cons_succ]
  refine wpAnyH_ready (rs := [8]) (by kernel_rfl) (by simp) ?_
  refine AllReadyH.cons (o := { dst := some 3, op := Op.alloc 66, type := 0, pos := "law.go:89", after := #[], guard := none }) rfl (fun K hK => ?_) (AllReadyH.nil)
  go_simp
  obtain ⟨gA, hgA⟩ : ∃ g, g = (wd).heap.size := ⟨_, rfl⟩
  have hhA : (wd.alloc (.cells #[.int .u64 0, .int .u64 0, .int .i64 0, .int .i64 0, .string ⟨([] : List UInt8).toArray⟩] 66)).heap[gA]? = some (.cells #[.int .u64 0, .int .u64 0, .int .i64 0, .int .i64 0, .string ⟨([] : List UInt8).toArray⟩] 66 (0, 0)) := by rw [hgA]; exact alloc_new _ _
  have hBA : (fun W => Below w0.heap.size w0 W) (wd.alloc (.cells #[.int .u64 0, .int .u64 0, .int .i64 0, .int .i64 0, .string ⟨([] : List UInt8).toArray⟩] 66)) := Below.alloc hS (Below.size hS) _
  have hgB : (w0).heap.size ≤ gA := by rw [hgA]; exact Below.size hS
  refine hK.out _ _ hBA (fun _ => ?_)
  clear hK K
  try simp only [Act.put, List.setIfInBounds_toArray, List.set_cons_zero, List.set_cons_succ]
  simp only [← hgA]
  clear hgA
  generalize wd.alloc (.cells #[.int .u64 0, .int .u64 0, .int .i64 0, .int .i64 0, .string ⟨([] : List UInt8).toArray⟩] 66) = wA at *
  refine wpAnyH_stronger (S' := fun W => Below w0.heap.size w0 W ∧ ∃ a b c d e, W.heap[gA]? = some (.cells #[a, b, c, d, e] 66 (0, 0))) (fun _ h => h.1) _ _ _ _ ?_
  clear hS
  have hS : (fun W => Below w0.heap.size w0 W ∧ ∃ a b c d e, W.heap[gA]? = some (.cells #[a, b, c, d, e] 66 (0, 0))) wA := ⟨hBA, _, _, _, _, _, hhA⟩
  clear hhA
  refine wpAnyH_ready (rs := [9]) (by kernel_rfl) (by simp) ?_
  refine AllReadyH.cons (o := { dst := none, op := Op.store 66 (Operand.tmp 3) (Operand.tmp 13), type := 0, pos := "law.go:89", after := #[{ on := 8, ground := Ground.data }, { on := 1, ground := Ground.data }, { on := 0, ground := Ground.phase }, { on := 1, ground := Ground.phase }, { on := 2, ground := Ground.textOnly Departure.lateStores }, { on := 3, ground := Ground.textOnly Departure.lateStores }, { on := 4, ground := Ground.textOnly Departure.lateStores }, { on := 5, ground := Ground.textOnly Departure.lateStores }, { on := 6, ground := Ground.textOnly Departure.lateStores }, { on := 7, ground := Ground.textOnly Departure.lateStores }, { on := 8, ground := Ground.phase }], guard := none }) rfl (fun K hK => ?_) (AllReadyH.nil)
  obtain ⟨hS1, y5, y6, y7, y8, y9, hhA⟩ := hS
  obtain ⟨⟨y0, y1, y2, y3, y4⟩, k0, k1, k2, k3, k4⟩ := five_cells hhA
  have hh5 := five_heap hhA (.int .u64 (nu : Int)) (.int .u64 (id : Int)) (.int .i64 o) (.int .i64 t) (.string ⟨d.toArray⟩)
  have hB5 := hS1.trans (below_gb (five_gb wA gA (.int .u64 (nu : Int)) (.int .u64 (id : Int)) (.int .i64 o) (.int .i64 t) (.string ⟨d.toArray⟩)) (Below.size hS1) hgB)
  go_simp
  refine hK.out _ _ ⟨hB5, _, _, _, _, _, hh5⟩ (fun _ => ?_)
  clear hK K
  try simp only [Act.put, List.setIfInBounds_toArray, List.set_cons_zero, List.set_cons_succ]
  refine wpAnyH_take (i := 10) (oi := { dst := some 4, op := Op.assign (Operand.tmp 15), type := 25, pos := "law.go:89", after := #[{ on := 3, ground := Ground.data }, { on := 9, ground := Ground.chain }, { on := 0, ground := Ground.phase }, { on := 1, ground := Ground.phase }, { on := 2, ground := Ground.phase }, { on := 3, ground := Ground.phase }, { on := 4, ground := Ground.textOnly Departure.lateStores }, { on := 5, ground := Ground.textOnly Departure.lateStores }, { on := 6, ground := Ground.textOnly Departure.lateStores }, { on := 7, ground := Ground.textOnly Departure.lateStores }, { on := 8, ground := Ground.phase }, { on := 9, ground := Ground.phase }], guard := none }) (v := ?_) rfl (by kernel_rfl) (by kernel_rfl) (by kernel_rfl) (fun _ _ _ h => h) (Or.inl ⟨by rfl, ?_⟩) (by assumption) ?_
  rotate_left
  · (intro wS hS; go_simp <;> with_reducible rfl)
  try simp only [Act.put, List.setIfInBounds_toArray, List.set_cons_zero, List.set_cons_succ]
  refine wpAnyH_take (i := 11) (oi := { dst := some 5, op := Op.assign (Operand.tmp 17), type := 82, pos := "law.go:89", after := #[{ on := 5, ground := Ground.data }, { on := 10, ground := Ground.chain }, { on := 0, ground := Ground.phase }, { on := 1, ground := Ground.phase }, { on := 2, ground := Ground.phase }, { on := 3, ground := Ground.phase }, { on := 4, ground := Ground.phase }, { on := 5, ground := Ground.phase }, { on := 6, ground := Ground.textOnly Departure.lateStores }, { on := 7, ground := Ground.textOnly Departure.lateStores }, { on := 8, ground := Ground.phase }, { on := 9, ground := Ground.phase }, { on := 10, ground := Ground.phase }], guard := none }) (v := ?_) rfl (by kernel_rfl) (by kernel_rfl) (by kernel_rfl) (fun _ _ _ h => h) (Or.inl ⟨by rfl, ?_⟩) (by assumption) ?_
  rotate_left
  · (intro wS hS; go_simp <;> with_reducible rfl)
  try simp only [Act.put, List.setIfInBounds_toArray, List.set_cons_zero, List.set_cons_succ]
  refine wpAnyH_take (i := 12) (oi := { dst := some 6, op := Op.assign (Operand.tmp 19), type := 82, pos := "law.go:89", after := #[{ on := 7, ground := Ground.data }, { on := 11, ground := Ground.chain }, { on := 0, ground := Ground.phase }, { on := 1, ground := Ground.phase }, { on := 2, ground := Ground.phase }, { on := 3, ground := Ground.phase }, { on := 4, ground := Ground.phase }, { on := 5, ground := Ground.phase }, { on := 6, ground := Ground.phase }, { on := 7, ground := Ground.phase }, { on := 8, ground := Ground.phase }, { on := 9, ground := Ground.phase }, { on := 10, ground := Ground.phase }, { on := 11, ground := Ground.phase }], guard := none }) (v := ?_) rfl (by kernel_rfl) (by kernel_rfl) (by kernel_rfl) (fun _ _ _ h => h) (Or.inl ⟨by rfl, ?_⟩) (by assumption) ?_
  rotate_left
  · (intro wS hS; go_simp <;> with_reducible rfl)
  try simp only [Act.put, List.setIfInBounds_toArray, List.set_cons_zero, List.set_cons_succ]
  refine wpAnyH_done (by kernel_rfl) ?_ _
  simp only [five] at hh5 hB5
  generalize (((((wA.setCell ⟨gA, 0, none⟩ (.int .u64 (nu : Int))).setCell ⟨gA, 1, none⟩ (.int .u64 (id : Int))).setCell ⟨gA, 2, none⟩ (.int .i64 o)).setCell ⟨gA, 3, none⟩ (.int .i64 t)).setCell ⟨gA, 4, none⟩ (.string ⟨d.toArray⟩)) = w1 at *
  replace hB := hB.trans (below_of hB5 hB.size)
  replace hx := hx.below hB5
  replace hy := hy.below hB5
  obtain ⟨⟨a0, a1, a2, a3, a4⟩, -⟩ := five_cells hh5
  clear hhA hS1 y0 y1 y2 y3 y4 k0 k1 k2 k3 k4 hgB hB5 hh5 c0 c1 c2 c3 c4 c5 c6 c7 hBA
  by_cases hlen : 30 < n ∨ (n ≤ 30 ∧ 30 < m)
  · rcases hlen with h1 | ⟨h1, h2⟩
    all_goals
      go_wp2_with (first
        | (go_at_call 48; refine (awake32_any _).mono ?_; rintro e w2 ⟨rfl, hb⟩))
      go_ret
      exact ⟨rfl, below_trans hB hb⟩
  have hn3 : n ≤ 30 := by omega
  have hm3 : m ≤ 30 := by omega
  clear hlen
  have KS1 := fun W h1 h2 => Lib.hid (fsame_any fs gs A B n c m k W h1 h2 (by omega) (by omega))
  have KS2 := fun W h1 h2 => Lib.hid (refsame_any fs gs A B n c m k W h1 h2 (by omega) (by omega))
  have KM := fun W => Lib.hid (refmay_long nu id o t d W (by omega))
  generalize decide (fs = gs) = sb at *
  go_wp2_with fail
  refine (KS1 _ hx hy).out.mono ?_
  rintro e w2 ⟨rfl, hb⟩
  replace hB := below_trans hB hb
  replace hx := hx.below hb
  replace hy := hy.below hb
  replace a0 := cell_below hb a0
  replace a1 := cell_below hb a1
  replace a2 := cell_below hb a2
  replace a3 := cell_below hb a3
  replace a4 := cell_below hb a4
  clear hb KS1
  go_wp2_with fail
  refine (KS2 _ hx hy).out.mono ?_
  rintro e w3 ⟨rfl, hb⟩
  replace hB := below_trans hB hb
  replace a0 := cell_below hb a0
  replace a1 := cell_below hb a1
  replace a2 := cell_below hb a2
  replace a3 := cell_below hb a3
  replace a4 := cell_below hb a4
  clear hb KS2 hx hy
  go_wp2_with fail
  refine (KM _).out.mono ?_
  rintro e w4 ⟨rfl, hb⟩
  replace hB := below_trans hB hb
  replace a0 := cell_below hb a0
  replace a1 := cell_below hb a1
  replace a2 := cell_below hb a2
  replace a3 := cell_below hb a3
  replace a4 := cell_below hb a4
  clear hb KM
  cases hmay : mayF nu id o t d.length with
  | false =>
    go_wp2_with (first
      | (go_at_call 48; refine (awake32_any _).mono ?_; rintro e w2 ⟨rfl, hb⟩))
    go_ret
    exact ⟨rfl, below_trans hB hb⟩
  | true =>
    obtain ⟨o, t, rfl, rfl, may⟩ := mayF_nat hmay
    have KP := fun W => Lib.hid (refput32_any nu id o t d W may)
    have HT := Lib.hid (fget_turned nu id o t d may)
    have hfl := frmP_length nu id o t d
    have hdl : d.length ≤ 100 := by have := may.hl; omega
    generalize frmP nu id o t d = fp at *
    obtain ⟨u, hu⟩ : ∃ u, u = 15 + d.length := ⟨_, rfl⟩
    rw [← hu] at hfl HT
    have hu1 : 15 ≤ u ∧ u ≤ 115 := by omega
    clear hmay may hu
    go_wp2_with fail
    refine (KP _).out.mono ?_
    rintro e w5 ⟨rfl, hb⟩
    replace hB := below_trans hB hb
    have hlt5 := hB.size
    clear hb KP a0 a1 a2 a3 a4
    have hcv := run_bytes_of fp w5
    have hrd := rd_bytesOf w5 fp (by unfold maxLen; omega)
    have hbb := bytesWorld_below w5 5 ⟨fp.toArray⟩
    have hth : ∀ j, j < u → (Lib.bytesWorld w5 5 ⟨fp.toArray⟩).frozen? ⟨w5.heap.size, j, none⟩ = false := fun j hj => bytesWorld_thaw w5 5 ⟨fp.toArray⟩ j (by show j < fp.length; omega)
    have hgc := grownCap_ge w5 fp.length 0 5
    rw [hfl] at hcv hrd hgc
    replace hB := below_trans hB hbb
    go_upto_region 9 with fail
    generalize hWB : Lib.bytesWorld w5 5 ⟨fp.toArray⟩ = wb at *
    generalize grownCap w5 u 0 5 = cp at *
    have hltb : w5.heap.size < wb.heap.size := by rw [← hWB, Lib.bytesWorld_size]; omega
    clear hcv hWB hbb
    obtain ⟨u8, hu8⟩ : ∃ u8, u8 = 8 * u := ⟨_, rfl⟩
    have f1 : (8 : Int) * (u : Int) = (u8 : Int) := by omega
    have f2 : ((u8 : Int) == 0) = false := by rw [beq_eq_false_iff_ne]; omega
    have f3 : Int.tmod (at_ : Int) (u8 : Int) = ((at_ % u8 : Nat) : Int) := by rw [Int.tmod_eq_emod_of_nonneg (by omega)]; omega
    have hi : at_ % u8 < 8 * u := by have := Nat.mod_lt at_ (show 0 < u8 by omega); omega
    have f4 : IntKind.i64.wrap ((at_ % u8 : Nat) : Int) = ((at_ % u8 : Nat) : Int) := by rw [IntKind.wrap_i64]; omega
    have f5 : IntKind.i64.wrap (at_ : Int) = (at_ : Int) := by rw [IntKind.wrap_i64]; omega
    have f6 : u8 ≤ 920 ∧ 120 ≤ u8 := by omega
    have f7 : ¬ ((u8 : Int) = 0) := by omega
    clear hu8
    generalize at_ % u8 = i at *
    have hd8 : Int.tdiv (i : Int) 8 = ((i / 8 : Nat) : Int) := by rw [Int.tdiv_eq_ediv_of_nonneg (by omega)]; omega
    have hm8 : Int.tmod (i : Int) 8 = ((i % 8 : Nat) : Int) := by rw [Int.tmod_eq_emod_of_nonneg (by omega)]; omega
    have hwd : IntKind.i64.wrap ((i / 8 : Nat) : Int) = ((i / 8 : Nat) : Int) := by rw [IntKind.wrap_i64]; omega
    have hmm : IntKind.i64.wrap ((i % 8 : Nat) : Int) = ((i % 8 : Nat) : Int) := by rw [IntKind.wrap_i64]; omega
    have hju : i / 8 < u := by omega
    go_upto_region 10 with fail
    have hr8 : i % 8 < 8 := by omega
    clear f1 f2 f3 f4 f5 f6 f7 hi
    generalize i / 8 = j at *
    generalize i % 8 = r at *
    by_cases hmid : 9 ≤ j ∧ j ≤ 12
    · have g1 : (9 : Int) ≤ (j : Int) := by omega
      have g2 : (j : Int) ≤ 12 := by omega
      go_wp2_with (first
        | (go_at_call 48; refine (awake32_any _).mono ?_; rintro e w2 ⟨rfl, hb⟩))
      go_ret
      exact ⟨rfl, below_trans hB hb⟩
    have hl : fp.length = u := hfl
    obtain ⟨nb, hnb, hne⟩ := turned_byte (fp.getD j 0) r hr8
    obtain ⟨er, her, h5, h7⟩ := HT.out j nb hju (by omega) hne
    have hcell := hrd.bcell j hju
    rw [add_plain0] at hcell
    have hf := hth j hju
    have hset := rd_set (nb := nb) hrd hju
    have hB2 := below_gbw (gb_set wb w5.heap.size j (.int .u8 (nb.toNat : Int))) hB hlt5
    have hbl := toNat_lt (fp.getD j 0)
    have KG := fun W hh => Lib.hid (fget32_any 0 0 0 0 [] er (fp.set j nb) (some ⟨w5.heap.size, 0, none⟩) u cp W hh (by omega) her)
    rw [if_neg (by omega)] at KG
    have he1 : ((er : Int) != 0) = true := by rw [bne_iff_ne]; omega
    clear HT her h5 h7 hth hne hB hrd
    generalize (fp.getD j 0).toNat = b at *
    generalize fp.set j nb = fq at *
    have Hnb := Lib.hid hnb
    clear hnb
    have hq : (j : Int) < u := by omega
    by_cases hlow : j < 9
    case' pos => have g1 : ¬ ((9 : Int) ≤ (j : Int)) := by omega
    case' neg =>
      have g1 : (9 : Int) ≤ (j : Int) := by omega
      have g2 : ¬ ((j : Int) ≤ 12) := by omega
    all_goals
      go_wp2_with fail
      go_region
      rw [Hnb.out]
      generalize (wb.setCell ⟨w5.heap.size, j, none⟩ (.int .u8 (nb.toNat : Int))) = w6 at *
      have hset2 := hset.below ((Below.refl w6.heap.size w6).drew)
      replace hB2 := hB2.drew
      clear hset hcell hf Hnb hq hd8 hm8 hwd hmm
      generalize w6.drew = w7 at *
      go_wp2_with fail
      refine (KG _ hset2).out.mono ?_
      rintro e w8 ⟨rfl, hb⟩
      replace hB2 := below_trans hB2 hb
      clear hb KG hset2
      obtain ⟨hb1, hca⟩ := one_cells w8 #[.int .u64 0, .int .u64 0, .int .i64 0, .int .i64 0, .string ⟨#[]⟩] 66
      have b0 := hca 0 (.int .u64 0) rfl
      have b1 := hca 1 (.int .u64 0) rfl
      have b2 := hca 2 (.int .i64 0) rfl
      have b3 := hca 3 (.int .i64 0) rfl
      have b4 := hca 4 (.string ⟨#[]⟩) rfl
      clear hca
      replace hB2 := below_trans hB2 hb1
      clear hb1
      go_upto_region 14 with fail
      generalize w8.alloc (.cells #[.int .u64 0, .int .u64 0, .int .i64 0, .int .i64 0, .string ⟨#[]⟩] 66) = w9 at *
      go_wp2_with fail
      refine (awake32_any _).mono ?_
      rintro e w10 ⟨rfl, hb⟩
      replace hB2 := below_trans hB2 hb
      replace b0 := cell_below hb b0
      replace b1 := cell_below hb b1
      replace b2 := cell_below hb b2
      replace b3 := cell_below hb b3
      replace b4 := cell_below hb b4
      clear hb
      go_wp2_with fail
      go_ret
      exact ⟨ret_bool (by simp), hB2⟩
end Go.Proofs.Ythkabhejfkekjaa
