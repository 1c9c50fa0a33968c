/- The law StampKeys, walked as far as its first region (printed by wip/genkeys.py). -/
import Derived.Test.YtieigjlbjiielaaStamp4
import Derived.Test.YtieigjlbjiielaaStamp8
import Derived.Test.YtieigjlbjiielaaStamp9
import Derived.Test.YtieigjlbjiielaaHeld
import Derived.Deep.DeepCutAuto
namespace Go.Proofs.Ytieigjlbjiielaa
open Go.RowKit

theorem four_heap {w : World} {g : Nat} {a0 b0 c0 d0 : Value} {t : TypeId} (h : w.heap[g]? = some (.cells #[a0, b0, c0, d0] t (0, 0))) (a b c d : Value) : ((((w.setCell ⟨g, 0, none⟩ a).setCell ⟨g, 1, none⟩ b).setCell ⟨g, 2, none⟩ c).setCell ⟨g, 3, none⟩ d).heap[g]? = some (.cells #[a, b, c, d] t (0, 0)) :=
  set_heap (o := 3) (set_heap (o := 2) (set_heap (o := 1) (set_heap (o := 0) h a) b) c) d
theorem four_gb (w : World) (g : Nat) (a b c d : Value) : w.grownBy ((((w.setCell ⟨g, 0, none⟩ a).setCell ⟨g, 1, none⟩ b).setCell ⟨g, 2, none⟩ c).setCell ⟨g, 3, none⟩ d) (some g) :=
  (((gb_set _ _ _ _).trans (gb_set _ _ _ _)).trans (gb_set _ _ _ _)).trans (gb_set _ _ _ _)
theorem four_cells {w : World} {g : Nat} {a b c d : Value} {t : TypeId} (h : w.heap[g]? = some (.cells #[a, b, c, d] t (0, 0))) :
    (w.cell? ⟨g, 0, none⟩ = some a ∧ w.cell? ⟨g, 1, none⟩ = some b ∧ w.cell? ⟨g, 2, none⟩ = some c ∧ w.cell? ⟨g, 3, none⟩ = some d) ∧ (w.frozen? ⟨g, 0, none⟩ = false ∧ w.frozen? ⟨g, 1, none⟩ = false ∧ w.frozen? ⟨g, 2, none⟩ = false ∧ w.frozen? ⟨g, 3, none⟩ = false) :=
  ⟨⟨cell_heap h, cell_heap h, cell_heap h, cell_heap h⟩, frozen_heap h, frozen_heap h, frozen_heap h, frozen_heap h⟩
theorem pair_heap {w : World} {g : Nat} {a0 b0 : Value} {t : TypeId} (h : w.heap[g]? = some (.cells #[a0, b0] t (0, 0))) (a b : Value) : ((w.setCell ⟨g, 0, none⟩ a).setCell ⟨g, 1, none⟩ b).heap[g]? = some (.cells #[a, b] t (0, 0)) :=
  set_heap (o := 1) (set_heap (o := 0) h a) b
theorem pair_gb (w : World) (g : Nat) (a b : Value) : w.grownBy ((w.setCell ⟨g, 0, none⟩ a).setCell ⟨g, 1, none⟩ b) (some g) := (gb_set _ _ _ _).trans (gb_set _ _ _ _)
theorem pair_cells {w : World} {g : Nat} {a b : Value} {t : TypeId} (h : w.heap[g]? = some (.cells #[a, b] t (0, 0))) :
    (w.cell? ⟨g, 0, none⟩ = some a ∧ w.cell? ⟨g, 1, none⟩ = some b) ∧ (w.frozen? ⟨g, 0, none⟩ = false ∧ w.frozen? ⟨g, 1, none⟩ = false) :=
  ⟨⟨cell_heap h, cell_heap h⟩, frozen_heap h, frozen_heap h⟩

set_option maxRecDepth 100000 in
set_option maxHeartbeats 20000000 in
theorem stampkeys_law (sa : Int) (na : List UInt8) (da va : Nat) (sb : Int) (nb : List UInt8) (db vb s1 s2 t1 t2 : Nat) (w : World) (hna : na.length ≤ maxLen) (hnb : nb.length ≤ maxLen)
    (hsa : sa < 9223372036854775808) (hsb : sb < 9223372036854775808) (hda : da < 18446744073709551616) (hva : va < 18446744073709551616) (hdb : db < 18446744073709551616) (hvb : vb < 18446744073709551616) (hs1 : s1 < 18446744073709551616) (hs2 : s2 < 18446744073709551616) (ht1 : t1 < 18446744073709551616) (ht2 : t2 < 18446744073709551616) :
    Calls Try.prog 4 #[.agg #[.int .i64 sa, .string ⟨na.toArray⟩, .int .u64 (da : Int), .int .u64 (va : Int), .int .i64 sb, .string ⟨nb.toArray⟩, .int .u64 (db : Int), .int .u64 (vb : Int), .int .u64 (s1 : Int), .int .u64 (s2 : Int), .int .u64 (t1 : Int), .int .u64 (t2 : Int)]] w fun e w' => e = .returned (.bool true) ∧ Below w.heap.size w w' := by
  obtain ⟨hB, hca⟩ := one_cells w #[.int .i64 sa, .string ⟨na.toArray⟩, .int .u64 (da : Int), .int .u64 (va : Int), .int .i64 sb, .string ⟨nb.toArray⟩, .int .u64 (db : Int), .int .u64 (vb : Int), .int .u64 (s1 : Int), .int .u64 (s2 : Int), .int .u64 (t1 : Int), .int .u64 (t2 : Int)] 31
  obtain ⟨e0, e1, e2, e3⟩ : _ ∧ _ ∧ _ ∧ _ := ⟨hca 0 (.int .i64 sa) rfl, hca 1 (.string ⟨na.toArray⟩) rfl, hca 2 (.int .u64 (da : Int)) rfl, hca 3 (.int .u64 (va : Int)) rfl⟩
  obtain ⟨e4, e5, e6, e7⟩ : _ ∧ _ ∧ _ ∧ _ := ⟨hca 4 (.int .i64 sb) rfl, hca 5 (.string ⟨nb.toArray⟩) rfl, hca 6 (.int .u64 (db : Int)) rfl, hca 7 (.int .u64 (vb : Int)) rfl⟩
  obtain ⟨e8, e9, e10, e11⟩ : _ ∧ _ ∧ _ ∧ _ := ⟨hca 8 (.int .u64 (s1 : Int)) rfl, hca 9 (.int .u64 (s2 : Int)) rfl, hca 10 (.int .u64 (t1 : Int)) rfl, hca 11 (.int .u64 (t2 : Int)) rfl⟩
  unfold maxLen at hna hnb
  have HH := Lib.hid (And.intro hsa (And.intro hsb (And.intro hda (And.intro hva (And.intro hdb (And.intro hvb (And.intro hs1 (And.intro hs2 (And.intro ht1 ht2)))))))))
  clear hca hsa hsb hda hva hdb hvb hs1 hs2 ht1 ht2
  go_enter Try.func4, Try.ntmps4
  go_wp2_with fail
  generalize w.alloc (.cells #[.int .i64 sa, .string ⟨na.toArray⟩, .int .u64 (da : Int), .int .u64 (va : Int), .int .i64 sb, .string ⟨nb.toArray⟩, .int .u64 (db : Int), .int .u64 (vb : Int), .int .u64 (s1 : Int), .int .u64 (s2 : Int), .int .u64 (t1 : Int), .int .u64 (t2 : Int)] 31) = w0 at *
  go_cut [3, 4, 5, 6] (fun s3 s4 s5 s6 wx => ∃ g8 g9 g10 g11, s3 = .pointer (some ⟨g8, 0, none⟩) ∧ s4 = .pointer (some ⟨g9, 0, none⟩) ∧ s5 = .pointer (some ⟨g10, 0, none⟩) ∧ s6 = .pointer (some ⟨g11, 0, none⟩) ∧
    wx.heap[g8]? = some (.cells #[.int .i64 sa, .string ⟨na.toArray⟩, .int .u64 (da : Int), .int .u64 (va : Int)] 29 (0, 0)) ∧ wx.heap[g9]? = some (.cells #[.int .i64 sb, .string ⟨nb.toArray⟩, .int .u64 (db : Int), .int .u64 (vb : Int)] 29 (0, 0)) ∧
    wx.heap[g10]? = some (.cells #[.int .u64 (s1 : Int), .int .u64 (s2 : Int)] 24 (0, 0)) ∧ wx.heap[g11]? = some (.cells #[.int .u64 (t1 : Int), .int .u64 (t2 : Int)] 24 (0, 0)) ∧ Below w0.heap.size w0 wx)
  case first =>
    clear hB HH hna hnb
    refine wp_region_held (S := fun W => Below w0.heap.size w0 W) (by kernel_rfl) ?_
    change wpAnyH _ _ _ _ _ _ _ _ (w0).drew
    have hS : (fun W => Below w0.heap.size w0 W) (w0).drew := (Below.refl _ _).drew
    generalize (w0).drew = wd at hS ⊢
    refine wpAnyH_take (i := 0) (oi := { dst := some 7, op := Op.fieldAddr 31 (Operand.tmp 1) 0, type := 0, pos := "law.go:59", after := #[], guard := none }) (v := ?_) rfl (by kernel_rfl) (by kernel_rfl) (by kernel_rfl) (fun _ _ _ h => h) (Or.inl ⟨by rfl, ?_⟩) (by assumption) ?_
    rotate_left
    · (intro wS hS; go_simp <;> with_reducible rfl)
    try simp only [Act.put, List.setIfInBounds_toArray, List.set_cons_zero, List.set_cons_succ]
    refine wpAnyH_take (i := 1) (oi := { dst := some 8, op := Op.load 29 (Operand.tmp 7), type := 29, pos := "law.go:59", after := #[{ on := 0, ground := Ground.data }], guard := none }) (v := ?_) rfl (by kernel_rfl) (by kernel_rfl) (by kernel_rfl) (fun _ _ _ h => h) (Or.inl ⟨by rfl, ?_⟩) (by assumption) ?_
    rotate_left
    · (intro wS hS; have e0 := cell_below hS e0; have e1 := cell_below hS e1; have e2 := cell_below hS e2; have e3 := cell_below hS e3; have e4 := cell_below hS e4; have e5 := cell_below hS e5; have e6 := cell_below hS e6; have e7 := cell_below hS e7; have e8 := cell_below hS e8; have e9 := cell_below hS e9; have e10 := cell_below hS e10; have e11 := cell_below hS e11; go_simp <;> with_reducible rfl)
    try simp only [Act.put, List.setIfInBounds_toArray, List.set_cons_zero, List.set_cons_succ]
    refine wpAnyH_take (i := 2) (oi := { dst := some 9, op := Op.fieldAddr 31 (Operand.tmp 1) 1, type := 0, pos := "law.go:59", after := #[{ on := 12, ground := Ground.gcOnly Departure.lateStores }], guard := none }) (v := ?_) rfl (by kernel_rfl) (by kernel_rfl) (by kernel_rfl) (fun _ _ _ h => h) (Or.inl ⟨by rfl, ?_⟩) (by assumption) ?_
    rotate_left
    · (intro wS hS; go_simp <;> with_reducible rfl)
    try simp only [Act.put, List.setIfInBounds_toArray, List.set_cons_zero, List.set_cons_succ]
    refine wpAnyH_take (i := 3) (oi := { dst := some 10, op := Op.load 29 (Operand.tmp 9), type := 29, pos := "law.go:59", after := #[{ on := 2, ground := Ground.data }, { on := 12, ground := Ground.gcOnly Departure.lateStores }], guard := none }) (v := ?_) rfl (by kernel_rfl) (by kernel_rfl) (by kernel_rfl) (fun _ _ _ h => h) (Or.inl ⟨by rfl, ?_⟩) (by assumption) ?_
    rotate_left
    · (intro wS hS; have e0 := cell_below hS e0; have e1 := cell_below hS e1; have e2 := cell_below hS e2; have e3 := cell_below hS e3; have e4 := cell_below hS e4; have e5 := cell_below hS e5; have e6 := cell_below hS e6; have e7 := cell_below hS e7; have e8 := cell_below hS e8; have e9 := cell_below hS e9; have e10 := cell_below hS e10; have e11 := cell_below hS e11; go_simp <;> with_reducible rfl)
    try simp only [Act.put, List.setIfInBounds_toArray, List.set_cons_zero, List.set_cons_succ]
    refine wpAnyH_take (i := 4) (oi := { dst := some 11, op := Op.fieldAddr 31 (Operand.tmp 1) 2, type := 0, pos := "law.go:59", after := #[{ on := 13, ground := Ground.gcOnly Departure.lateStores }], guard := none }) (v := ?_) rfl (by kernel_rfl) (by kernel_rfl) (by kernel_rfl) (fun _ _ _ h => h) (Or.inl ⟨by rfl, ?_⟩) (by assumption) ?_
    rotate_left
    · (intro wS hS; go_simp <;> with_reducible rfl)
    try simp only [Act.put, List.setIfInBounds_toArray, List.set_cons_zero, List.set_cons_succ]
    refine wpAnyH_take (i := 5) (oi := { dst := some 12, op := Op.load 24 (Operand.tmp 11), type := 24, pos := "law.go:59", after := #[{ on := 4, ground := Ground.data }, { on := 13, ground := Ground.gcOnly Departure.lateStores }], guard := none }) (v := ?_) rfl (by kernel_rfl) (by kernel_rfl) (by kernel_rfl) (fun _ _ _ h => h) (Or.inl ⟨by rfl, ?_⟩) (by assumption) ?_
    rotate_left
    · (intro wS hS; have e0 := cell_below hS e0; have e1 := cell_below hS e1; have e2 := cell_below hS e2; have e3 := cell_below hS e3; have e4 := cell_below hS e4; have e5 := cell_below hS e5; have e6 := cell_below hS e6; have e7 := cell_below hS e7; have e8 := cell_below hS e8; have e9 := cell_below hS e9; have e10 := cell_below hS e10; have e11 := cell_below hS e11; go_simp <;> with_reducible rfl)
    try simp only [Act.put, List.setIfInBounds_toArray, List.set_cons_zero, List.set_cons_succ]
    refine wpAnyH_take (i := 6) (oi := { dst := some 13, op := Op.fieldAddr 31 (Operand.tmp 1) 3, type := 0, pos := "law.go:59", after := #[{ on := 14, ground := Ground.gcOnly Departure.lateStores }], guard := none }) (v := ?_) rfl (by kernel_rfl) (by kernel_rfl) (by kernel_rfl) (fun _ _ _ h => h) (Or.inl ⟨by rfl, ?_⟩) (by assumption) ?_
    rotate_left
    · (intro wS hS; go_simp <;> with_reducible rfl)
    try simp only [Act.put, List.setIfInBounds_toArray, List.set_cons_zero, List.set_cons_succ]
    refine wpAnyH_take (i := 7) (oi := { dst := some 14, op := Op.load 24 (Operand.tmp 13), type := 24, pos := "law.go:59", after := #[{ on := 6, ground := Ground.data }, { on := 14, ground := Ground.gcOnly Departure.lateStores }], guard := none }) (v := ?_) rfl (by kernel_rfl) (by kernel_rfl) (by kernel_rfl) (fun _ _ _ h => h) (Or.inl ⟨by rfl, ?_⟩) (by assumption) ?_
    rotate_left
    · (intro wS hS; have e0 := cell_below hS e0; have e1 := cell_below hS e1; have e2 := cell_below hS e2; have e3 := cell_below hS e3; have e4 := cell_below hS e4; have e5 := cell_below hS e5; have e6 := cell_below hS e6; have e7 := cell_below hS e7; have e8 := cell_below hS e8; have e9 := cell_below hS e9; have e10 := cell_below hS e10; have e11 := cell_below hS e11; go_simp <;> with_reducible rfl)
    try simp only [Act.put, List.setIfInBounds_toArray, List.set_cons_zero, List.set_cons_succ]
    refine wpAnyH_ready (rs := [8, 9, 10, 11]) (by kernel_rfl) (by simp) ?_
    refine AllReadyH.cons rfl (fun K hK => ?_) (AllReadyH.cons rfl (fun K hK => ?_) (AllReadyH.cons rfl (fun K hK => ?_) (AllReadyH.cons rfl (fun K hK => ?_) (AllReadyH.nil))))
    go_simp
    obtain ⟨g8, hg8⟩ : ∃ g, g = wd.heap.size := ⟨_, rfl⟩
    have hh8 : (wd.alloc (.cells #[.int .i64 0, .string ⟨([] : List UInt8).toArray⟩, .int .u64 0, .int .u64 0] 29)).heap[g8]? = some (.cells #[.int .i64 0, .string ⟨([] : List UInt8).toArray⟩, .int .u64 0, .int .u64 0] 29 (0, 0)) := by rw [hg8]; exact alloc_new _ _
    have hBi := (one_cells wd #[.int .i64 0, .string ⟨([] : List UInt8).toArray⟩, .int .u64 0, .int .u64 0] 29).1
    have hgB8 : w0.heap.size ≤ g8 := by rw [hg8]; exact Below.size hS
    have hS2 : (fun W => Below w0.heap.size w0 W) (wd.alloc (.cells #[.int .i64 0, .string ⟨([] : List UInt8).toArray⟩, .int .u64 0, .int .u64 0] 29)) := Below.alloc hS (Below.size hS) _
    refine hK.out _ _ hS2 (fun _ => ?_)
    clear hK K hBi hS
    try simp only [Act.put, List.setIfInBounds_toArray, List.set_cons_zero, List.set_cons_succ]
    have hS := hS2
    clear hS2
    simp only [← hg8]
    clear hg8
    generalize wd.alloc (.cells #[.int .i64 0, .string ⟨([] : List UInt8).toArray⟩, .int .u64 0, .int .u64 0] 29) = v1 at *
    refine wpAnyH_ready (rs := [9, 10, 11]) (by kernel_rfl) (by simp) ?_
    refine AllReadyH.cons rfl (fun K hK => ?_) (AllReadyH.cons rfl (fun K hK => ?_) (AllReadyH.cons rfl (fun K hK => ?_) (AllReadyH.nil)))
    go_simp
    obtain ⟨g9, hg9⟩ : ∃ g, g = v1.heap.size := ⟨_, rfl⟩
    have hh9 : (v1.alloc (.cells #[.int .i64 0, .string ⟨([] : List UInt8).toArray⟩, .int .u64 0, .int .u64 0] 29)).heap[g9]? = some (.cells #[.int .i64 0, .string ⟨([] : List UInt8).toArray⟩, .int .u64 0, .int .u64 0] 29 (0, 0)) := by rw [hg9]; exact alloc_new _ _
    have hBi := (one_cells v1 #[.int .i64 0, .string ⟨([] : List UInt8).toArray⟩, .int .u64 0, .int .u64 0] 29).1
    have hgB9 : w0.heap.size ≤ g9 := by rw [hg9]; exact Below.size hS
    have hn8_9 : g8 < g9 := by rw [hg9]; exact heap_lt hh8
    replace hh8 := heap_below hBi hh8
    have hS2 : (fun W => Below w0.heap.size w0 W) (v1.alloc (.cells #[.int .i64 0, .string ⟨([] : List UInt8).toArray⟩, .int .u64 0, .int .u64 0] 29)) := Below.alloc hS (Below.size hS) _
    refine hK.out _ _ hS2 (fun _ => ?_)
    clear hK K hBi hS
    try simp only [Act.put, List.setIfInBounds_toArray, List.set_cons_zero, List.set_cons_succ]
    have hS := hS2
    clear hS2
    simp only [← hg9]
    clear hg9
    generalize v1.alloc (.cells #[.int .i64 0, .string ⟨([] : List UInt8).toArray⟩, .int .u64 0, .int .u64 0] 29) = v2 at *
    refine wpAnyH_ready (rs := [10, 11]) (by kernel_rfl) (by simp) ?_
    refine AllReadyH.cons rfl (fun K hK => ?_) (AllReadyH.cons rfl (fun K hK => ?_) (AllReadyH.nil))
    go_simp
    obtain ⟨g10, hg10⟩ : ∃ g, g = v2.heap.size := ⟨_, rfl⟩
    have hh10 : (v2.alloc (.cells #[.int .u64 0, .int .u64 0] 24)).heap[g10]? = some (.cells #[.int .u64 0, .int .u64 0] 24 (0, 0)) := by rw [hg10]; exact alloc_new _ _
    have hBi := (one_cells v2 #[.int .u64 0, .int .u64 0] 24).1
    have hgB10 : w0.heap.size ≤ g10 := by rw [hg10]; exact Below.size hS
    have hn8_10 : g8 < g10 := by rw [hg10]; exact heap_lt hh8
    replace hh8 := heap_below hBi hh8
    have hn9_10 : g9 < g10 := by rw [hg10]; exact heap_lt hh9
    replace hh9 := heap_below hBi hh9
    have hS2 : (fun W => Below w0.heap.size w0 W) (v2.alloc (.cells #[.int .u64 0, .int .u64 0] 24)) := Below.alloc hS (Below.size hS) _
    refine hK.out _ _ hS2 (fun _ => ?_)
    clear hK K hBi hS
    try simp only [Act.put, List.setIfInBounds_toArray, List.set_cons_zero, List.set_cons_succ]
    have hS := hS2
    clear hS2
    simp only [← hg10]
    clear hg10
    generalize v2.alloc (.cells #[.int .u64 0, .int .u64 0] 24) = v3 at *
    refine wpAnyH_ready (rs := [11]) (by kernel_rfl) (by simp) ?_
    refine AllReadyH.cons rfl (fun K hK => ?_) (AllReadyH.nil)
    go_simp
    obtain ⟨g11, hg11⟩ : ∃ g, g = v3.heap.size := ⟨_, rfl⟩
    have hh11 : (v3.alloc (.cells #[.int .u64 0, .int .u64 0] 24)).heap[g11]? = some (.cells #[.int .u64 0, .int .u64 0] 24 (0, 0)) := by rw [hg11]; exact alloc_new _ _
    have hBi := (one_cells v3 #[.int .u64 0, .int .u64 0] 24).1
    have hgB11 : w0.heap.size ≤ g11 := by rw [hg11]; exact Below.size hS
    have hn8_11 : g8 < g11 := by rw [hg11]; exact heap_lt hh8
    replace hh8 := heap_below hBi hh8
    have hn9_11 : g9 < g11 := by rw [hg11]; exact heap_lt hh9
    replace hh9 := heap_below hBi hh9
    have hn10_11 : g10 < g11 := by rw [hg11]; exact heap_lt hh10
    replace hh10 := heap_below hBi hh10
    have hS2 : (fun W => Below w0.heap.size w0 W) (v3.alloc (.cells #[.int .u64 0, .int .u64 0] 24)) := Below.alloc hS (Below.size hS) _
    refine hK.out _ _ hS2 (fun _ => ?_)
    clear hK K hBi hS
    try simp only [Act.put, List.setIfInBounds_toArray, List.set_cons_zero, List.set_cons_succ]
    have hS := hS2
    clear hS2
    simp only [← hg11]
    clear hg11
    generalize v3.alloc (.cells #[.int .u64 0, .int .u64 0] 24) = v4 at *
    rotate_left
    go_simp
    obtain ⟨g11, hg11⟩ : ∃ g, g = v2.heap.size := ⟨_, rfl⟩
    have hh11 : (v2.alloc (.cells #[.int .u64 0, .int .u64 0] 24)).heap[g11]? = some (.cells #[.int .u64 0, .int .u64 0] 24 (0, 0)) := by rw [hg11]; exact alloc_new _ _
    have hBi := (one_cells v2 #[.int .u64 0, .int .u64 0] 24).1
    have hgB11 : w0.heap.size ≤ g11 := by rw [hg11]; exact Below.size hS
    have hn8_11 : g8 < g11 := by rw [hg11]; exact heap_lt hh8
    replace hh8 := heap_below hBi hh8
    have hn9_11 : g9 < g11 := by rw [hg11]; exact heap_lt hh9
    replace hh9 := heap_below hBi hh9
    have hS2 : (fun W => Below w0.heap.size w0 W) (v2.alloc (.cells #[.int .u64 0, .int .u64 0] 24)) := Below.alloc hS (Below.size hS) _
    refine hK.out _ _ hS2 (fun _ => ?_)
    clear hK K hBi hS
    try simp only [Act.put, List.setIfInBounds_toArray, List.set_cons_zero, List.set_cons_succ]
    have hS := hS2
    clear hS2
    simp only [← hg11]
    clear hg11
    generalize v2.alloc (.cells #[.int .u64 0, .int .u64 0] 24) = v3 at *
    refine wpAnyH_ready (rs := [10]) (by kernel_rfl) (by simp) ?_
    refine AllReadyH.cons rfl (fun K hK => ?_) (AllReadyH.nil)
    go_simp
    obtain ⟨g10, hg10⟩ : ∃ g, g = v3.heap.size := ⟨_, rfl⟩
    have hh10 : (v3.alloc (.cells #[.int .u64 0, .int .u64 0] 24)).heap[g10]? = some (.cells #[.int .u64 0, .int .u64 0] 24 (0, 0)) := by rw [hg10]; exact alloc_new _ _
    have hBi := (one_cells v3 #[.int .u64 0, .int .u64 0] 24).1
    have hgB10 : w0.heap.size ≤ g10 := by rw [hg10]; exact Below.size hS
    have hn8_10 : g8 < g10 := by rw [hg10]; exact heap_lt hh8
    replace hh8 := heap_below hBi hh8
    have hn9_10 : g9 < g10 := by rw [hg10]; exact heap_lt hh9
    replace hh9 := heap_below hBi hh9
    have hn11_10 : g11 < g10 := by rw [hg10]; exact heap_lt hh11
    replace hh11 := heap_below hBi hh11
    have hS2 : (fun W => Below w0.heap.size w0 W) (v3.alloc (.cells #[.int .u64 0, .int .u64 0] 24)) := Below.alloc hS (Below.size hS) _
    refine hK.out _ _ hS2 (fun _ => ?_)
    clear hK K hBi hS
    try simp only [Act.put, List.setIfInBounds_toArray, List.set_cons_zero, List.set_cons_succ]
    have hS := hS2
    clear hS2
    simp only [← hg10]
    clear hg10
    generalize v3.alloc (.cells #[.int .u64 0, .int .u64 0] 24) = v4 at *
    rotate_left
    go_simp
    obtain ⟨g10, hg10⟩ : ∃ g, g = v1.heap.size := ⟨_, rfl⟩
    have hh10 : (v1.alloc (.cells #[.int .u64 0, .int .u64 0] 24)).heap[g10]? = some (.cells #[.int .u64 0, .int .u64 0] 24 (0, 0)) := by rw [hg10]; exact alloc_new _ _
    have hBi := (one_cells v1 #[.int .u64 0, .int .u64 0] 24).1
    have hgB10 : w0.heap.size ≤ g10 := by rw [hg10]; exact Below.size hS
    have hn8_10 : g8 < g10 := by rw [hg10]; exact heap_lt hh8
    replace hh8 := heap_below hBi hh8
    have hS2 : (fun W => Below w0.heap.size w0 W) (v1.alloc (.cells #[.int .u64 0, .int .u64 0] 24)) := Below.alloc hS (Below.size hS) _
    refine hK.out _ _ hS2 (fun _ => ?_)
    clear hK K hBi hS
    try simp only [Act.put, List.setIfInBounds_toArray, List.set_cons_zero, List.set_cons_succ]
    have hS := hS2
    clear hS2
    simp only [← hg10]
    clear hg10
    generalize v1.alloc (.cells #[.int .u64 0, .int .u64 0] 24) = v2 at *
    refine wpAnyH_ready (rs := [9, 11]) (by kernel_rfl) (by simp) ?_
    refine AllReadyH.cons rfl (fun K hK => ?_) (AllReadyH.cons rfl (fun K hK => ?_) (AllReadyH.nil))
    go_simp
    obtain ⟨g9, hg9⟩ : ∃ g, g = v2.heap.size := ⟨_, rfl⟩
    have hh9 : (v2.alloc (.cells #[.int .i64 0, .string ⟨([] : List UInt8).toArray⟩, .int .u64 0, .int .u64 0] 29)).heap[g9]? = some (.cells #[.int .i64 0, .string ⟨([] : List UInt8).toArray⟩, .int .u64 0, .int .u64 0] 29 (0, 0)) := by rw [hg9]; exact alloc_new _ _
    have hBi := (one_cells v2 #[.int .i64 0, .string ⟨([] : List UInt8).toArray⟩, .int .u64 0, .int .u64 0] 29).1
    have hgB9 : w0.heap.size ≤ g9 := by rw [hg9]; exact Below.size hS
    have hn8_9 : g8 < g9 := by rw [hg9]; exact heap_lt hh8
    replace hh8 := heap_below hBi hh8
    have hn10_9 : g10 < g9 := by rw [hg9]; exact heap_lt hh10
    replace hh10 := heap_below hBi hh10
    have hS2 : (fun W => Below w0.heap.size w0 W) (v2.alloc (.cells #[.int .i64 0, .string ⟨([] : List UInt8).toArray⟩, .int .u64 0, .int .u64 0] 29)) := Below.alloc hS (Below.size hS) _
    refine hK.out _ _ hS2 (fun _ => ?_)
    clear hK K hBi hS
    try simp only [Act.put, List.setIfInBounds_toArray, List.set_cons_zero, List.set_cons_succ]
    have hS := hS2
    clear hS2
    simp only [← hg9]
    clear hg9
    generalize v2.alloc (.cells #[.int .i64 0, .string ⟨([] : List UInt8).toArray⟩, .int .u64 0, .int .u64 0] 29) = v3 at *
    refine wpAnyH_ready (rs := [11]) (by kernel_rfl) (by simp) ?_
    refine AllReadyH.cons rfl (fun K hK => ?_) (AllReadyH.nil)
    go_simp
    obtain ⟨g11, hg11⟩ : ∃ g, g = v3.heap.size := ⟨_, rfl⟩
    have hh11 : (v3.alloc (.cells #[.int .u64 0, .int .u64 0] 24)).heap[g11]? = some (.cells #[.int .u64 0, .int .u64 0] 24 (0, 0)) := by rw [hg11]; exact alloc_new _ _
    have hBi := (one_cells v3 #[.int .u64 0, .int .u64 0] 24).1
    have hgB11 : w0.heap.size ≤ g11 := by rw [hg11]; exact Below.size hS
    have hn8_11 : g8 < g11 := by rw [hg11]; exact heap_lt hh8
    replace hh8 := heap_below hBi hh8
    have hn10_11 : g10 < g11 := by rw [hg11]; exact heap_lt hh10
    replace hh10 := heap_below hBi hh10
    have hn9_11 : g9 < g11 := by rw [hg11]; exact heap_lt hh9
    replace hh9 := heap_below hBi hh9
    have hS2 : (fun W => Below w0.heap.size w0 W) (v3.alloc (.cells #[.int .u64 0, .int .u64 0] 24)) := Below.alloc hS (Below.size hS) _
    refine hK.out _ _ hS2 (fun _ => ?_)
    clear hK K hBi hS
    try simp only [Act.put, List.setIfInBounds_toArray, List.set_cons_zero, List.set_cons_succ]
    have hS := hS2
    clear hS2
    simp only [← hg11]
    clear hg11
    generalize v3.alloc (.cells #[.int .u64 0, .int .u64 0] 24) = v4 at *
    rotate_left
    go_simp
    obtain ⟨g11, hg11⟩ : ∃ g, g = v2.heap.size := ⟨_, rfl⟩
    have hh11 : (v2.alloc (.cells #[.int .u64 0, .int .u64 0] 24)).heap[g11]? = some (.cells #[.int .u64 0, .int .u64 0] 24 (0, 0)) := by rw [hg11]; exact alloc_new _ _
    have hBi := (one_cells v2 #[.int .u64 0, .int .u64 0] 24).1
    have hgB11 : w0.heap.size ≤ g11 := by rw [hg11]; exact Below.size hS
    have hn8_11 : g8 < g11 := by rw [hg11]; exact heap_lt hh8
    replace hh8 := heap_below hBi hh8
    have hn10_11 : g10 < g11 := by rw [hg11]; exact heap_lt hh10
    replace hh10 := heap_below hBi hh10
    have hS2 : (fun W => Below w0.heap.size w0 W) (v2.alloc (.cells #[.int .u64 0, .int .u64 0] 24)) := Below.alloc hS (Below.size hS) _
    refine hK.out _ _ hS2 (fun _ => ?_)
    clear hK K hBi hS
    try simp only [Act.put, List.setIfInBounds_toArray, List.set_cons_zero, List.set_cons_succ]
    have hS := hS2
    clear hS2
    simp only [← hg11]
    clear hg11
    generalize v2.alloc (.cells #[.int .u64 0, .int .u64 0] 24) = v3 at *
    refine wpAnyH_ready (rs := [9]) (by kernel_rfl) (by simp) ?_
    refine AllReadyH.cons rfl (fun K hK => ?_) (AllReadyH.nil)
    go_simp
    obtain ⟨g9, hg9⟩ : ∃ g, g = v3.heap.size := ⟨_, rfl⟩
    have hh9 : (v3.alloc (.cells #[.int .i64 0, .string ⟨([] : List UInt8).toArray⟩, .int .u64 0, .int .u64 0] 29)).heap[g9]? = some (.cells #[.int .i64 0, .string ⟨([] : List UInt8).toArray⟩, .int .u64 0, .int .u64 0] 29 (0, 0)) := by rw [hg9]; exact alloc_new _ _
    have hBi := (one_cells v3 #[.int .i64 0, .string ⟨([] : List UInt8).toArray⟩, .int .u64 0, .int .u64 0] 29).1
    have hgB9 : w0.heap.size ≤ g9 := by rw [hg9]; exact Below.size hS
    have hn8_9 : g8 < g9 := by rw [hg9]; exact heap_lt hh8
    replace hh8 := heap_below hBi hh8
    have hn10_9 : g10 < g9 := by rw [hg9]; exact heap_lt hh10
    replace hh10 := heap_below hBi hh10
    have hn11_9 : g11 < g9 := by rw [hg9]; exact heap_lt hh11
    replace hh11 := heap_below hBi hh11
    have hS2 : (fun W => Below w0.heap.size w0 W) (v3.alloc (.cells #[.int .i64 0, .string ⟨([] : List UInt8).toArray⟩, .int .u64 0, .int .u64 0] 29)) := Below.alloc hS (Below.size hS) _
    refine hK.out _ _ hS2 (fun _ => ?_)
    clear hK K hBi hS
    try simp only [Act.put, List.setIfInBounds_toArray, List.set_cons_zero, List.set_cons_succ]
    have hS := hS2
    clear hS2
    simp only [← hg9]
    clear hg9
    generalize v3.alloc (.cells #[.int .i64 0, .string ⟨([] : List UInt8).toArray⟩, .int .u64 0, .int .u64 0] 29) = v4 at *
    rotate_left
    go_simp
    obtain ⟨g11, hg11⟩ : ∃ g, g = v1.heap.size := ⟨_, rfl⟩
    have hh11 : (v1.alloc (.cells #[.int .u64 0, .int .u64 0] 24)).heap[g11]? = some (.cells #[.int .u64 0, .int .u64 0] 24 (0, 0)) := by rw [hg11]; exact alloc_new _ _
    have hBi := (one_cells v1 #[.int .u64 0, .int .u64 0] 24).1
    have hgB11 : w0.heap.size ≤ g11 := by rw [hg11]; exact Below.size hS
    have hn8_11 : g8 < g11 := by rw [hg11]; exact heap_lt hh8
    replace hh8 := heap_below hBi hh8
    have hS2 : (fun W => Below w0.heap.size w0 W) (v1.alloc (.cells #[.int .u64 0, .int .u64 0] 24)) := Below.alloc hS (Below.size hS) _
    refine hK.out _ _ hS2 (fun _ => ?_)
    clear hK K hBi hS
    try simp only [Act.put, List.setIfInBounds_toArray, List.set_cons_zero, List.set_cons_succ]
    have hS := hS2
    clear hS2
    simp only [← hg11]
    clear hg11
    generalize v1.alloc (.cells #[.int .u64 0, .int .u64 0] 24) = v2 at *
    refine wpAnyH_ready (rs := [9, 10]) (by kernel_rfl) (by simp) ?_
    refine AllReadyH.cons rfl (fun K hK => ?_) (AllReadyH.cons rfl (fun K hK => ?_) (AllReadyH.nil))
    go_simp
    obtain ⟨g9, hg9⟩ : ∃ g, g = v2.heap.size := ⟨_, rfl⟩
    have hh9 : (v2.alloc (.cells #[.int .i64 0, .string ⟨([] : List UInt8).toArray⟩, .int .u64 0, .int .u64 0] 29)).heap[g9]? = some (.cells #[.int .i64 0, .string ⟨([] : List UInt8).toArray⟩, .int .u64 0, .int .u64 0] 29 (0, 0)) := by rw [hg9]; exact alloc_new _ _
    have hBi := (one_cells v2 #[.int .i64 0, .string ⟨([] : List UInt8).toArray⟩, .int .u64 0, .int .u64 0] 29).1
    have hgB9 : w0.heap.size ≤ g9 := by rw [hg9]; exact Below.size hS
    have hn8_9 : g8 < g9 := by rw [hg9]; exact heap_lt hh8
    replace hh8 := heap_below hBi hh8
    have hn11_9 : g11 < g9 := by rw [hg9]; exact heap_lt hh11
    replace hh11 := heap_below hBi hh11
    have hS2 : (fun W => Below w0.heap.size w0 W) (v2.alloc (.cells #[.int .i64 0, .string ⟨([] : List UInt8).toArray⟩, .int .u64 0, .int .u64 0] 29)) := Below.alloc hS (Below.size hS) _
    refine hK.out _ _ hS2 (fun _ => ?_)
    clear hK K hBi hS
    try simp only [Act.put, List.setIfInBounds_toArray, List.set_cons_zero, List.set_cons_succ]
    have hS := hS2
    clear hS2
    simp only [← hg9]
    clear hg9
    generalize v2.alloc (.cells #[.int .i64 0, .string ⟨([] : List UInt8).toArray⟩, .int .u64 0, .int .u64 0] 29) = v3 at *
    refine wpAnyH_ready (rs := [10]) (by kernel_rfl) (by simp) ?_
    refine AllReadyH.cons rfl (fun K hK => ?_) (AllReadyH.nil)
    go_simp
    obtain ⟨g10, hg10⟩ : ∃ g, g = v3.heap.size := ⟨_, rfl⟩
    have hh10 : (v3.alloc (.cells #[.int .u64 0, .int .u64 0] 24)).heap[g10]? = some (.cells #[.int .u64 0, .int .u64 0] 24 (0, 0)) := by rw [hg10]; exact alloc_new _ _
    have hBi := (one_cells v3 #[.int .u64 0, .int .u64 0] 24).1
    have hgB10 : w0.heap.size ≤ g10 := by rw [hg10]; exact Below.size hS
    have hn8_10 : g8 < g10 := by rw [hg10]; exact heap_lt hh8
    replace hh8 := heap_below hBi hh8
    have hn11_10 : g11 < g10 := by rw [hg10]; exact heap_lt hh11
    replace hh11 := heap_below hBi hh11
    have hn9_10 : g9 < g10 := by rw [hg10]; exact heap_lt hh9
    replace hh9 := heap_below hBi hh9
    have hS2 : (fun W => Below w0.heap.size w0 W) (v3.alloc (.cells #[.int .u64 0, .int .u64 0] 24)) := Below.alloc hS (Below.size hS) _
    refine hK.out _ _ hS2 (fun _ => ?_)
    clear hK K hBi hS
    try simp only [Act.put, List.setIfInBounds_toArray, List.set_cons_zero, List.set_cons_succ]
    have hS := hS2
    clear hS2
    simp only [← hg10]
    clear hg10
    generalize v3.alloc (.cells #[.int .u64 0, .int .u64 0] 24) = v4 at *
    rotate_left
    go_simp
    obtain ⟨g10, hg10⟩ : ∃ g, g = v2.heap.size := ⟨_, rfl⟩
    have hh10 : (v2.alloc (.cells #[.int .u64 0, .int .u64 0] 24)).heap[g10]? = some (.cells #[.int .u64 0, .int .u64 0] 24 (0, 0)) := by rw [hg10]; exact alloc_new _ _
    have hBi := (one_cells v2 #[.int .u64 0, .int .u64 0] 24).1
    have hgB10 : w0.heap.size ≤ g10 := by rw [hg10]; exact Below.size hS
    have hn8_10 : g8 < g10 := by rw [hg10]; exact heap_lt hh8
    replace hh8 := heap_below hBi hh8
    have hn11_10 : g11 < g10 := by rw [hg10]; exact heap_lt hh11
    replace hh11 := heap_below hBi hh11
    have hS2 : (fun W => Below w0.heap.size w0 W) (v2.alloc (.cells #[.int .u64 0, .int .u64 0] 24)) := Below.alloc hS (Below.size hS) _
    refine hK.out _ _ hS2 (fun _ => ?_)
    clear hK K hBi hS
    try simp only [Act.put, List.setIfInBounds_toArray, List.set_cons_zero, List.set_cons_succ]
    have hS := hS2
    clear hS2
    simp only [← hg10]
    clear hg10
    generalize v2.alloc (.cells #[.int .u64 0, .int .u64 0] 24) = v3 at *
    refine wpAnyH_ready (rs := [9]) (by kernel_rfl) (by simp) ?_
    refine AllReadyH.cons rfl (fun K hK => ?_) (AllReadyH.nil)
    go_simp
    obtain ⟨g9, hg9⟩ : ∃ g, g = v3.heap.size := ⟨_, rfl⟩
    have hh9 : (v3.alloc (.cells #[.int .i64 0, .string ⟨([] : List UInt8).toArray⟩, .int .u64 0, .int .u64 0] 29)).heap[g9]? = some (.cells #[.int .i64 0, .string ⟨([] : List UInt8).toArray⟩, .int .u64 0, .int .u64 0] 29 (0, 0)) := by rw [hg9]; exact alloc_new _ _
    have hBi := (one_cells v3 #[.int .i64 0, .string ⟨([] : List UInt8).toArray⟩, .int .u64 0, .int .u64 0] 29).1
    have hgB9 : w0.heap.size ≤ g9 := by rw [hg9]; exact Below.size hS
    have hn8_9 : g8 < g9 := by rw [hg9]; exact heap_lt hh8
    replace hh8 := heap_below hBi hh8
    have hn11_9 : g11 < g9 := by rw [hg9]; exact heap_lt hh11
    replace hh11 := heap_below hBi hh11
    have hn10_9 : g10 < g9 := by rw [hg9]; exact heap_lt hh10
    replace hh10 := heap_below hBi hh10
    have hS2 : (fun W => Below w0.heap.size w0 W) (v3.alloc (.cells #[.int .i64 0, .string ⟨([] : List UInt8).toArray⟩, .int .u64 0, .int .u64 0] 29)) := Below.alloc hS (Below.size hS) _
    refine hK.out _ _ hS2 (fun _ => ?_)
    clear hK K hBi hS
    try simp only [Act.put, List.setIfInBounds_toArray, List.set_cons_zero, List.set_cons_succ]
    have hS := hS2
    clear hS2
    simp only [← hg9]
    clear hg9
    generalize v3.alloc (.cells #[.int .i64 0, .string ⟨([] : List UInt8).toArray⟩, .int .u64 0, .int .u64 0] 29) = v4 at *
    rotate_left
    go_simp
    obtain ⟨g9, hg9⟩ : ∃ g, g = wd.heap.size := ⟨_, rfl⟩
    have hh9 : (wd.alloc (.cells #[.int .i64 0, .string ⟨([] : List UInt8).toArray⟩, .int .u64 0, .int .u64 0] 29)).heap[g9]? = some (.cells #[.int .i64 0, .string ⟨([] : List UInt8).toArray⟩, .int .u64 0, .int .u64 0] 29 (0, 0)) := by rw [hg9]; exact alloc_new _ _
    have hBi := (one_cells wd #[.int .i64 0, .string ⟨([] : List UInt8).toArray⟩, .int .u64 0, .int .u64 0] 29).1
    have hgB9 : w0.heap.size ≤ g9 := by rw [hg9]; exact Below.size hS
    have hS2 : (fun W => Below w0.heap.size w0 W) (wd.alloc (.cells #[.int .i64 0, .string ⟨([] : List UInt8).toArray⟩, .int .u64 0, .int .u64 0] 29)) := Below.alloc hS (Below.size hS) _
    refine hK.out _ _ hS2 (fun _ => ?_)
    clear hK K hBi hS
    try simp only [Act.put, List.setIfInBounds_toArray, List.set_cons_zero, List.set_cons_succ]
    have hS := hS2
    clear hS2
    simp only [← hg9]
    clear hg9
    generalize wd.alloc (.cells #[.int .i64 0, .string ⟨([] : List UInt8).toArray⟩, .int .u64 0, .int .u64 0] 29) = v1 at *
    refine wpAnyH_ready (rs := [8, 10, 11]) (by kernel_rfl) (by simp) ?_
    refine AllReadyH.cons rfl (fun K hK => ?_) (AllReadyH.cons rfl (fun K hK => ?_) (AllReadyH.cons rfl (fun K hK => ?_) (AllReadyH.nil)))
    go_simp
    obtain ⟨g8, hg8⟩ : ∃ g, g = v1.heap.size := ⟨_, rfl⟩
    have hh8 : (v1.alloc (.cells #[.int .i64 0, .string ⟨([] : List UInt8).toArray⟩, .int .u64 0, .int .u64 0] 29)).heap[g8]? = some (.cells #[.int .i64 0, .string ⟨([] : List UInt8).toArray⟩, .int .u64 0, .int .u64 0] 29 (0, 0)) := by rw [hg8]; exact alloc_new _ _
    have hBi := (one_cells v1 #[.int .i64 0, .string ⟨([] : List UInt8).toArray⟩, .int .u64 0, .int .u64 0] 29).1
    have hgB8 : w0.heap.size ≤ g8 := by rw [hg8]; exact Below.size hS
    have hn9_8 : g9 < g8 := by rw [hg8]; exact heap_lt hh9
    replace hh9 := heap_below hBi hh9
    have hS2 : (fun W => Below w0.heap.size w0 W) (v1.alloc (.cells #[.int .i64 0, .string ⟨([] : List UInt8).toArray⟩, .int .u64 0, .int .u64 0] 29)) := Below.alloc hS (Below.size hS) _
    refine hK.out _ _ hS2 (fun _ => ?_)
    clear hK K hBi hS
    try simp only [Act.put, List.setIfInBounds_toArray, List.set_cons_zero, List.set_cons_succ]
    have hS := hS2
    clear hS2
    simp only [← hg8]
    clear hg8
    generalize v1.alloc (.cells #[.int .i64 0, .string ⟨([] : List UInt8).toArray⟩, .int .u64 0, .int .u64 0] 29) = v2 at *
    refine wpAnyH_ready (rs := [10, 11]) (by kernel_rfl) (by simp) ?_
    refine AllReadyH.cons rfl (fun K hK => ?_) (AllReadyH.cons rfl (fun K hK => ?_) (AllReadyH.nil))
    go_simp
    obtain ⟨g10, hg10⟩ : ∃ g, g = v2.heap.size := ⟨_, rfl⟩
    have hh10 : (v2.alloc (.cells #[.int .u64 0, .int .u64 0] 24)).heap[g10]? = some (.cells #[.int .u64 0, .int .u64 0] 24 (0, 0)) := by rw [hg10]; exact alloc_new _ _
    have hBi := (one_cells v2 #[.int .u64 0, .int .u64 0] 24).1
    have hgB10 : w0.heap.size ≤ g10 := by rw [hg10]; exact Below.size hS
    have hn9_10 : g9 < g10 := by rw [hg10]; exact heap_lt hh9
    replace hh9 := heap_below hBi hh9
    have hn8_10 : g8 < g10 := by rw [hg10]; exact heap_lt hh8
    replace hh8 := heap_below hBi hh8
    have hS2 : (fun W => Below w0.heap.size w0 W) (v2.alloc (.cells #[.int .u64 0, .int .u64 0] 24)) := Below.alloc hS (Below.size hS) _
    refine hK.out _ _ hS2 (fun _ => ?_)
    clear hK K hBi hS
    try simp only [Act.put, List.setIfInBounds_toArray, List.set_cons_zero, List.set_cons_succ]
    have hS := hS2
    clear hS2
    simp only [← hg10]
    clear hg10
    generalize v2.alloc (.cells #[.int .u64 0, .int .u64 0] 24) = v3 at *
    refine wpAnyH_ready (rs := [11]) (by kernel_rfl) (by simp) ?_
    refine AllReadyH.cons rfl (fun K hK => ?_) (AllReadyH.nil)
    go_simp
    obtain ⟨g11, hg11⟩ : ∃ g, g = v3.heap.size := ⟨_, rfl⟩
    have hh11 : (v3.alloc (.cells #[.int .u64 0, .int .u64 0] 24)).heap[g11]? = some (.cells #[.int .u64 0, .int .u64 0] 24 (0, 0)) := by rw [hg11]; exact alloc_new _ _
    have hBi := (one_cells v3 #[.int .u64 0, .int .u64 0] 24).1
    have hgB11 : w0.heap.size ≤ g11 := by rw [hg11]; exact Below.size hS
    have hn9_11 : g9 < g11 := by rw [hg11]; exact heap_lt hh9
    replace hh9 := heap_below hBi hh9
    have hn8_11 : g8 < g11 := by rw [hg11]; exact heap_lt hh8
    replace hh8 := heap_below hBi hh8
    have hn10_11 : g10 < g11 := by rw [hg11]; exact heap_lt hh10
    replace hh10 := heap_below hBi hh10
    have hS2 : (fun W => Below w0.heap.size w0 W) (v3.alloc (.cells #[.int .u64 0, .int .u64 0] 24)) := Below.alloc hS (Below.size hS) _
    refine hK.out _ _ hS2 (fun _ => ?_)
    clear hK K hBi hS
    try simp only [Act.put, List.setIfInBounds_toArray, List.set_cons_zero, List.set_cons_succ]
    have hS := hS2
    clear hS2
    simp only [← hg11]
    clear hg11
    generalize v3.alloc (.cells #[.int .u64 0, .int .u64 0] 24) = v4 at *
    rotate_left
    go_simp
    obtain ⟨g11, hg11⟩ : ∃ g, g = v2.heap.size := ⟨_, rfl⟩
    have hh11 : (v2.alloc (.cells #[.int .u64 0, .int .u64 0] 24)).heap[g11]? = some (.cells #[.int .u64 0, .int .u64 0] 24 (0, 0)) := by rw [hg11]; exact alloc_new _ _
    have hBi := (one_cells v2 #[.int .u64 0, .int .u64 0] 24).1
    have hgB11 : w0.heap.size ≤ g11 := by rw [hg11]; exact Below.size hS
    have hn9_11 : g9 < g11 := by rw [hg11]; exact heap_lt hh9
    replace hh9 := heap_below hBi hh9
    have hn8_11 : g8 < g11 := by rw [hg11]; exact heap_lt hh8
    replace hh8 := heap_below hBi hh8
    have hS2 : (fun W => Below w0.heap.size w0 W) (v2.alloc (.cells #[.int .u64 0, .int .u64 0] 24)) := Below.alloc hS (Below.size hS) _
    refine hK.out _ _ hS2 (fun _ => ?_)
    clear hK K hBi hS
    try simp only [Act.put, List.setIfInBounds_toArray, List.set_cons_zero, List.set_cons_succ]
    have hS := hS2
    clear hS2
    simp only [← hg11]
    clear hg11
    generalize v2.alloc (.cells #[.int .u64 0, .int .u64 0] 24) = v3 at *
    refine wpAnyH_ready (rs := [10]) (by kernel_rfl) (by simp) ?_
    refine AllReadyH.cons rfl (fun K hK => ?_) (AllReadyH.nil)
    go_simp
    obtain ⟨g10, hg10⟩ : ∃ g, g = v3.heap.size := ⟨_, rfl⟩
    have hh10 : (v3.alloc (.cells #[.int .u64 0, .int .u64 0] 24)).heap[g10]? = some (.cells #[.int .u64 0, .int .u64 0] 24 (0, 0)) := by rw [hg10]; exact alloc_new _ _
    have hBi := (one_cells v3 #[.int .u64 0, .int .u64 0] 24).1
    have hgB10 : w0.heap.size ≤ g10 := by rw [hg10]; exact Below.size hS
    have hn9_10 : g9 < g10 := by rw [hg10]; exact heap_lt hh9
    replace hh9 := heap_below hBi hh9
    have hn8_10 : g8 < g10 := by rw [hg10]; exact heap_lt hh8
    replace hh8 := heap_below hBi hh8
    have hn11_10 : g11 < g10 := by rw [hg10]; exact heap_lt hh11
    replace hh11 := heap_below hBi hh11
    have hS2 : (fun W => Below w0.heap.size w0 W) (v3.alloc (.cells #[.int .u64 0, .int .u64 0] 24)) := Below.alloc hS (Below.size hS) _
    refine hK.out _ _ hS2 (fun _ => ?_)
    clear hK K hBi hS
    try simp only [Act.put, List.setIfInBounds_toArray, List.set_cons_zero, List.set_cons_succ]
    have hS := hS2
    clear hS2
    simp only [← hg10]
    clear hg10
    generalize v3.alloc (.cells #[.int .u64 0, .int .u64 0] 24) = v4 at *
    rotate_left
    go_simp
    obtain ⟨g10, hg10⟩ : ∃ g, g = v1.heap.size := ⟨_, rfl⟩
    have hh10 : (v1.alloc (.cells #[.int .u64 0, .int .u64 0] 24)).heap[g10]? = some (.cells #[.int .u64 0, .int .u64 0] 24 (0, 0)) := by rw [hg10]; exact alloc_new _ _
    have hBi := (one_cells v1 #[.int .u64 0, .int .u64 0] 24).1
    have hgB10 : w0.heap.size ≤ g10 := by rw [hg10]; exact Below.size hS
    have hn9_10 : g9 < g10 := by rw [hg10]; exact heap_lt hh9
    replace hh9 := heap_below hBi hh9
    have hS2 : (fun W => Below w0.heap.size w0 W) (v1.alloc (.cells #[.int .u64 0, .int .u64 0] 24)) := Below.alloc hS (Below.size hS) _
    refine hK.out _ _ hS2 (fun _ => ?_)
    clear hK K hBi hS
    try simp only [Act.put, List.setIfInBounds_toArray, List.set_cons_zero, List.set_cons_succ]
    have hS := hS2
    clear hS2
    simp only [← hg10]
    clear hg10
    generalize v1.alloc (.cells #[.int .u64 0, .int .u64 0] 24) = v2 at *
    refine wpAnyH_ready (rs := [8, 11]) (by kernel_rfl) (by simp) ?_
    refine AllReadyH.cons rfl (fun K hK => ?_) (AllReadyH.cons rfl (fun K hK => ?_) (AllReadyH.nil))
    go_simp
    obtain ⟨g8, hg8⟩ : ∃ g, g = v2.heap.size := ⟨_, rfl⟩
    have hh8 : (v2.alloc (.cells #[.int .i64 0, .string ⟨([] : List UInt8).toArray⟩, .int .u64 0, .int .u64 0] 29)).heap[g8]? = some (.cells #[.int .i64 0, .string ⟨([] : List UInt8).toArray⟩, .int .u64 0, .int .u64 0] 29 (0, 0)) := by rw [hg8]; exact alloc_new _ _
    have hBi := (one_cells v2 #[.int .i64 0, .string ⟨([] : List UInt8).toArray⟩, .int .u64 0, .int .u64 0] 29).1
    have hgB8 : w0.heap.size ≤ g8 := by rw [hg8]; exact Below.size hS
    have hn9_8 : g9 < g8 := by rw [hg8]; exact heap_lt hh9
    replace hh9 := heap_below hBi hh9
    have hn10_8 : g10 < g8 := by rw [hg8]; exact heap_lt hh10
    replace hh10 := heap_below hBi hh10
    have hS2 : (fun W => Below w0.heap.size w0 W) (v2.alloc (.cells #[.int .i64 0, .string ⟨([] : List UInt8).toArray⟩, .int .u64 0, .int .u64 0] 29)) := Below.alloc hS (Below.size hS) _
    refine hK.out _ _ hS2 (fun _ => ?_)
    clear hK K hBi hS
    try simp only [Act.put, List.setIfInBounds_toArray, List.set_cons_zero, List.set_cons_succ]
    have hS := hS2
    clear hS2
    simp only [← hg8]
    clear hg8
    generalize v2.alloc (.cells #[.int .i64 0, .string ⟨([] : List UInt8).toArray⟩, .int .u64 0, .int .u64 0] 29) = v3 at *
    refine wpAnyH_ready (rs := [11]) (by kernel_rfl) (by simp) ?_
    refine AllReadyH.cons rfl (fun K hK => ?_) (AllReadyH.nil)
    go_simp
    obtain ⟨g11, hg11⟩ : ∃ g, g = v3.heap.size := ⟨_, rfl⟩
    have hh11 : (v3.alloc (.cells #[.int .u64 0, .int .u64 0] 24)).heap[g11]? = some (.cells #[.int .u64 0, .int .u64 0] 24 (0, 0)) := by rw [hg11]; exact alloc_new _ _
    have hBi := (one_cells v3 #[.int .u64 0, .int .u64 0] 24).1
    have hgB11 : w0.heap.size ≤ g11 := by rw [hg11]; exact Below.size hS
    have hn9_11 : g9 < g11 := by rw [hg11]; exact heap_lt hh9
    replace hh9 := heap_below hBi hh9
    have hn10_11 : g10 < g11 := by rw [hg11]; exact heap_lt hh10
    replace hh10 := heap_below hBi hh10
    have hn8_11 : g8 < g11 := by rw [hg11]; exact heap_lt hh8
    replace hh8 := heap_below hBi hh8
    have hS2 : (fun W => Below w0.heap.size w0 W) (v3.alloc (.cells #[.int .u64 0, .int .u64 0] 24)) := Below.alloc hS (Below.size hS) _
    refine hK.out _ _ hS2 (fun _ => ?_)
    clear hK K hBi hS
    try simp only [Act.put, List.setIfInBounds_toArray, List.set_cons_zero, List.set_cons_succ]
    have hS := hS2
    clear hS2
    simp only [← hg11]
    clear hg11
    generalize v3.alloc (.cells #[.int .u64 0, .int .u64 0] 24) = v4 at *
    rotate_left
    go_simp
    obtain ⟨g11, hg11⟩ : ∃ g, g = v2.heap.size := ⟨_, rfl⟩
    have hh11 : (v2.alloc (.cells #[.int .u64 0, .int .u64 0] 24)).heap[g11]? = some (.cells #[.int .u64 0, .int .u64 0] 24 (0, 0)) := by rw [hg11]; exact alloc_new _ _
    have hBi := (one_cells v2 #[.int .u64 0, .int .u64 0] 24).1
    have hgB11 : w0.heap.size ≤ g11 := by rw [hg11]; exact Below.size hS
    have hn9_11 : g9 < g11 := by rw [hg11]; exact heap_lt hh9
    replace hh9 := heap_below hBi hh9
    have hn10_11 : g10 < g11 := by rw [hg11]; exact heap_lt hh10
    replace hh10 := heap_below hBi hh10
    have hS2 : (fun W => Below w0.heap.size w0 W) (v2.alloc (.cells #[.int .u64 0, .int .u64 0] 24)) := Below.alloc hS (Below.size hS) _
    refine hK.out _ _ hS2 (fun _ => ?_)
    clear hK K hBi hS
    try simp only [Act.put, List.setIfInBounds_toArray, List.set_cons_zero, List.set_cons_succ]
    have hS := hS2
    clear hS2
    simp only [← hg11]
    clear hg11
    generalize v2.alloc (.cells #[.int .u64 0, .int .u64 0] 24) = v3 at *
    refine wpAnyH_ready (rs := [8]) (by kernel_rfl) (by simp) ?_
    refine AllReadyH.cons rfl (fun K hK => ?_) (AllReadyH.nil)
    go_simp
    obtain ⟨g8, hg8⟩ : ∃ g, g = v3.heap.size := ⟨_, rfl⟩
    have hh8 : (v3.alloc (.cells #[.int .i64 0, .string ⟨([] : List UInt8).toArray⟩, .int .u64 0, .int .u64 0] 29)).heap[g8]? = some (.cells #[.int .i64 0, .string ⟨([] : List UInt8).toArray⟩, .int .u64 0, .int .u64 0] 29 (0, 0)) := by rw [hg8]; exact alloc_new _ _
    have hBi := (one_cells v3 #[.int .i64 0, .string ⟨([] : List UInt8).toArray⟩, .int .u64 0, .int .u64 0] 29).1
    have hgB8 : w0.heap.size ≤ g8 := by rw [hg8]; exact Below.size hS
    have hn9_8 : g9 < g8 := by rw [hg8]; exact heap_lt hh9
    replace hh9 := heap_below hBi hh9
    have hn10_8 : g10 < g8 := by rw [hg8]; exact heap_lt hh10
    replace hh10 := heap_below hBi hh10
    have hn11_8 : g11 < g8 := by rw [hg8]; exact heap_lt hh11
    replace hh11 := heap_below hBi hh11
    have hS2 : (fun W => Below w0.heap.size w0 W) (v3.alloc (.cells #[.int .i64 0, .string ⟨([] : List UInt8).toArray⟩, .int .u64 0, .int .u64 0] 29)) := Below.alloc hS (Below.size hS) _
    refine hK.out _ _ hS2 (fun _ => ?_)
    clear hK K hBi hS
    try simp only [Act.put, List.setIfInBounds_toArray, List.set_cons_zero, List.set_cons_succ]
    have hS := hS2
    clear hS2
    simp only [← hg8]
    clear hg8
    generalize v3.alloc (.cells #[.int .i64 0, .string ⟨([] : List UInt8).toArray⟩, .int .u64 0, .int .u64 0] 29) = v4 at *
    rotate_left
    go_simp
    obtain ⟨g11, hg11⟩ : ∃ g, g = v1.heap.size := ⟨_, rfl⟩
    have hh11 : (v1.alloc (.cells #[.int .u64 0, .int .u64 0] 24)).heap[g11]? = some (.cells #[.int .u64 0, .int .u64 0] 24 (0, 0)) := by rw [hg11]; exact alloc_new _ _
    have hBi := (one_cells v1 #[.int .u64 0, .int .u64 0] 24).1
    have hgB11 : w0.heap.size ≤ g11 := by rw [hg11]; exact Below.size hS
    have hn9_11 : g9 < g11 := by rw [hg11]; exact heap_lt hh9
    replace hh9 := heap_below hBi hh9
    have hS2 : (fun W => Below w0.heap.size w0 W) (v1.alloc (.cells #[.int .u64 0, .int .u64 0] 24)) := Below.alloc hS (Below.size hS) _
    refine hK.out _ _ hS2 (fun _ => ?_)
    clear hK K hBi hS
    try simp only [Act.put, List.setIfInBounds_toArray, List.set_cons_zero, List.set_cons_succ]
    have hS := hS2
    clear hS2
    simp only [← hg11]
    clear hg11
    generalize v1.alloc (.cells #[.int .u64 0, .int .u64 0] 24) = v2 at *
    refine wpAnyH_ready (rs := [8, 10]) (by kernel_rfl) (by simp) ?_
    refine AllReadyH.cons rfl (fun K hK => ?_) (AllReadyH.cons rfl (fun K hK => ?_) (AllReadyH.nil))
    go_simp
    obtain ⟨g8, hg8⟩ : ∃ g, g = v2.heap.size := ⟨_, rfl⟩
    have hh8 : (v2.alloc (.cells #[.int .i64 0, .string ⟨([] : List UInt8).toArray⟩, .int .u64 0, .int .u64 0] 29)).heap[g8]? = some (.cells #[.int .i64 0, .string ⟨([] : List UInt8).toArray⟩, .int .u64 0, .int .u64 0] 29 (0, 0)) := by rw [hg8]; exact alloc_new _ _
    have hBi := (one_cells v2 #[.int .i64 0, .string ⟨([] : List UInt8).toArray⟩, .int .u64 0, .int .u64 0] 29).1
    have hgB8 : w0.heap.size ≤ g8 := by rw [hg8]; exact Below.size hS
    have hn9_8 : g9 < g8 := by rw [hg8]; exact heap_lt hh9
    replace hh9 := heap_below hBi hh9
    have hn11_8 : g11 < g8 := by rw [hg8]; exact heap_lt hh11
    replace hh11 := heap_below hBi hh11
    have hS2 : (fun W => Below w0.heap.size w0 W) (v2.alloc (.cells #[.int .i64 0, .string ⟨([] : List UInt8).toArray⟩, .int .u64 0, .int .u64 0] 29)) := Below.alloc hS (Below.size hS) _
    refine hK.out _ _ hS2 (fun _ => ?_)
    clear hK K hBi hS
    try simp only [Act.put, List.setIfInBounds_toArray, List.set_cons_zero, List.set_cons_succ]
    have hS := hS2
    clear hS2
    simp only [← hg8]
    clear hg8
    generalize v2.alloc (.cells #[.int .i64 0, .string ⟨([] : List UInt8).toArray⟩, .int .u64 0, .int .u64 0] 29) = v3 at *
    refine wpAnyH_ready (rs := [10]) (by kernel_rfl) (by simp) ?_
    refine AllReadyH.cons rfl (fun K hK => ?_) (AllReadyH.nil)
    go_simp
    obtain ⟨g10, hg10⟩ : ∃ g, g = v3.heap.size := ⟨_, rfl⟩
    have hh10 : (v3.alloc (.cells #[.int .u64 0, .int .u64 0] 24)).heap[g10]? = some (.cells #[.int .u64 0, .int .u64 0] 24 (0, 0)) := by rw [hg10]; exact alloc_new _ _
    have hBi := (one_cells v3 #[.int .u64 0, .int .u64 0] 24).1
    have hgB10 : w0.heap.size ≤ g10 := by rw [hg10]; exact Below.size hS
    have hn9_10 : g9 < g10 := by rw [hg10]; exact heap_lt hh9
    replace hh9 := heap_below hBi hh9
    have hn11_10 : g11 < g10 := by rw [hg10]; exact heap_lt hh11
    replace hh11 := heap_below hBi hh11
    have hn8_10 : g8 < g10 := by rw [hg10]; exact heap_lt hh8
    replace hh8 := heap_below hBi hh8
    have hS2 : (fun W => Below w0.heap.size w0 W) (v3.alloc (.cells #[.int .u64 0, .int .u64 0] 24)) := Below.alloc hS (Below.size hS) _
    refine hK.out _ _ hS2 (fun _ => ?_)
    clear hK K hBi hS
    try simp only [Act.put, List.setIfInBounds_toArray, List.set_cons_zero, List.set_cons_succ]
    have hS := hS2
    clear hS2
    simp only [← hg10]
    clear hg10
    generalize v3.alloc (.cells #[.int .u64 0, .int .u64 0] 24) = v4 at *
    rotate_left
    go_simp
    obtain ⟨g10, hg10⟩ : ∃ g, g = v2.heap.size := ⟨_, rfl⟩
    have hh10 : (v2.alloc (.cells #[.int .u64 0, .int .u64 0] 24)).heap[g10]? = some (.cells #[.int .u64 0, .int .u64 0] 24 (0, 0)) := by rw [hg10]; exact alloc_new _ _
    have hBi := (one_cells v2 #[.int .u64 0, .int .u64 0] 24).1
    have hgB10 : w0.heap.size ≤ g10 := by rw [hg10]; exact Below.size hS
    have hn9_10 : g9 < g10 := by rw [hg10]; exact heap_lt hh9
    replace hh9 := heap_below hBi hh9
    have hn11_10 : g11 < g10 := by rw [hg10]; exact heap_lt hh11
    replace hh11 := heap_below hBi hh11
    have hS2 : (fun W => Below w0.heap.size w0 W) (v2.alloc (.cells #[.int .u64 0, .int .u64 0] 24)) := Below.alloc hS (Below.size hS) _
    refine hK.out _ _ hS2 (fun _ => ?_)
    clear hK K hBi hS
    try simp only [Act.put, List.setIfInBounds_toArray, List.set_cons_zero, List.set_cons_succ]
    have hS := hS2
    clear hS2
    simp only [← hg10]
    clear hg10
    generalize v2.alloc (.cells #[.int .u64 0, .int .u64 0] 24) = v3 at *
    refine wpAnyH_ready (rs := [8]) (by kernel_rfl) (by simp) ?_
    refine AllReadyH.cons rfl (fun K hK => ?_) (AllReadyH.nil)
    go_simp
    obtain ⟨g8, hg8⟩ : ∃ g, g = v3.heap.size := ⟨_, rfl⟩
    have hh8 : (v3.alloc (.cells #[.int .i64 0, .string ⟨([] : List UInt8).toArray⟩, .int .u64 0, .int .u64 0] 29)).heap[g8]? = some (.cells #[.int .i64 0, .string ⟨([] : List UInt8).toArray⟩, .int .u64 0, .int .u64 0] 29 (0, 0)) := by rw [hg8]; exact alloc_new _ _
    have hBi := (one_cells v3 #[.int .i64 0, .string ⟨([] : List UInt8).toArray⟩, .int .u64 0, .int .u64 0] 29).1
    have hgB8 : w0.heap.size ≤ g8 := by rw [hg8]; exact Below.size hS
    have hn9_8 : g9 < g8 := by rw [hg8]; exact heap_lt hh9
    replace hh9 := heap_below hBi hh9
    have hn11_8 : g11 < g8 := by rw [hg8]; exact heap_lt hh11
    replace hh11 := heap_below hBi hh11
    have hn10_8 : g10 < g8 := by rw [hg8]; exact heap_lt hh10
    replace hh10 := heap_below hBi hh10
    have hS2 : (fun W => Below w0.heap.size w0 W) (v3.alloc (.cells #[.int .i64 0, .string ⟨([] : List UInt8).toArray⟩, .int .u64 0, .int .u64 0] 29)) := Below.alloc hS (Below.size hS) _
    refine hK.out _ _ hS2 (fun _ => ?_)
    clear hK K hBi hS
    try simp only [Act.put, List.setIfInBounds_toArray, List.set_cons_zero, List.set_cons_succ]
    have hS := hS2
    clear hS2
    simp only [← hg8]
    clear hg8
    generalize v3.alloc (.cells #[.int .i64 0, .string ⟨([] : List UInt8).toArray⟩, .int .u64 0, .int .u64 0] 29) = v4 at *
    rotate_left
    go_simp
    obtain ⟨g10, hg10⟩ : ∃ g, g = wd.heap.size := ⟨_, rfl⟩
    have hh10 : (wd.alloc (.cells #[.int .u64 0, .int .u64 0] 24)).heap[g10]? = some (.cells #[.int .u64 0, .int .u64 0] 24 (0, 0)) := by rw [hg10]; exact alloc_new _ _
    have hBi := (one_cells wd #[.int .u64 0, .int .u64 0] 24).1
    have hgB10 : w0.heap.size ≤ g10 := by rw [hg10]; exact Below.size hS
    have hS2 : (fun W => Below w0.heap.size w0 W) (wd.alloc (.cells #[.int .u64 0, .int .u64 0] 24)) := Below.alloc hS (Below.size hS) _
    refine hK.out _ _ hS2 (fun _ => ?_)
    clear hK K hBi hS
    try simp only [Act.put, List.setIfInBounds_toArray, List.set_cons_zero, List.set_cons_succ]
    have hS := hS2
    clear hS2
    simp only [← hg10]
    clear hg10
    generalize wd.alloc (.cells #[.int .u64 0, .int .u64 0] 24) = v1 at *
    refine wpAnyH_ready (rs := [8, 9, 11]) (by kernel_rfl) (by simp) ?_
    refine AllReadyH.cons rfl (fun K hK => ?_) (AllReadyH.cons rfl (fun K hK => ?_) (AllReadyH.cons rfl (fun K hK => ?_) (AllReadyH.nil)))
    go_simp
    obtain ⟨g8, hg8⟩ : ∃ g, g = v1.heap.size := ⟨_, rfl⟩
    have hh8 : (v1.alloc (.cells #[.int .i64 0, .string ⟨([] : List UInt8).toArray⟩, .int .u64 0, .int .u64 0] 29)).heap[g8]? = some (.cells #[.int .i64 0, .string ⟨([] : List UInt8).toArray⟩, .int .u64 0, .int .u64 0] 29 (0, 0)) := by rw [hg8]; exact alloc_new _ _
    have hBi := (one_cells v1 #[.int .i64 0, .string ⟨([] : List UInt8).toArray⟩, .int .u64 0, .int .u64 0] 29).1
    have hgB8 : w0.heap.size ≤ g8 := by rw [hg8]; exact Below.size hS
    have hn10_8 : g10 < g8 := by rw [hg8]; exact heap_lt hh10
    replace hh10 := heap_below hBi hh10
    have hS2 : (fun W => Below w0.heap.size w0 W) (v1.alloc (.cells #[.int .i64 0, .string ⟨([] : List UInt8).toArray⟩, .int .u64 0, .int .u64 0] 29)) := Below.alloc hS (Below.size hS) _
    refine hK.out _ _ hS2 (fun _ => ?_)
    clear hK K hBi hS
    try simp only [Act.put, List.setIfInBounds_toArray, List.set_cons_zero, List.set_cons_succ]
    have hS := hS2
    clear hS2
    simp only [← hg8]
    clear hg8
    generalize v1.alloc (.cells #[.int .i64 0, .string ⟨([] : List UInt8).toArray⟩, .int .u64 0, .int .u64 0] 29) = v2 at *
    refine wpAnyH_ready (rs := [9, 11]) (by kernel_rfl) (by simp) ?_
    refine AllReadyH.cons rfl (fun K hK => ?_) (AllReadyH.cons rfl (fun K hK => ?_) (AllReadyH.nil))
    go_simp
    obtain ⟨g9, hg9⟩ : ∃ g, g = v2.heap.size := ⟨_, rfl⟩
    have hh9 : (v2.alloc (.cells #[.int .i64 0, .string ⟨([] : List UInt8).toArray⟩, .int .u64 0, .int .u64 0] 29)).heap[g9]? = some (.cells #[.int .i64 0, .string ⟨([] : List UInt8).toArray⟩, .int .u64 0, .int .u64 0] 29 (0, 0)) := by rw [hg9]; exact alloc_new _ _
    have hBi := (one_cells v2 #[.int .i64 0, .string ⟨([] : List UInt8).toArray⟩, .int .u64 0, .int .u64 0] 29).1
    have hgB9 : w0.heap.size ≤ g9 := by rw [hg9]; exact Below.size hS
    have hn10_9 : g10 < g9 := by rw [hg9]; exact heap_lt hh10
    replace hh10 := heap_below hBi hh10
    have hn8_9 : g8 < g9 := by rw [hg9]; exact heap_lt hh8
    replace hh8 := heap_below hBi hh8
    have hS2 : (fun W => Below w0.heap.size w0 W) (v2.alloc (.cells #[.int .i64 0, .string ⟨([] : List UInt8).toArray⟩, .int .u64 0, .int .u64 0] 29)) := Below.alloc hS (Below.size hS) _
    refine hK.out _ _ hS2 (fun _ => ?_)
    clear hK K hBi hS
    try simp only [Act.put, List.setIfInBounds_toArray, List.set_cons_zero, List.set_cons_succ]
    have hS := hS2
    clear hS2
    simp only [← hg9]
    clear hg9
    generalize v2.alloc (.cells #[.int .i64 0, .string ⟨([] : List UInt8).toArray⟩, .int .u64 0, .int .u64 0] 29) = v3 at *
    refine wpAnyH_ready (rs := [11]) (by kernel_rfl) (by simp) ?_
    refine AllReadyH.cons rfl (fun K hK => ?_) (AllReadyH.nil)
    go_simp
    obtain ⟨g11, hg11⟩ : ∃ g, g = v3.heap.size := ⟨_, rfl⟩
    have hh11 : (v3.alloc (.cells #[.int .u64 0, .int .u64 0] 24)).heap[g11]? = some (.cells #[.int .u64 0, .int .u64 0] 24 (0, 0)) := by rw [hg11]; exact alloc_new _ _
    have hBi := (one_cells v3 #[.int .u64 0, .int .u64 0] 24).1
    have hgB11 : w0.heap.size ≤ g11 := by rw [hg11]; exact Below.size hS
    have hn10_11 : g10 < g11 := by rw [hg11]; exact heap_lt hh10
    replace hh10 := heap_below hBi hh10
    have hn8_11 : g8 < g11 := by rw [hg11]; exact heap_lt hh8
    replace hh8 := heap_below hBi hh8
    have hn9_11 : g9 < g11 := by rw [hg11]; exact heap_lt hh9
    replace hh9 := heap_below hBi hh9
    have hS2 : (fun W => Below w0.heap.size w0 W) (v3.alloc (.cells #[.int .u64 0, .int .u64 0] 24)) := Below.alloc hS (Below.size hS) _
    refine hK.out _ _ hS2 (fun _ => ?_)
    clear hK K hBi hS
    try simp only [Act.put, List.setIfInBounds_toArray, List.set_cons_zero, List.set_cons_succ]
    have hS := hS2
    clear hS2
    simp only [← hg11]
    clear hg11
    generalize v3.alloc (.cells #[.int .u64 0, .int .u64 0] 24) = v4 at *
    rotate_left
    go_simp
    obtain ⟨g11, hg11⟩ : ∃ g, g = v2.heap.size := ⟨_, rfl⟩
    have hh11 : (v2.alloc (.cells #[.int .u64 0, .int .u64 0] 24)).heap[g11]? = some (.cells #[.int .u64 0, .int .u64 0] 24 (0, 0)) := by rw [hg11]; exact alloc_new _ _
    have hBi := (one_cells v2 #[.int .u64 0, .int .u64 0] 24).1
    have hgB11 : w0.heap.size ≤ g11 := by rw [hg11]; exact Below.size hS
    have hn10_11 : g10 < g11 := by rw [hg11]; exact heap_lt hh10
    replace hh10 := heap_below hBi hh10
    have hn8_11 : g8 < g11 := by rw [hg11]; exact heap_lt hh8
    replace hh8 := heap_below hBi hh8
    have hS2 : (fun W => Below w0.heap.size w0 W) (v2.alloc (.cells #[.int .u64 0, .int .u64 0] 24)) := Below.alloc hS (Below.size hS) _
    refine hK.out _ _ hS2 (fun _ => ?_)
    clear hK K hBi hS
    try simp only [Act.put, List.setIfInBounds_toArray, List.set_cons_zero, List.set_cons_succ]
    have hS := hS2
    clear hS2
    simp only [← hg11]
    clear hg11
    generalize v2.alloc (.cells #[.int .u64 0, .int .u64 0] 24) = v3 at *
    refine wpAnyH_ready (rs := [9]) (by kernel_rfl) (by simp) ?_
    refine AllReadyH.cons rfl (fun K hK => ?_) (AllReadyH.nil)
    go_simp
    obtain ⟨g9, hg9⟩ : ∃ g, g = v3.heap.size := ⟨_, rfl⟩
    have hh9 : (v3.alloc (.cells #[.int .i64 0, .string ⟨([] : List UInt8).toArray⟩, .int .u64 0, .int .u64 0] 29)).heap[g9]? = some (.cells #[.int .i64 0, .string ⟨([] : List UInt8).toArray⟩, .int .u64 0, .int .u64 0] 29 (0, 0)) := by rw [hg9]; exact alloc_new _ _
    have hBi := (one_cells v3 #[.int .i64 0, .string ⟨([] : List UInt8).toArray⟩, .int .u64 0, .int .u64 0] 29).1
    have hgB9 : w0.heap.size ≤ g9 := by rw [hg9]; exact Below.size hS
    have hn10_9 : g10 < g9 := by rw [hg9]; exact heap_lt hh10
    replace hh10 := heap_below hBi hh10
    have hn8_9 : g8 < g9 := by rw [hg9]; exact heap_lt hh8
    replace hh8 := heap_below hBi hh8
    have hn11_9 : g11 < g9 := by rw [hg9]; exact heap_lt hh11
    replace hh11 := heap_below hBi hh11
    have hS2 : (fun W => Below w0.heap.size w0 W) (v3.alloc (.cells #[.int .i64 0, .string ⟨([] : List UInt8).toArray⟩, .int .u64 0, .int .u64 0] 29)) := Below.alloc hS (Below.size hS) _
    refine hK.out _ _ hS2 (fun _ => ?_)
    clear hK K hBi hS
    try simp only [Act.put, List.setIfInBounds_toArray, List.set_cons_zero, List.set_cons_succ]
    have hS := hS2
    clear hS2
    simp only [← hg9]
    clear hg9
    generalize v3.alloc (.cells #[.int .i64 0, .string ⟨([] : List UInt8).toArray⟩, .int .u64 0, .int .u64 0] 29) = v4 at *
    rotate_left
    go_simp
    obtain ⟨g9, hg9⟩ : ∃ g, g = v1.heap.size := ⟨_, rfl⟩
    have hh9 : (v1.alloc (.cells #[.int .i64 0, .string ⟨([] : List UInt8).toArray⟩, .int .u64 0, .int .u64 0] 29)).heap[g9]? = some (.cells #[.int .i64 0, .string ⟨([] : List UInt8).toArray⟩, .int .u64 0, .int .u64 0] 29 (0, 0)) := by rw [hg9]; exact alloc_new _ _
    have hBi := (one_cells v1 #[.int .i64 0, .string ⟨([] : List UInt8).toArray⟩, .int .u64 0, .int .u64 0] 29).1
    have hgB9 : w0.heap.size ≤ g9 := by rw [hg9]; exact Below.size hS
    have hn10_9 : g10 < g9 := by rw [hg9]; exact heap_lt hh10
    replace hh10 := heap_below hBi hh10
    have hS2 : (fun W => Below w0.heap.size w0 W) (v1.alloc (.cells #[.int .i64 0, .string ⟨([] : List UInt8).toArray⟩, .int .u64 0, .int .u64 0] 29)) := Below.alloc hS (Below.size hS) _
    refine hK.out _ _ hS2 (fun _ => ?_)
    clear hK K hBi hS
    try simp only [Act.put, List.setIfInBounds_toArray, List.set_cons_zero, List.set_cons_succ]
    have hS := hS2
    clear hS2
    simp only [← hg9]
    clear hg9
    generalize v1.alloc (.cells #[.int .i64 0, .string ⟨([] : List UInt8).toArray⟩, .int .u64 0, .int .u64 0] 29) = v2 at *
    refine wpAnyH_ready (rs := [8, 11]) (by kernel_rfl) (by simp) ?_
    refine AllReadyH.cons rfl (fun K hK => ?_) (AllReadyH.cons rfl (fun K hK => ?_) (AllReadyH.nil))
    go_simp
    obtain ⟨g8, hg8⟩ : ∃ g, g = v2.heap.size := ⟨_, rfl⟩
    have hh8 : (v2.alloc (.cells #[.int .i64 0, .string ⟨([] : List UInt8).toArray⟩, .int .u64 0, .int .u64 0] 29)).heap[g8]? = some (.cells #[.int .i64 0, .string ⟨([] : List UInt8).toArray⟩, .int .u64 0, .int .u64 0] 29 (0, 0)) := by rw [hg8]; exact alloc_new _ _
    have hBi := (one_cells v2 #[.int .i64 0, .string ⟨([] : List UInt8).toArray⟩, .int .u64 0, .int .u64 0] 29).1
    have hgB8 : w0.heap.size ≤ g8 := by rw [hg8]; exact Below.size hS
    have hn10_8 : g10 < g8 := by rw [hg8]; exact heap_lt hh10
    replace hh10 := heap_below hBi hh10
    have hn9_8 : g9 < g8 := by rw [hg8]; exact heap_lt hh9
    replace hh9 := heap_below hBi hh9
    have hS2 : (fun W => Below w0.heap.size w0 W) (v2.alloc (.cells #[.int .i64 0, .string ⟨([] : List UInt8).toArray⟩, .int .u64 0, .int .u64 0] 29)) := Below.alloc hS (Below.size hS) _
    refine hK.out _ _ hS2 (fun _ => ?_)
    clear hK K hBi hS
    try simp only [Act.put, List.setIfInBounds_toArray, List.set_cons_zero, List.set_cons_succ]
    have hS := hS2
    clear hS2
    simp only [← hg8]
    clear hg8
    generalize v2.alloc (.cells #[.int .i64 0, .string ⟨([] : List UInt8).toArray⟩, .int .u64 0, .int .u64 0] 29) = v3 at *
    refine wpAnyH_ready (rs := [11]) (by kernel_rfl) (by simp) ?_
    refine AllReadyH.cons rfl (fun K hK => ?_) (AllReadyH.nil)
    go_simp
    obtain ⟨g11, hg11⟩ : ∃ g, g = v3.heap.size := ⟨_, rfl⟩
    have hh11 : (v3.alloc (.cells #[.int .u64 0, .int .u64 0] 24)).heap[g11]? = some (.cells #[.int .u64 0, .int .u64 0] 24 (0, 0)) := by rw [hg11]; exact alloc_new _ _
    have hBi := (one_cells v3 #[.int .u64 0, .int .u64 0] 24).1
    have hgB11 : w0.heap.size ≤ g11 := by rw [hg11]; exact Below.size hS
    have hn10_11 : g10 < g11 := by rw [hg11]; exact heap_lt hh10
    replace hh10 := heap_below hBi hh10
    have hn9_11 : g9 < g11 := by rw [hg11]; exact heap_lt hh9
    replace hh9 := heap_below hBi hh9
    have hn8_11 : g8 < g11 := by rw [hg11]; exact heap_lt hh8
    replace hh8 := heap_below hBi hh8
    have hS2 : (fun W => Below w0.heap.size w0 W) (v3.alloc (.cells #[.int .u64 0, .int .u64 0] 24)) := Below.alloc hS (Below.size hS) _
    refine hK.out _ _ hS2 (fun _ => ?_)
    clear hK K hBi hS
    try simp only [Act.put, List.setIfInBounds_toArray, List.set_cons_zero, List.set_cons_succ]
    have hS := hS2
    clear hS2
    simp only [← hg11]
    clear hg11
    generalize v3.alloc (.cells #[.int .u64 0, .int .u64 0] 24) = v4 at *
    rotate_left
    go_simp
    obtain ⟨g11, hg11⟩ : ∃ g, g = v2.heap.size := ⟨_, rfl⟩
    have hh11 : (v2.alloc (.cells #[.int .u64 0, .int .u64 0] 24)).heap[g11]? = some (.cells #[.int .u64 0, .int .u64 0] 24 (0, 0)) := by rw [hg11]; exact alloc_new _ _
    have hBi := (one_cells v2 #[.int .u64 0, .int .u64 0] 24).1
    have hgB11 : w0.heap.size ≤ g11 := by rw [hg11]; exact Below.size hS
    have hn10_11 : g10 < g11 := by rw [hg11]; exact heap_lt hh10
    replace hh10 := heap_below hBi hh10
    have hn9_11 : g9 < g11 := by rw [hg11]; exact heap_lt hh9
    replace hh9 := heap_below hBi hh9
    have hS2 : (fun W => Below w0.heap.size w0 W) (v2.alloc (.cells #[.int .u64 0, .int .u64 0] 24)) := Below.alloc hS (Below.size hS) _
    refine hK.out _ _ hS2 (fun _ => ?_)
    clear hK K hBi hS
    try simp only [Act.put, List.setIfInBounds_toArray, List.set_cons_zero, List.set_cons_succ]
    have hS := hS2
    clear hS2
    simp only [← hg11]
    clear hg11
    generalize v2.alloc (.cells #[.int .u64 0, .int .u64 0] 24) = v3 at *
    refine wpAnyH_ready (rs := [8]) (by kernel_rfl) (by simp) ?_
    refine AllReadyH.cons rfl (fun K hK => ?_) (AllReadyH.nil)
    go_simp
    obtain ⟨g8, hg8⟩ : ∃ g, g = v3.heap.size := ⟨_, rfl⟩
    have hh8 : (v3.alloc (.cells #[.int .i64 0, .string ⟨([] : List UInt8).toArray⟩, .int .u64 0, .int .u64 0] 29)).heap[g8]? = some (.cells #[.int .i64 0, .string ⟨([] : List UInt8).toArray⟩, .int .u64 0, .int .u64 0] 29 (0, 0)) := by rw [hg8]; exact alloc_new _ _
    have hBi := (one_cells v3 #[.int .i64 0, .string ⟨([] : List UInt8).toArray⟩, .int .u64 0, .int .u64 0] 29).1
    have hgB8 : w0.heap.size ≤ g8 := by rw [hg8]; exact Below.size hS
    have hn10_8 : g10 < g8 := by rw [hg8]; exact heap_lt hh10
    replace hh10 := heap_below hBi hh10
    have hn9_8 : g9 < g8 := by rw [hg8]; exact heap_lt hh9
    replace hh9 := heap_below hBi hh9
    have hn11_8 : g11 < g8 := by rw [hg8]; exact heap_lt hh11
    replace hh11 := heap_below hBi hh11
    have hS2 : (fun W => Below w0.heap.size w0 W) (v3.alloc (.cells #[.int .i64 0, .string ⟨([] : List UInt8).toArray⟩, .int .u64 0, .int .u64 0] 29)) := Below.alloc hS (Below.size hS) _
    refine hK.out _ _ hS2 (fun _ => ?_)
    clear hK K hBi hS
    try simp only [Act.put, List.setIfInBounds_toArray, List.set_cons_zero, List.set_cons_succ]
    have hS := hS2
    clear hS2
    simp only [← hg8]
    clear hg8
    generalize v3.alloc (.cells #[.int .i64 0, .string ⟨([] : List UInt8).toArray⟩, .int .u64 0, .int .u64 0] 29) = v4 at *
    rotate_left
    go_simp
    obtain ⟨g11, hg11⟩ : ∃ g, g = v1.heap.size := ⟨_, rfl⟩
    have hh11 : (v1.alloc (.cells #[.int .u64 0, .int .u64 0] 24)).heap[g11]? = some (.cells #[.int .u64 0, .int .u64 0] 24 (0, 0)) := by rw [hg11]; exact alloc_new _ _
    have hBi := (one_cells v1 #[.int .u64 0, .int .u64 0] 24).1
    have hgB11 : w0.heap.size ≤ g11 := by rw [hg11]; exact Below.size hS
    have hn10_11 : g10 < g11 := by rw [hg11]; exact heap_lt hh10
    replace hh10 := heap_below hBi hh10
    have hS2 : (fun W => Below w0.heap.size w0 W) (v1.alloc (.cells #[.int .u64 0, .int .u64 0] 24)) := Below.alloc hS (Below.size hS) _
    refine hK.out _ _ hS2 (fun _ => ?_)
    clear hK K hBi hS
    try simp only [Act.put, List.setIfInBounds_toArray, List.set_cons_zero, List.set_cons_succ]
    have hS := hS2
    clear hS2
    simp only [← hg11]
    clear hg11
    generalize v1.alloc (.cells #[.int .u64 0, .int .u64 0] 24) = v2 at *
    refine wpAnyH_ready (rs := [8, 9]) (by kernel_rfl) (by simp) ?_
    refine AllReadyH.cons rfl (fun K hK => ?_) (AllReadyH.cons rfl (fun K hK => ?_) (AllReadyH.nil))
    go_simp
    obtain ⟨g8, hg8⟩ : ∃ g, g = v2.heap.size := ⟨_, rfl⟩
    have hh8 : (v2.alloc (.cells #[.int .i64 0, .string ⟨([] : List UInt8).toArray⟩, .int .u64 0, .int .u64 0] 29)).heap[g8]? = some (.cells #[.int .i64 0, .string ⟨([] : List UInt8).toArray⟩, .int .u64 0, .int .u64 0] 29 (0, 0)) := by rw [hg8]; exact alloc_new _ _
    have hBi := (one_cells v2 #[.int .i64 0, .string ⟨([] : List UInt8).toArray⟩, .int .u64 0, .int .u64 0] 29).1
    have hgB8 : w0.heap.size ≤ g8 := by rw [hg8]; exact Below.size hS
    have hn10_8 : g10 < g8 := by rw [hg8]; exact heap_lt hh10
    replace hh10 := heap_below hBi hh10
    have hn11_8 : g11 < g8 := by rw [hg8]; exact heap_lt hh11
    replace hh11 := heap_below hBi hh11
    have hS2 : (fun W => Below w0.heap.size w0 W) (v2.alloc (.cells #[.int .i64 0, .string ⟨([] : List UInt8).toArray⟩, .int .u64 0, .int .u64 0] 29)) := Below.alloc hS (Below.size hS) _
    refine hK.out _ _ hS2 (fun _ => ?_)
    clear hK K hBi hS
    try simp only [Act.put, List.setIfInBounds_toArray, List.set_cons_zero, List.set_cons_succ]
    have hS := hS2
    clear hS2
    simp only [← hg8]
    clear hg8
    generalize v2.alloc (.cells #[.int .i64 0, .string ⟨([] : List UInt8).toArray⟩, .int .u64 0, .int .u64 0] 29) = v3 at *
    refine wpAnyH_ready (rs := [9]) (by kernel_rfl) (by simp) ?_
    refine AllReadyH.cons rfl (fun K hK => ?_) (AllReadyH.nil)
    go_simp
    obtain ⟨g9, hg9⟩ : ∃ g, g = v3.heap.size := ⟨_, rfl⟩
    have hh9 : (v3.alloc (.cells #[.int .i64 0, .string ⟨([] : List UInt8).toArray⟩, .int .u64 0, .int .u64 0] 29)).heap[g9]? = some (.cells #[.int .i64 0, .string ⟨([] : List UInt8).toArray⟩, .int .u64 0, .int .u64 0] 29 (0, 0)) := by rw [hg9]; exact alloc_new _ _
    have hBi := (one_cells v3 #[.int .i64 0, .string ⟨([] : List UInt8).toArray⟩, .int .u64 0, .int .u64 0] 29).1
    have hgB9 : w0.heap.size ≤ g9 := by rw [hg9]; exact Below.size hS
    have hn10_9 : g10 < g9 := by rw [hg9]; exact heap_lt hh10
    replace hh10 := heap_below hBi hh10
    have hn11_9 : g11 < g9 := by rw [hg9]; exact heap_lt hh11
    replace hh11 := heap_below hBi hh11
    have hn8_9 : g8 < g9 := by rw [hg9]; exact heap_lt hh8
    replace hh8 := heap_below hBi hh8
    have hS2 : (fun W => Below w0.heap.size w0 W) (v3.alloc (.cells #[.int .i64 0, .string ⟨([] : List UInt8).toArray⟩, .int .u64 0, .int .u64 0] 29)) := Below.alloc hS (Below.size hS) _
    refine hK.out _ _ hS2 (fun _ => ?_)
    clear hK K hBi hS
    try simp only [Act.put, List.setIfInBounds_toArray, List.set_cons_zero, List.set_cons_succ]
    have hS := hS2
    clear hS2
    simp only [← hg9]
    clear hg9
    generalize v3.alloc (.cells #[.int .i64 0, .string ⟨([] : List UInt8).toArray⟩, .int .u64 0, .int .u64 0] 29) = v4 at *
    rotate_left
    go_simp
    obtain ⟨g9, hg9⟩ : ∃ g, g = v2.heap.size := ⟨_, rfl⟩
    have hh9 : (v2.alloc (.cells #[.int .i64 0, .string ⟨([] : List UInt8).toArray⟩, .int .u64 0, .int .u64 0] 29)).heap[g9]? = some (.cells #[.int .i64 0, .string ⟨([] : List UInt8).toArray⟩, .int .u64 0, .int .u64 0] 29 (0, 0)) := by rw [hg9]; exact alloc_new _ _
    have hBi := (one_cells v2 #[.int .i64 0, .string ⟨([] : List UInt8).toArray⟩, .int .u64 0, .int .u64 0] 29).1
    have hgB9 : w0.heap.size ≤ g9 := by rw [hg9]; exact Below.size hS
    have hn10_9 : g10 < g9 := by rw [hg9]; exact heap_lt hh10
    replace hh10 := heap_below hBi hh10
    have hn11_9 : g11 < g9 := by rw [hg9]; exact heap_lt hh11
    replace hh11 := heap_below hBi hh11
    have hS2 : (fun W => Below w0.heap.size w0 W) (v2.alloc (.cells #[.int .i64 0, .string ⟨([] : List UInt8).toArray⟩, .int .u64 0, .int .u64 0] 29)) := Below.alloc hS (Below.size hS) _
    refine hK.out _ _ hS2 (fun _ => ?_)
    clear hK K hBi hS
    try simp only [Act.put, List.setIfInBounds_toArray, List.set_cons_zero, List.set_cons_succ]
    have hS := hS2
    clear hS2
    simp only [← hg9]
    clear hg9
    generalize v2.alloc (.cells #[.int .i64 0, .string ⟨([] : List UInt8).toArray⟩, .int .u64 0, .int .u64 0] 29) = v3 at *
    refine wpAnyH_ready (rs := [8]) (by kernel_rfl) (by simp) ?_
    refine AllReadyH.cons rfl (fun K hK => ?_) (AllReadyH.nil)
    go_simp
    obtain ⟨g8, hg8⟩ : ∃ g, g = v3.heap.size := ⟨_, rfl⟩
    have hh8 : (v3.alloc (.cells #[.int .i64 0, .string ⟨([] : List UInt8).toArray⟩, .int .u64 0, .int .u64 0] 29)).heap[g8]? = some (.cells #[.int .i64 0, .string ⟨([] : List UInt8).toArray⟩, .int .u64 0, .int .u64 0] 29 (0, 0)) := by rw [hg8]; exact alloc_new _ _
    have hBi := (one_cells v3 #[.int .i64 0, .string ⟨([] : List UInt8).toArray⟩, .int .u64 0, .int .u64 0] 29).1
    have hgB8 : w0.heap.size ≤ g8 := by rw [hg8]; exact Below.size hS
    have hn10_8 : g10 < g8 := by rw [hg8]; exact heap_lt hh10
    replace hh10 := heap_below hBi hh10
    have hn11_8 : g11 < g8 := by rw [hg8]; exact heap_lt hh11
    replace hh11 := heap_below hBi hh11
    have hn9_8 : g9 < g8 := by rw [hg8]; exact heap_lt hh9
    replace hh9 := heap_below hBi hh9
    have hS2 : (fun W => Below w0.heap.size w0 W) (v3.alloc (.cells #[.int .i64 0, .string ⟨([] : List UInt8).toArray⟩, .int .u64 0, .int .u64 0] 29)) := Below.alloc hS (Below.size hS) _
    refine hK.out _ _ hS2 (fun _ => ?_)
    clear hK K hBi hS
    try simp only [Act.put, List.setIfInBounds_toArray, List.set_cons_zero, List.set_cons_succ]
    have hS := hS2
    clear hS2
    simp only [← hg8]
    clear hg8
    generalize v3.alloc (.cells #[.int .i64 0, .string ⟨([] : List UInt8).toArray⟩, .int .u64 0, .int .u64 0] 29) = v4 at *
    rotate_left
    go_simp
    obtain ⟨g11, hg11⟩ : ∃ g, g = wd.heap.size := ⟨_, rfl⟩
    have hh11 : (wd.alloc (.cells #[.int .u64 0, .int .u64 0] 24)).heap[g11]? = some (.cells #[.int .u64 0, .int .u64 0] 24 (0, 0)) := by rw [hg11]; exact alloc_new _ _
    have hBi := (one_cells wd #[.int .u64 0, .int .u64 0] 24).1
    have hgB11 : w0.heap.size ≤ g11 := by rw [hg11]; exact Below.size hS
    have hS2 : (fun W => Below w0.heap.size w0 W) (wd.alloc (.cells #[.int .u64 0, .int .u64 0] 24)) := Below.alloc hS (Below.size hS) _
    refine hK.out _ _ hS2 (fun _ => ?_)
    clear hK K hBi hS
    try simp only [Act.put, List.setIfInBounds_toArray, List.set_cons_zero, List.set_cons_succ]
    have hS := hS2
    clear hS2
    simp only [← hg11]
    clear hg11
    generalize wd.alloc (.cells #[.int .u64 0, .int .u64 0] 24) = v1 at *
    refine wpAnyH_ready (rs := [8, 9, 10]) (by kernel_rfl) (by simp) ?_
    refine AllReadyH.cons rfl (fun K hK => ?_) (AllReadyH.cons rfl (fun K hK => ?_) (AllReadyH.cons rfl (fun K hK => ?_) (AllReadyH.nil)))
    go_simp
    obtain ⟨g8, hg8⟩ : ∃ g, g = v1.heap.size := ⟨_, rfl⟩
    have hh8 : (v1.alloc (.cells #[.int .i64 0, .string ⟨([] : List UInt8).toArray⟩, .int .u64 0, .int .u64 0] 29)).heap[g8]? = some (.cells #[.int .i64 0, .string ⟨([] : List UInt8).toArray⟩, .int .u64 0, .int .u64 0] 29 (0, 0)) := by rw [hg8]; exact alloc_new _ _
    have hBi := (one_cells v1 #[.int .i64 0, .string ⟨([] : List UInt8).toArray⟩, .int .u64 0, .int .u64 0] 29).1
    have hgB8 : w0.heap.size ≤ g8 := by rw [hg8]; exact Below.size hS
    have hn11_8 : g11 < g8 := by rw [hg8]; exact heap_lt hh11
    replace hh11 := heap_below hBi hh11
    have hS2 : (fun W => Below w0.heap.size w0 W) (v1.alloc (.cells #[.int .i64 0, .string ⟨([] : List UInt8).toArray⟩, .int .u64 0, .int .u64 0] 29)) := Below.alloc hS (Below.size hS) _
    refine hK.out _ _ hS2 (fun _ => ?_)
    clear hK K hBi hS
    try simp only [Act.put, List.setIfInBounds_toArray, List.set_cons_zero, List.set_cons_succ]
    have hS := hS2
    clear hS2
    simp only [← hg8]
    clear hg8
    generalize v1.alloc (.cells #[.int .i64 0, .string ⟨([] : List UInt8).toArray⟩, .int .u64 0, .int .u64 0] 29) = v2 at *
    refine wpAnyH_ready (rs := [9, 10]) (by kernel_rfl) (by simp) ?_
    refine AllReadyH.cons rfl (fun K hK => ?_) (AllReadyH.cons rfl (fun K hK => ?_) (AllReadyH.nil))
    go_simp
    obtain ⟨g9, hg9⟩ : ∃ g, g = v2.heap.size := ⟨_, rfl⟩
    have hh9 : (v2.alloc (.cells #[.int .i64 0, .string ⟨([] : List UInt8).toArray⟩, .int .u64 0, .int .u64 0] 29)).heap[g9]? = some (.cells #[.int .i64 0, .string ⟨([] : List UInt8).toArray⟩, .int .u64 0, .int .u64 0] 29 (0, 0)) := by rw [hg9]; exact alloc_new _ _
    have hBi := (one_cells v2 #[.int .i64 0, .string ⟨([] : List UInt8).toArray⟩, .int .u64 0, .int .u64 0] 29).1
    have hgB9 : w0.heap.size ≤ g9 := by rw [hg9]; exact Below.size hS
    have hn11_9 : g11 < g9 := by rw [hg9]; exact heap_lt hh11
    replace hh11 := heap_below hBi hh11
    have hn8_9 : g8 < g9 := by rw [hg9]; exact heap_lt hh8
    replace hh8 := heap_below hBi hh8
    have hS2 : (fun W => Below w0.heap.size w0 W) (v2.alloc (.cells #[.int .i64 0, .string ⟨([] : List UInt8).toArray⟩, .int .u64 0, .int .u64 0] 29)) := Below.alloc hS (Below.size hS) _
    refine hK.out _ _ hS2 (fun _ => ?_)
    clear hK K hBi hS
    try simp only [Act.put, List.setIfInBounds_toArray, List.set_cons_zero, List.set_cons_succ]
    have hS := hS2
    clear hS2
    simp only [← hg9]
    clear hg9
    generalize v2.alloc (.cells #[.int .i64 0, .string ⟨([] : List UInt8).toArray⟩, .int .u64 0, .int .u64 0] 29) = v3 at *
    refine wpAnyH_ready (rs := [10]) (by kernel_rfl) (by simp) ?_
    refine AllReadyH.cons rfl (fun K hK => ?_) (AllReadyH.nil)
    go_simp
    obtain ⟨g10, hg10⟩ : ∃ g, g = v3.heap.size := ⟨_, rfl⟩
    have hh10 : (v3.alloc (.cells #[.int .u64 0, .int .u64 0] 24)).heap[g10]? = some (.cells #[.int .u64 0, .int .u64 0] 24 (0, 0)) := by rw [hg10]; exact alloc_new _ _
    have hBi := (one_cells v3 #[.int .u64 0, .int .u64 0] 24).1
    have hgB10 : w0.heap.size ≤ g10 := by rw [hg10]; exact Below.size hS
    have hn11_10 : g11 < g10 := by rw [hg10]; exact heap_lt hh11
    replace hh11 := heap_below hBi hh11
    have hn8_10 : g8 < g10 := by rw [hg10]; exact heap_lt hh8
    replace hh8 := heap_below hBi hh8
    have hn9_10 : g9 < g10 := by rw [hg10]; exact heap_lt hh9
    replace hh9 := heap_below hBi hh9
    have hS2 : (fun W => Below w0.heap.size w0 W) (v3.alloc (.cells #[.int .u64 0, .int .u64 0] 24)) := Below.alloc hS (Below.size hS) _
    refine hK.out _ _ hS2 (fun _ => ?_)
    clear hK K hBi hS
    try simp only [Act.put, List.setIfInBounds_toArray, List.set_cons_zero, List.set_cons_succ]
    have hS := hS2
    clear hS2
    simp only [← hg10]
    clear hg10
    generalize v3.alloc (.cells #[.int .u64 0, .int .u64 0] 24) = v4 at *
    rotate_left
    go_simp
    obtain ⟨g10, hg10⟩ : ∃ g, g = v2.heap.size := ⟨_, rfl⟩
    have hh10 : (v2.alloc (.cells #[.int .u64 0, .int .u64 0] 24)).heap[g10]? = some (.cells #[.int .u64 0, .int .u64 0] 24 (0, 0)) := by rw [hg10]; exact alloc_new _ _
    have hBi := (one_cells v2 #[.int .u64 0, .int .u64 0] 24).1
    have hgB10 : w0.heap.size ≤ g10 := by rw [hg10]; exact Below.size hS
    have hn11_10 : g11 < g10 := by rw [hg10]; exact heap_lt hh11
    replace hh11 := heap_below hBi hh11
    have hn8_10 : g8 < g10 := by rw [hg10]; exact heap_lt hh8
    replace hh8 := heap_below hBi hh8
    have hS2 : (fun W => Below w0.heap.size w0 W) (v2.alloc (.cells #[.int .u64 0, .int .u64 0] 24)) := Below.alloc hS (Below.size hS) _
    refine hK.out _ _ hS2 (fun _ => ?_)
    clear hK K hBi hS
    try simp only [Act.put, List.setIfInBounds_toArray, List.set_cons_zero, List.set_cons_succ]
    have hS := hS2
    clear hS2
    simp only [← hg10]
    clear hg10
    generalize v2.alloc (.cells #[.int .u64 0, .int .u64 0] 24) = v3 at *
    refine wpAnyH_ready (rs := [9]) (by kernel_rfl) (by simp) ?_
    refine AllReadyH.cons rfl (fun K hK => ?_) (AllReadyH.nil)
    go_simp
    obtain ⟨g9, hg9⟩ : ∃ g, g = v3.heap.size := ⟨_, rfl⟩
    have hh9 : (v3.alloc (.cells #[.int .i64 0, .string ⟨([] : List UInt8).toArray⟩, .int .u64 0, .int .u64 0] 29)).heap[g9]? = some (.cells #[.int .i64 0, .string ⟨([] : List UInt8).toArray⟩, .int .u64 0, .int .u64 0] 29 (0, 0)) := by rw [hg9]; exact alloc_new _ _
    have hBi := (one_cells v3 #[.int .i64 0, .string ⟨([] : List UInt8).toArray⟩, .int .u64 0, .int .u64 0] 29).1
    have hgB9 : w0.heap.size ≤ g9 := by rw [hg9]; exact Below.size hS
    have hn11_9 : g11 < g9 := by rw [hg9]; exact heap_lt hh11
    replace hh11 := heap_below hBi hh11
    have hn8_9 : g8 < g9 := by rw [hg9]; exact heap_lt hh8
    replace hh8 := heap_below hBi hh8
    have hn10_9 : g10 < g9 := by rw [hg9]; exact heap_lt hh10
    replace hh10 := heap_below hBi hh10
    have hS2 : (fun W => Below w0.heap.size w0 W) (v3.alloc (.cells #[.int .i64 0, .string ⟨([] : List UInt8).toArray⟩, .int .u64 0, .int .u64 0] 29)) := Below.alloc hS (Below.size hS) _
    refine hK.out _ _ hS2 (fun _ => ?_)
    clear hK K hBi hS
    try simp only [Act.put, List.setIfInBounds_toArray, List.set_cons_zero, List.set_cons_succ]
    have hS := hS2
    clear hS2
    simp only [← hg9]
    clear hg9
    generalize v3.alloc (.cells #[.int .i64 0, .string ⟨([] : List UInt8).toArray⟩, .int .u64 0, .int .u64 0] 29) = v4 at *
    rotate_left
    go_simp
    obtain ⟨g9, hg9⟩ : ∃ g, g = v1.heap.size := ⟨_, rfl⟩
    have hh9 : (v1.alloc (.cells #[.int .i64 0, .string ⟨([] : List UInt8).toArray⟩, .int .u64 0, .int .u64 0] 29)).heap[g9]? = some (.cells #[.int .i64 0, .string ⟨([] : List UInt8).toArray⟩, .int .u64 0, .int .u64 0] 29 (0, 0)) := by rw [hg9]; exact alloc_new _ _
    have hBi := (one_cells v1 #[.int .i64 0, .string ⟨([] : List UInt8).toArray⟩, .int .u64 0, .int .u64 0] 29).1
    have hgB9 : w0.heap.size ≤ g9 := by rw [hg9]; exact Below.size hS
    have hn11_9 : g11 < g9 := by rw [hg9]; exact heap_lt hh11
    replace hh11 := heap_below hBi hh11
    have hS2 : (fun W => Below w0.heap.size w0 W) (v1.alloc (.cells #[.int .i64 0, .string ⟨([] : List UInt8).toArray⟩, .int .u64 0, .int .u64 0] 29)) := Below.alloc hS (Below.size hS) _
    refine hK.out _ _ hS2 (fun _ => ?_)
    clear hK K hBi hS
    try simp only [Act.put, List.setIfInBounds_toArray, List.set_cons_zero, List.set_cons_succ]
    have hS := hS2
    clear hS2
    simp only [← hg9]
    clear hg9
    generalize v1.alloc (.cells #[.int .i64 0, .string ⟨([] : List UInt8).toArray⟩, .int .u64 0, .int .u64 0] 29) = v2 at *
    refine wpAnyH_ready (rs := [8, 10]) (by kernel_rfl) (by simp) ?_
    refine AllReadyH.cons rfl (fun K hK => ?_) (AllReadyH.cons rfl (fun K hK => ?_) (AllReadyH.nil))
    go_simp
    obtain ⟨g8, hg8⟩ : ∃ g, g = v2.heap.size := ⟨_, rfl⟩
    have hh8 : (v2.alloc (.cells #[.int .i64 0, .string ⟨([] : List UInt8).toArray⟩, .int .u64 0, .int .u64 0] 29)).heap[g8]? = some (.cells #[.int .i64 0, .string ⟨([] : List UInt8).toArray⟩, .int .u64 0, .int .u64 0] 29 (0, 0)) := by rw [hg8]; exact alloc_new _ _
    have hBi := (one_cells v2 #[.int .i64 0, .string ⟨([] : List UInt8).toArray⟩, .int .u64 0, .int .u64 0] 29).1
    have hgB8 : w0.heap.size ≤ g8 := by rw [hg8]; exact Below.size hS
    have hn11_8 : g11 < g8 := by rw [hg8]; exact heap_lt hh11
    replace hh11 := heap_below hBi hh11
    have hn9_8 : g9 < g8 := by rw [hg8]; exact heap_lt hh9
    replace hh9 := heap_below hBi hh9
    have hS2 : (fun W => Below w0.heap.size w0 W) (v2.alloc (.cells #[.int .i64 0, .string ⟨([] : List UInt8).toArray⟩, .int .u64 0, .int .u64 0] 29)) := Below.alloc hS (Below.size hS) _
    refine hK.out _ _ hS2 (fun _ => ?_)
    clear hK K hBi hS
    try simp only [Act.put, List.setIfInBounds_toArray, List.set_cons_zero, List.set_cons_succ]
    have hS := hS2
    clear hS2
    simp only [← hg8]
    clear hg8
    generalize v2.alloc (.cells #[.int .i64 0, .string ⟨([] : List UInt8).toArray⟩, .int .u64 0, .int .u64 0] 29) = v3 at *
    refine wpAnyH_ready (rs := [10]) (by kernel_rfl) (by simp) ?_
    refine AllReadyH.cons rfl (fun K hK => ?_) (AllReadyH.nil)
    go_simp
    obtain ⟨g10, hg10⟩ : ∃ g, g = v3.heap.size := ⟨_, rfl⟩
    have hh10 : (v3.alloc (.cells #[.int .u64 0, .int .u64 0] 24)).heap[g10]? = some (.cells #[.int .u64 0, .int .u64 0] 24 (0, 0)) := by rw [hg10]; exact alloc_new _ _
    have hBi := (one_cells v3 #[.int .u64 0, .int .u64 0] 24).1
    have hgB10 : w0.heap.size ≤ g10 := by rw [hg10]; exact Below.size hS
    have hn11_10 : g11 < g10 := by rw [hg10]; exact heap_lt hh11
    replace hh11 := heap_below hBi hh11
    have hn9_10 : g9 < g10 := by rw [hg10]; exact heap_lt hh9
    replace hh9 := heap_below hBi hh9
    have hn8_10 : g8 < g10 := by rw [hg10]; exact heap_lt hh8
    replace hh8 := heap_below hBi hh8
    have hS2 : (fun W => Below w0.heap.size w0 W) (v3.alloc (.cells #[.int .u64 0, .int .u64 0] 24)) := Below.alloc hS (Below.size hS) _
    refine hK.out _ _ hS2 (fun _ => ?_)
    clear hK K hBi hS
    try simp only [Act.put, List.setIfInBounds_toArray, List.set_cons_zero, List.set_cons_succ]
    have hS := hS2
    clear hS2
    simp only [← hg10]
    clear hg10
    generalize v3.alloc (.cells #[.int .u64 0, .int .u64 0] 24) = v4 at *
    rotate_left
    go_simp
    obtain ⟨g10, hg10⟩ : ∃ g, g = v2.heap.size := ⟨_, rfl⟩
    have hh10 : (v2.alloc (.cells #[.int .u64 0, .int .u64 0] 24)).heap[g10]? = some (.cells #[.int .u64 0, .int .u64 0] 24 (0, 0)) := by rw [hg10]; exact alloc_new _ _
    have hBi := (one_cells v2 #[.int .u64 0, .int .u64 0] 24).1
    have hgB10 : w0.heap.size ≤ g10 := by rw [hg10]; exact Below.size hS
    have hn11_10 : g11 < g10 := by rw [hg10]; exact heap_lt hh11
    replace hh11 := heap_below hBi hh11
    have hn9_10 : g9 < g10 := by rw [hg10]; exact heap_lt hh9
    replace hh9 := heap_below hBi hh9
    have hS2 : (fun W => Below w0.heap.size w0 W) (v2.alloc (.cells #[.int .u64 0, .int .u64 0] 24)) := Below.alloc hS (Below.size hS) _
    refine hK.out _ _ hS2 (fun _ => ?_)
    clear hK K hBi hS
    try simp only [Act.put, List.setIfInBounds_toArray, List.set_cons_zero, List.set_cons_succ]
    have hS := hS2
    clear hS2
    simp only [← hg10]
    clear hg10
    generalize v2.alloc (.cells #[.int .u64 0, .int .u64 0] 24) = v3 at *
    refine wpAnyH_ready (rs := [8]) (by kernel_rfl) (by simp) ?_
    refine AllReadyH.cons rfl (fun K hK => ?_) (AllReadyH.nil)
    go_simp
    obtain ⟨g8, hg8⟩ : ∃ g, g = v3.heap.size := ⟨_, rfl⟩
    have hh8 : (v3.alloc (.cells #[.int .i64 0, .string ⟨([] : List UInt8).toArray⟩, .int .u64 0, .int .u64 0] 29)).heap[g8]? = some (.cells #[.int .i64 0, .string ⟨([] : List UInt8).toArray⟩, .int .u64 0, .int .u64 0] 29 (0, 0)) := by rw [hg8]; exact alloc_new _ _
    have hBi := (one_cells v3 #[.int .i64 0, .string ⟨([] : List UInt8).toArray⟩, .int .u64 0, .int .u64 0] 29).1
    have hgB8 : w0.heap.size ≤ g8 := by rw [hg8]; exact Below.size hS
    have hn11_8 : g11 < g8 := by rw [hg8]; exact heap_lt hh11
    replace hh11 := heap_below hBi hh11
    have hn9_8 : g9 < g8 := by rw [hg8]; exact heap_lt hh9
    replace hh9 := heap_below hBi hh9
    have hn10_8 : g10 < g8 := by rw [hg8]; exact heap_lt hh10
    replace hh10 := heap_below hBi hh10
    have hS2 : (fun W => Below w0.heap.size w0 W) (v3.alloc (.cells #[.int .i64 0, .string ⟨([] : List UInt8).toArray⟩, .int .u64 0, .int .u64 0] 29)) := Below.alloc hS (Below.size hS) _
    refine hK.out _ _ hS2 (fun _ => ?_)
    clear hK K hBi hS
    try simp only [Act.put, List.setIfInBounds_toArray, List.set_cons_zero, List.set_cons_succ]
    have hS := hS2
    clear hS2
    simp only [← hg8]
    clear hg8
    generalize v3.alloc (.cells #[.int .i64 0, .string ⟨([] : List UInt8).toArray⟩, .int .u64 0, .int .u64 0] 29) = v4 at *
    rotate_left
    go_simp
    obtain ⟨g10, hg10⟩ : ∃ g, g = v1.heap.size := ⟨_, rfl⟩
    have hh10 : (v1.alloc (.cells #[.int .u64 0, .int .u64 0] 24)).heap[g10]? = some (.cells #[.int .u64 0, .int .u64 0] 24 (0, 0)) := by rw [hg10]; exact alloc_new _ _
    have hBi := (one_cells v1 #[.int .u64 0, .int .u64 0] 24).1
    have hgB10 : w0.heap.size ≤ g10 := by rw [hg10]; exact Below.size hS
    have hn11_10 : g11 < g10 := by rw [hg10]; exact heap_lt hh11
    replace hh11 := heap_below hBi hh11
    have hS2 : (fun W => Below w0.heap.size w0 W) (v1.alloc (.cells #[.int .u64 0, .int .u64 0] 24)) := Below.alloc hS (Below.size hS) _
    refine hK.out _ _ hS2 (fun _ => ?_)
    clear hK K hBi hS
    try simp only [Act.put, List.setIfInBounds_toArray, List.set_cons_zero, List.set_cons_succ]
    have hS := hS2
    clear hS2
    simp only [← hg10]
    clear hg10
    generalize v1.alloc (.cells #[.int .u64 0, .int .u64 0] 24) = v2 at *
    refine wpAnyH_ready (rs := [8, 9]) (by kernel_rfl) (by simp) ?_
    refine AllReadyH.cons rfl (fun K hK => ?_) (AllReadyH.cons rfl (fun K hK => ?_) (AllReadyH.nil))
    go_simp
    obtain ⟨g8, hg8⟩ : ∃ g, g = v2.heap.size := ⟨_, rfl⟩
    have hh8 : (v2.alloc (.cells #[.int .i64 0, .string ⟨([] : List UInt8).toArray⟩, .int .u64 0, .int .u64 0] 29)).heap[g8]? = some (.cells #[.int .i64 0, .string ⟨([] : List UInt8).toArray⟩, .int .u64 0, .int .u64 0] 29 (0, 0)) := by rw [hg8]; exact alloc_new _ _
    have hBi := (one_cells v2 #[.int .i64 0, .string ⟨([] : List UInt8).toArray⟩, .int .u64 0, .int .u64 0] 29).1
    have hgB8 : w0.heap.size ≤ g8 := by rw [hg8]; exact Below.size hS
    have hn11_8 : g11 < g8 := by rw [hg8]; exact heap_lt hh11
    replace hh11 := heap_below hBi hh11
    have hn10_8 : g10 < g8 := by rw [hg8]; exact heap_lt hh10
    replace hh10 := heap_below hBi hh10
    have hS2 : (fun W => Below w0.heap.size w0 W) (v2.alloc (.cells #[.int .i64 0, .string ⟨([] : List UInt8).toArray⟩, .int .u64 0, .int .u64 0] 29)) := Below.alloc hS (Below.size hS) _
    refine hK.out _ _ hS2 (fun _ => ?_)
    clear hK K hBi hS
    try simp only [Act.put, List.setIfInBounds_toArray, List.set_cons_zero, List.set_cons_succ]
    have hS := hS2
    clear hS2
    simp only [← hg8]
    clear hg8
    generalize v2.alloc (.cells #[.int .i64 0, .string ⟨([] : List UInt8).toArray⟩, .int .u64 0, .int .u64 0] 29) = v3 at *
    refine wpAnyH_ready (rs := [9]) (by kernel_rfl) (by simp) ?_
    refine AllReadyH.cons rfl (fun K hK => ?_) (AllReadyH.nil)
    go_simp
    obtain ⟨g9, hg9⟩ : ∃ g, g = v3.heap.size := ⟨_, rfl⟩
    have hh9 : (v3.alloc (.cells #[.int .i64 0, .string ⟨([] : List UInt8).toArray⟩, .int .u64 0, .int .u64 0] 29)).heap[g9]? = some (.cells #[.int .i64 0, .string ⟨([] : List UInt8).toArray⟩, .int .u64 0, .int .u64 0] 29 (0, 0)) := by rw [hg9]; exact alloc_new _ _
    have hBi := (one_cells v3 #[.int .i64 0, .string ⟨([] : List UInt8).toArray⟩, .int .u64 0, .int .u64 0] 29).1
    have hgB9 : w0.heap.size ≤ g9 := by rw [hg9]; exact Below.size hS
    have hn11_9 : g11 < g9 := by rw [hg9]; exact heap_lt hh11
    replace hh11 := heap_below hBi hh11
    have hn10_9 : g10 < g9 := by rw [hg9]; exact heap_lt hh10
    replace hh10 := heap_below hBi hh10
    have hn8_9 : g8 < g9 := by rw [hg9]; exact heap_lt hh8
    replace hh8 := heap_below hBi hh8
    have hS2 : (fun W => Below w0.heap.size w0 W) (v3.alloc (.cells #[.int .i64 0, .string ⟨([] : List UInt8).toArray⟩, .int .u64 0, .int .u64 0] 29)) := Below.alloc hS (Below.size hS) _
    refine hK.out _ _ hS2 (fun _ => ?_)
    clear hK K hBi hS
    try simp only [Act.put, List.setIfInBounds_toArray, List.set_cons_zero, List.set_cons_succ]
    have hS := hS2
    clear hS2
    simp only [← hg9]
    clear hg9
    generalize v3.alloc (.cells #[.int .i64 0, .string ⟨([] : List UInt8).toArray⟩, .int .u64 0, .int .u64 0] 29) = v4 at *
    rotate_left
    go_simp
    obtain ⟨g9, hg9⟩ : ∃ g, g = v2.heap.size := ⟨_, rfl⟩
    have hh9 : (v2.alloc (.cells #[.int .i64 0, .string ⟨([] : List UInt8).toArray⟩, .int .u64 0, .int .u64 0] 29)).heap[g9]? = some (.cells #[.int .i64 0, .string ⟨([] : List UInt8).toArray⟩, .int .u64 0, .int .u64 0] 29 (0, 0)) := by rw [hg9]; exact alloc_new _ _
    have hBi := (one_cells v2 #[.int .i64 0, .string ⟨([] : List UInt8).toArray⟩, .int .u64 0, .int .u64 0] 29).1
    have hgB9 : w0.heap.size ≤ g9 := by rw [hg9]; exact Below.size hS
    have hn11_9 : g11 < g9 := by rw [hg9]; exact heap_lt hh11
    replace hh11 := heap_below hBi hh11
    have hn10_9 : g10 < g9 := by rw [hg9]; exact heap_lt hh10
    replace hh10 := heap_below hBi hh10
    have hS2 : (fun W => Below w0.heap.size w0 W) (v2.alloc (.cells #[.int .i64 0, .string ⟨([] : List UInt8).toArray⟩, .int .u64 0, .int .u64 0] 29)) := Below.alloc hS (Below.size hS) _
    refine hK.out _ _ hS2 (fun _ => ?_)
    clear hK K hBi hS
    try simp only [Act.put, List.setIfInBounds_toArray, List.set_cons_zero, List.set_cons_succ]
    have hS := hS2
    clear hS2
    simp only [← hg9]
    clear hg9
    generalize v2.alloc (.cells #[.int .i64 0, .string ⟨([] : List UInt8).toArray⟩, .int .u64 0, .int .u64 0] 29) = v3 at *
    refine wpAnyH_ready (rs := [8]) (by kernel_rfl) (by simp) ?_
    refine AllReadyH.cons rfl (fun K hK => ?_) (AllReadyH.nil)
    go_simp
    obtain ⟨g8, hg8⟩ : ∃ g, g = v3.heap.size := ⟨_, rfl⟩
    have hh8 : (v3.alloc (.cells #[.int .i64 0, .string ⟨([] : List UInt8).toArray⟩, .int .u64 0, .int .u64 0] 29)).heap[g8]? = some (.cells #[.int .i64 0, .string ⟨([] : List UInt8).toArray⟩, .int .u64 0, .int .u64 0] 29 (0, 0)) := by rw [hg8]; exact alloc_new _ _
    have hBi := (one_cells v3 #[.int .i64 0, .string ⟨([] : List UInt8).toArray⟩, .int .u64 0, .int .u64 0] 29).1
    have hgB8 : w0.heap.size ≤ g8 := by rw [hg8]; exact Below.size hS
    have hn11_8 : g11 < g8 := by rw [hg8]; exact heap_lt hh11
    replace hh11 := heap_below hBi hh11
    have hn10_8 : g10 < g8 := by rw [hg8]; exact heap_lt hh10
    replace hh10 := heap_below hBi hh10
    have hn9_8 : g9 < g8 := by rw [hg8]; exact heap_lt hh9
    replace hh9 := heap_below hBi hh9
    have hS2 : (fun W => Below w0.heap.size w0 W) (v3.alloc (.cells #[.int .i64 0, .string ⟨([] : List UInt8).toArray⟩, .int .u64 0, .int .u64 0] 29)) := Below.alloc hS (Below.size hS) _
    refine hK.out _ _ hS2 (fun _ => ?_)
    clear hK K hBi hS
    try simp only [Act.put, List.setIfInBounds_toArray, List.set_cons_zero, List.set_cons_succ]
    have hS := hS2
    clear hS2
    simp only [← hg8]
    clear hg8
    generalize v3.alloc (.cells #[.int .i64 0, .string ⟨([] : List UInt8).toArray⟩, .int .u64 0, .int .u64 0] 29) = v4 at *
    rotate_left
    all_goals
      refine wpAnyH_ready (rs := [12]) (by kernel_rfl) (by simp) ?_
      refine AllReadyH.cons rfl (fun K hK => ?_) AllReadyH.nil
      obtain ⟨⟨z0, z1, z2, z3⟩, f0, f1, f2, f3⟩ := four_cells hh8
      go_simp
      have hG : World.grownBy v4 (((((v4).setCell ⟨g8, 0, none⟩ (.int .i64 sa)).setCell ⟨g8, 1, none⟩ (.string ⟨na.toArray⟩)).setCell ⟨g8, 2, none⟩ (.int .u64 (da : Int))).setCell ⟨g8, 3, none⟩ (.int .u64 (va : Int))) (some g8) := four_gb _ _ (.int .i64 sa) (.string ⟨na.toArray⟩) (.int .u64 (da : Int)) (.int .u64 (va : Int))
      replace hh9 := gb_heap hG hh9 (by simp; omega)
      replace hh10 := gb_heap hG hh10 (by simp; omega)
      replace hh11 := gb_heap hG hh11 (by simp; omega)
      replace hh8 := four_heap hh8 (.int .i64 sa) (.string ⟨na.toArray⟩) (.int .u64 (da : Int)) (.int .u64 (va : Int))
      have hS2 : (fun W => Below w0.heap.size w0 W) (((((v4).setCell ⟨g8, 0, none⟩ (.int .i64 sa)).setCell ⟨g8, 1, none⟩ (.string ⟨na.toArray⟩)).setCell ⟨g8, 2, none⟩ (.int .u64 (da : Int))).setCell ⟨g8, 3, none⟩ (.int .u64 (va : Int))) := Below.trans hS (below_gb hG (Below.size hS) hgB8)
      refine hK.out _ _ hS2 (fun _ => ?_)
      clear hK K hG hS z0 z1 z2 z3 f0 f1 f2 f3
      try simp only [Act.put, List.setIfInBounds_toArray, List.set_cons_zero, List.set_cons_succ]
      have hS := hS2
      clear hS2
      generalize ((((v4).setCell ⟨g8, 0, none⟩ (.int .i64 sa)).setCell ⟨g8, 1, none⟩ (.string ⟨na.toArray⟩)).setCell ⟨g8, 2, none⟩ (.int .u64 (da : Int))).setCell ⟨g8, 3, none⟩ (.int .u64 (va : Int)) = u1 at *
      refine wpAnyH_ready (rs := [13]) (by kernel_rfl) (by simp) ?_
      refine AllReadyH.cons rfl (fun K hK => ?_) AllReadyH.nil
      obtain ⟨⟨z0, z1, z2, z3⟩, f0, f1, f2, f3⟩ := four_cells hh9
      go_simp
      have hG : World.grownBy u1 (((((u1).setCell ⟨g9, 0, none⟩ (.int .i64 sb)).setCell ⟨g9, 1, none⟩ (.string ⟨nb.toArray⟩)).setCell ⟨g9, 2, none⟩ (.int .u64 (db : Int))).setCell ⟨g9, 3, none⟩ (.int .u64 (vb : Int))) (some g9) := four_gb _ _ (.int .i64 sb) (.string ⟨nb.toArray⟩) (.int .u64 (db : Int)) (.int .u64 (vb : Int))
      replace hh8 := gb_heap hG hh8 (by simp; omega)
      replace hh10 := gb_heap hG hh10 (by simp; omega)
      replace hh11 := gb_heap hG hh11 (by simp; omega)
      replace hh9 := four_heap hh9 (.int .i64 sb) (.string ⟨nb.toArray⟩) (.int .u64 (db : Int)) (.int .u64 (vb : Int))
      have hS2 : (fun W => Below w0.heap.size w0 W) (((((u1).setCell ⟨g9, 0, none⟩ (.int .i64 sb)).setCell ⟨g9, 1, none⟩ (.string ⟨nb.toArray⟩)).setCell ⟨g9, 2, none⟩ (.int .u64 (db : Int))).setCell ⟨g9, 3, none⟩ (.int .u64 (vb : Int))) := Below.trans hS (below_gb hG (Below.size hS) hgB9)
      refine hK.out _ _ hS2 (fun _ => ?_)
      clear hK K hG hS z0 z1 z2 z3 f0 f1 f2 f3
      try simp only [Act.put, List.setIfInBounds_toArray, List.set_cons_zero, List.set_cons_succ]
      have hS := hS2
      clear hS2
      generalize ((((u1).setCell ⟨g9, 0, none⟩ (.int .i64 sb)).setCell ⟨g9, 1, none⟩ (.string ⟨nb.toArray⟩)).setCell ⟨g9, 2, none⟩ (.int .u64 (db : Int))).setCell ⟨g9, 3, none⟩ (.int .u64 (vb : Int)) = u2 at *
      refine wpAnyH_ready (rs := [14]) (by kernel_rfl) (by simp) ?_
      refine AllReadyH.cons rfl (fun K hK => ?_) AllReadyH.nil
      obtain ⟨⟨z0, z1⟩, f0, f1⟩ := pair_cells hh10
      go_simp
      have hG : World.grownBy u2 (((u2).setCell ⟨g10, 0, none⟩ (.int .u64 (s1 : Int))).setCell ⟨g10, 1, none⟩ (.int .u64 (s2 : Int))) (some g10) := pair_gb _ _ (.int .u64 (s1 : Int)) (.int .u64 (s2 : Int))
      replace hh8 := gb_heap hG hh8 (by simp; omega)
      replace hh9 := gb_heap hG hh9 (by simp; omega)
      replace hh11 := gb_heap hG hh11 (by simp; omega)
      replace hh10 := pair_heap hh10 (.int .u64 (s1 : Int)) (.int .u64 (s2 : Int))
      have hS2 : (fun W => Below w0.heap.size w0 W) (((u2).setCell ⟨g10, 0, none⟩ (.int .u64 (s1 : Int))).setCell ⟨g10, 1, none⟩ (.int .u64 (s2 : Int))) := Below.trans hS (below_gb hG (Below.size hS) hgB10)
      refine hK.out _ _ hS2 (fun _ => ?_)
      clear hK K hG hS z0 z1 f0 f1
      try simp only [Act.put, List.setIfInBounds_toArray, List.set_cons_zero, List.set_cons_succ]
      have hS := hS2
      clear hS2
      generalize ((u2).setCell ⟨g10, 0, none⟩ (.int .u64 (s1 : Int))).setCell ⟨g10, 1, none⟩ (.int .u64 (s2 : Int)) = u3 at *
      refine wpAnyH_ready (rs := [15]) (by kernel_rfl) (by simp) ?_
      refine AllReadyH.cons rfl (fun K hK => ?_) AllReadyH.nil
      obtain ⟨⟨z0, z1⟩, f0, f1⟩ := pair_cells hh11
      go_simp
      have hG : World.grownBy u3 (((u3).setCell ⟨g11, 0, none⟩ (.int .u64 (t1 : Int))).setCell ⟨g11, 1, none⟩ (.int .u64 (t2 : Int))) (some g11) := pair_gb _ _ (.int .u64 (t1 : Int)) (.int .u64 (t2 : Int))
      replace hh8 := gb_heap hG hh8 (by simp; omega)
      replace hh9 := gb_heap hG hh9 (by simp; omega)
      replace hh10 := gb_heap hG hh10 (by simp; omega)
      replace hh11 := pair_heap hh11 (.int .u64 (t1 : Int)) (.int .u64 (t2 : Int))
      have hS2 : (fun W => Below w0.heap.size w0 W) (((u3).setCell ⟨g11, 0, none⟩ (.int .u64 (t1 : Int))).setCell ⟨g11, 1, none⟩ (.int .u64 (t2 : Int))) := Below.trans hS (below_gb hG (Below.size hS) hgB11)
      refine hK.out _ _ hS2 (fun _ => ?_)
      clear hK K hG hS z0 z1 f0 f1
      try simp only [Act.put, List.setIfInBounds_toArray, List.set_cons_zero, List.set_cons_succ]
      have hS := hS2
      clear hS2
      generalize ((u3).setCell ⟨g11, 0, none⟩ (.int .u64 (t1 : Int))).setCell ⟨g11, 1, none⟩ (.int .u64 (t2 : Int)) = u4 at *
      refine wpAnyH_done (by kernel_rfl) ?_ _
      go_wp2_with fail
      go_meet
      exact ⟨g8, g9, g10, g11, rfl, rfl, rfl, rfl, hh8, hh9, hh10, hh11, hS⟩
  case rest =>
    obtain ⟨g8, g9, g10, g11, rfl, rfl, rfl, rfl, hh8, hh9, hh10, hh11, hS⟩ := hcut
    obtain ⟨⟨a0, a1, a2, a3⟩, -⟩ := four_cells hh8
    obtain ⟨⟨b0, b1, b2, b3⟩, -⟩ := four_cells hh9
    obtain ⟨⟨p0, p1⟩, -⟩ := pair_cells hh10
    obtain ⟨⟨q0, q1⟩, -⟩ := pair_cells hh11
    replace hB := hB.trans (below_of hS hB.size)
    clear hS hh8 hh9 hh10 hh11 e0 e1 e2 e3 e4 e5 e6 e7 e8 e9 e10 e11
    by_cases hout : 100 < na.length ∨ (na.length ≤ 100 ∧ 100 < nb.length) ∨ (na.length ≤ 100 ∧ nb.length ≤ 100 ∧ sa < 0) ∨ (na.length ≤ 100 ∧ nb.length ≤ 100 ∧ 0 ≤ sa ∧ sb < 0)
    · clear HH
      rcases hout with h1 | ⟨h1, h2⟩ | ⟨h1, h2, h3⟩ | ⟨h1, h2, h3, h4⟩
      all_goals
        go_wp2_with (first
          | (go_at_call 9; refine (awake08_any _).mono ?_; rintro e w2 ⟨rfl, hb⟩))
        go_ret
        exact ⟨rfl, below_trans hB hb⟩
    obtain ⟨sa, rfl⟩ : ∃ k : Nat, sa = k := ⟨sa.toNat, by omega⟩
    obtain ⟨sb, rfl⟩ : ∃ k : Nat, sb = k := ⟨sb.toNat, by omega⟩
    have hla : na.length ≤ 100 := by omega
    have hlb : nb.length ≤ 100 := by omega
    have KA := fun W => Lib.hid (skey_any sa da va s1 s2 na W (by have := HH.out; omega) (by have := HH.out; omega) (by have := HH.out; omega) (by have := HH.out; omega) (by have := HH.out; omega) (by omega))
    have KR := fun W => Lib.hid (refkey_any sa da va s1 s2 na W (by have := HH.out; omega) (by have := HH.out; omega) (by have := HH.out; omega) (by have := HH.out; omega) (by have := HH.out; omega) (by omega))
    have KB := fun W => Lib.hid (skey_any sb db vb t1 t2 nb W (by have := HH.out; omega) (by have := HH.out; omega) (by have := HH.out; omega) (by have := HH.out; omega) (by have := HH.out; omega) (by omega))
    have HI : Hid (keyB sa da va s1 s2 na = keyB sb db vb t1 t2 nb → sa = sb ∧ da = db ∧ va = vb ∧ s1 = t1 ∧ s2 = t2 ∧ na = nb) := fun h => keyB_inj h
    clear HH hout hna hnb
    go_upto_region 4 with fail
    by_cases hall : sa = sb ∧ da = db ∧ va = vb ∧ s1 = t1 ∧ s2 = t2 ∧ na = nb
    · obtain ⟨rfl, rfl, rfl, rfl, rfl, rfl⟩ := hall
      clear KB HI
      generalize keyB sa da va s1 s2 na = kA at *
      refine wp_region_held (S := fun W => Below (wc).heap.size (wc) W) (by kernel_rfl) ?_
      change wpAnyH _ _ _ _ _ _ _ _ (wc).drew
      have hS : (fun W => Below (wc).heap.size (wc) W) (wc).drew := (Below.refl _ _).drew
      refine wpAnyH_ready (rs := [0]) (by kernel_rfl) (by simp) ?_
      refine AllReadyH.cons (o := { dst := some 36, op := Op.call { callee := Callee.value (Operand.func 9), args := #[], argTypes := #[] }, type := 4, pos := "law.go:63", after := #[], guard := none }) rfl (fun K hK => ?_) AllReadyH.nil
      go_simp
      refine (awake08_any _).mono ?_
      rintro e w100 ⟨rfl, hb⟩
      replace hS : (fun W => Below (wc).heap.size (wc) W) w100 := below_then hS hb (Below.size hS)
      refine hK.out _ _ hS (fun _ => ?_)
      clear hK K hb
      try simp only [Act.put, List.setIfInBounds_toArray, List.set_cons_zero, List.set_cons_succ]
      refine wpAnyH_take (i := 1) (oi := { dst := some 37, op := Op.move (Operand.tmp 36), type := 4, pos := "law.go:63", after := #[{ on := 0, ground := Ground.data }, { on := 0, ground := Ground.chain }], guard := none }) (v := ?_) rfl (by kernel_rfl) (by kernel_rfl) (by kernel_rfl) (fun _ _ _ h => h) (Or.inl ⟨by rfl, ?_⟩) (by assumption) ?_
      rotate_left
      · (intro wS hS; go_simp <;> with_reducible rfl)
      try simp only [Act.put, List.setIfInBounds_toArray, List.set_cons_zero, List.set_cons_succ]
      refine wpAnyH_take (i := 2) (oi := { dst := some 38, op := Op.load 29 (Operand.tmp 3), type := 29, pos := "law.go:63", after := #[{ on := 1, ground := Ground.guard }], guard := some (1, true) }) (v := ?_) rfl (by kernel_rfl) (by kernel_rfl) (by kernel_rfl) (fun _ _ _ h => h) (Or.inl ⟨by rfl, ?_⟩) (by assumption) ?_
      rotate_left
      · (intro wS hS; have a0 := cell_below hS a0; have a1 := cell_below hS a1; have a2 := cell_below hS a2; have a3 := cell_below hS a3; have b0 := cell_below hS b0; have b1 := cell_below hS b1; have b2 := cell_below hS b2; have b3 := cell_below hS b3; have p0 := cell_below hS p0; have p1 := cell_below hS p1; have q0 := cell_below hS q0; have q1 := cell_below hS q1; go_simp <;> with_reducible rfl)
      try simp only [Act.put, List.setIfInBounds_toArray, List.set_cons_zero, List.set_cons_succ]
      refine wpAnyH_take (i := 3) (oi := { dst := some 39, op := Op.load 24 (Operand.tmp 5), type := 24, pos := "law.go:63", after := #[{ on := 1, ground := Ground.guard }], guard := some (1, true) }) (v := ?_) rfl (by kernel_rfl) (by kernel_rfl) (by kernel_rfl) (fun _ _ _ h => h) (Or.inl ⟨by rfl, ?_⟩) (by assumption) ?_
      rotate_left
      · (intro wS hS; have a0 := cell_below hS a0; have a1 := cell_below hS a1; have a2 := cell_below hS a2; have a3 := cell_below hS a3; have b0 := cell_below hS b0; have b1 := cell_below hS b1; have b2 := cell_below hS b2; have b3 := cell_below hS b3; have p0 := cell_below hS p0; have p1 := cell_below hS p1; have q0 := cell_below hS q0; have q1 := cell_below hS q1; go_simp <;> with_reducible rfl)
      try simp only [Act.put, List.setIfInBounds_toArray, List.set_cons_zero, List.set_cons_succ]
      refine wpAnyH_take (i := 5) (oi := { dst := some 41, op := Op.load 29 (Operand.tmp 3), type := 29, pos := "law.go:63", after := #[{ on := 1, ground := Ground.guard }], guard := some (1, true) }) (v := ?_) rfl (by kernel_rfl) (by kernel_rfl) (by kernel_rfl) (fun _ _ _ h => h) (Or.inl ⟨by rfl, ?_⟩) (by assumption) ?_
      rotate_left
      · (intro wS hS; have a0 := cell_below hS a0; have a1 := cell_below hS a1; have a2 := cell_below hS a2; have a3 := cell_below hS a3; have b0 := cell_below hS b0; have b1 := cell_below hS b1; have b2 := cell_below hS b2; have b3 := cell_below hS b3; have p0 := cell_below hS p0; have p1 := cell_below hS p1; have q0 := cell_below hS q0; have q1 := cell_below hS q1; go_simp <;> with_reducible rfl)
      try simp only [Act.put, List.setIfInBounds_toArray, List.set_cons_zero, List.set_cons_succ]
      refine wpAnyH_take (i := 6) (oi := { dst := some 42, op := Op.load 24 (Operand.tmp 5), type := 24, pos := "law.go:63", after := #[{ on := 1, ground := Ground.guard }], guard := some (1, true) }) (v := ?_) rfl (by kernel_rfl) (by kernel_rfl) (by kernel_rfl) (fun _ _ _ h => h) (Or.inl ⟨by rfl, ?_⟩) (by assumption) ?_
      rotate_left
      · (intro wS hS; have a0 := cell_below hS a0; have a1 := cell_below hS a1; have a2 := cell_below hS a2; have a3 := cell_below hS a3; have b0 := cell_below hS b0; have b1 := cell_below hS b1; have b2 := cell_below hS b2; have b3 := cell_below hS b3; have p0 := cell_below hS p0; have p1 := cell_below hS p1; have q0 := cell_below hS q0; have q1 := cell_below hS q1; go_simp <;> with_reducible rfl)
      try simp only [Act.put, List.setIfInBounds_toArray, List.set_cons_zero, List.set_cons_succ]
      refine wpAnyH_ready (rs := [4]) (by kernel_rfl) (by simp) ?_
      refine AllReadyH.cons (o := { dst := some 40, op := Op.call { callee := Callee.value (Operand.func 13), args := #[Operand.tmp 38, Operand.tmp 39], argTypes := #[29, 24] }, type := 9, pos := "law.go:63", after := #[{ on := 2, ground := Ground.data }, { on := 3, ground := Ground.data }, { on := 1, ground := Ground.chain }, { on := 1, ground := Ground.guard }], guard := some (1, true) }) rfl (fun K hK => ?_) AllReadyH.nil
      go_simp
      refine (KA _).out.mono ?_
      rintro e w104 ⟨rfl, hb⟩
      replace hS : (fun W => Below (wc).heap.size (wc) W) w104 := below_then hS hb (Below.size hS)
      refine hK.out _ _ hS (fun _ => ?_)
      clear hK K hb
      try simp only [Act.put, List.setIfInBounds_toArray, List.set_cons_zero, List.set_cons_succ]
      refine wpAnyH_ready (rs := [7]) (by kernel_rfl) (by simp) ?_
      refine AllReadyH.cons (o := { dst := some 43, op := Op.call { callee := Callee.value (Operand.func 14), args := #[Operand.tmp 41, Operand.tmp 42], argTypes := #[29, 24] }, type := 9, pos := "law.go:63", after := #[{ on := 5, ground := Ground.data }, { on := 6, ground := Ground.data }, { on := 4, ground := Ground.chain }, { on := 1, ground := Ground.guard }], guard := some (1, true) }) rfl (fun K hK => ?_) AllReadyH.nil
      go_simp
      refine (KR _).out.mono ?_
      rintro e w107 ⟨rfl, hb⟩
      replace hS : (fun W => Below (wc).heap.size (wc) W) w107 := below_then hS hb (Below.size hS)
      refine hK.out _ _ hS (fun _ => ?_)
      clear hK K hb
      try simp only [Act.put, List.setIfInBounds_toArray, List.set_cons_zero, List.set_cons_succ]
      refine wpAnyH_take (i := 8) (oi := { dst := some 44, op := Op.binOp BinOp.eql 9 (Operand.tmp 40) (Operand.tmp 43) 9, type := 4, pos := "law.go:63", after := #[{ on := 4, ground := Ground.data }, { on := 7, ground := Ground.data }, { on := 1, ground := Ground.guard }], guard := some (1, true) }) (v := ?_) rfl (by kernel_rfl) (by kernel_rfl) (by kernel_rfl) (fun _ _ _ h => h) (Or.inl ⟨by rfl, ?_⟩) (by assumption) ?_
      rotate_left
      · (intro wS hS; go_simp <;> with_reducible rfl)
      try simp only [Act.put, List.setIfInBounds_toArray, List.set_cons_zero, List.set_cons_succ]
      refine wpAnyH_take (i := 9) (oi := { dst := some 45, op := Op.pick (Operand.tmp 37) (Operand.tmp 44) (Operand.const (Value.bool false)), type := 4, pos := "law.go:63", after := #[{ on := 1, ground := Ground.data }, { on := 8, ground := Ground.data }], guard := none }) (v := ?_) rfl (by kernel_rfl) (by kernel_rfl) (by kernel_rfl) (fun _ _ _ h => h) (Or.inl ⟨by rfl, ?_⟩) (by assumption) ?_
      rotate_left
      · (intro wS hS; go_simp <;> with_reducible rfl)
      try simp only [Act.put, List.setIfInBounds_toArray, List.set_cons_zero, List.set_cons_succ]
      refine wpAnyH_take (i := 10) (oi := { dst := some 46, op := Op.move (Operand.tmp 45), type := 4, pos := "law.go:63", after := #[{ on := 9, ground := Ground.data }, { on := 7, ground := Ground.chain }], guard := none }) (v := ?_) rfl (by kernel_rfl) (by kernel_rfl) (by kernel_rfl) (fun _ _ _ h => h) (Or.inl ⟨by rfl, ?_⟩) (by assumption) ?_
      rotate_left
      · (intro wS hS; go_simp <;> with_reducible rfl)
      try simp only [Act.put, List.setIfInBounds_toArray, List.set_cons_zero, List.set_cons_succ]
      refine wpAnyH_take (i := 11) (oi := { dst := some 47, op := Op.load 29 (Operand.tmp 3), type := 29, pos := "law.go:63", after := #[{ on := 10, ground := Ground.guard }], guard := some (10, true) }) (v := ?_) rfl (by kernel_rfl) (by kernel_rfl) (by kernel_rfl) (fun _ _ _ h => h) (Or.inl ⟨by rfl, ?_⟩) (by assumption) ?_
      rotate_left
      · (intro wS hS; have a0 := cell_below hS a0; have a1 := cell_below hS a1; have a2 := cell_below hS a2; have a3 := cell_below hS a3; have b0 := cell_below hS b0; have b1 := cell_below hS b1; have b2 := cell_below hS b2; have b3 := cell_below hS b3; have p0 := cell_below hS p0; have p1 := cell_below hS p1; have q0 := cell_below hS q0; have q1 := cell_below hS q1; go_simp <;> with_reducible rfl)
      try simp only [Act.put, List.setIfInBounds_toArray, List.set_cons_zero, List.set_cons_succ]
      refine wpAnyH_take (i := 12) (oi := { dst := some 48, op := Op.load 24 (Operand.tmp 5), type := 24, pos := "law.go:63", after := #[{ on := 10, ground := Ground.guard }], guard := some (10, true) }) (v := ?_) rfl (by kernel_rfl) (by kernel_rfl) (by kernel_rfl) (fun _ _ _ h => h) (Or.inl ⟨by rfl, ?_⟩) (by assumption) ?_
      rotate_left
      · (intro wS hS; have a0 := cell_below hS a0; have a1 := cell_below hS a1; have a2 := cell_below hS a2; have a3 := cell_below hS a3; have b0 := cell_below hS b0; have b1 := cell_below hS b1; have b2 := cell_below hS b2; have b3 := cell_below hS b3; have p0 := cell_below hS p0; have p1 := cell_below hS p1; have q0 := cell_below hS q0; have q1 := cell_below hS q1; go_simp <;> with_reducible rfl)
      try simp only [Act.put, List.setIfInBounds_toArray, List.set_cons_zero, List.set_cons_succ]
      refine wpAnyH_take (i := 14) (oi := { dst := some 50, op := Op.load 29 (Operand.tmp 4), type := 29, pos := "law.go:63", after := #[{ on := 10, ground := Ground.guard }], guard := some (10, true) }) (v := ?_) rfl (by kernel_rfl) (by kernel_rfl) (by kernel_rfl) (fun _ _ _ h => h) (Or.inl ⟨by rfl, ?_⟩) (by assumption) ?_
      rotate_left
      · (intro wS hS; have a0 := cell_below hS a0; have a1 := cell_below hS a1; have a2 := cell_below hS a2; have a3 := cell_below hS a3; have b0 := cell_below hS b0; have b1 := cell_below hS b1; have b2 := cell_below hS b2; have b3 := cell_below hS b3; have p0 := cell_below hS p0; have p1 := cell_below hS p1; have q0 := cell_below hS q0; have q1 := cell_below hS q1; go_simp <;> with_reducible rfl)
      try simp only [Act.put, List.setIfInBounds_toArray, List.set_cons_zero, List.set_cons_succ]
      refine wpAnyH_take (i := 15) (oi := { dst := some 51, op := Op.load 24 (Operand.tmp 6), type := 24, pos := "law.go:63", after := #[{ on := 10, ground := Ground.guard }], guard := some (10, true) }) (v := ?_) rfl (by kernel_rfl) (by kernel_rfl) (by kernel_rfl) (fun _ _ _ h => h) (Or.inl ⟨by rfl, ?_⟩) (by assumption) ?_
      rotate_left
      · (intro wS hS; have a0 := cell_below hS a0; have a1 := cell_below hS a1; have a2 := cell_below hS a2; have a3 := cell_below hS a3; have b0 := cell_below hS b0; have b1 := cell_below hS b1; have b2 := cell_below hS b2; have b3 := cell_below hS b3; have p0 := cell_below hS p0; have p1 := cell_below hS p1; have q0 := cell_below hS q0; have q1 := cell_below hS q1; go_simp <;> with_reducible rfl)
      try simp only [Act.put, List.setIfInBounds_toArray, List.set_cons_zero, List.set_cons_succ]
      refine wpAnyH_take (i := 18) (oi := { dst := some 54, op := Op.load 29 (Operand.tmp 3), type := 29, pos := "law.go:63", after := #[{ on := 10, ground := Ground.guard }], guard := some (10, true) }) (v := ?_) rfl (by kernel_rfl) (by kernel_rfl) (by kernel_rfl) (fun _ _ _ h => h) (Or.inl ⟨by rfl, ?_⟩) (by assumption) ?_
      rotate_left
      · (intro wS hS; have a0 := cell_below hS a0; have a1 := cell_below hS a1; have a2 := cell_below hS a2; have a3 := cell_below hS a3; have b0 := cell_below hS b0; have b1 := cell_below hS b1; have b2 := cell_below hS b2; have b3 := cell_below hS b3; have p0 := cell_below hS p0; have p1 := cell_below hS p1; have q0 := cell_below hS q0; have q1 := cell_below hS q1; go_simp <;> with_reducible rfl)
      try simp only [Act.put, List.setIfInBounds_toArray, List.set_cons_zero, List.set_cons_succ]
      refine wpAnyH_take (i := 19) (oi := { dst := some 55, op := Op.load 29 (Operand.tmp 4), type := 29, pos := "law.go:63", after := #[{ on := 10, ground := Ground.guard }], guard := some (10, true) }) (v := ?_) rfl (by kernel_rfl) (by kernel_rfl) (by kernel_rfl) (fun _ _ _ h => h) (Or.inl ⟨by rfl, ?_⟩) (by assumption) ?_
      rotate_left
      · (intro wS hS; have a0 := cell_below hS a0; have a1 := cell_below hS a1; have a2 := cell_below hS a2; have a3 := cell_below hS a3; have b0 := cell_below hS b0; have b1 := cell_below hS b1; have b2 := cell_below hS b2; have b3 := cell_below hS b3; have p0 := cell_below hS p0; have p1 := cell_below hS p1; have q0 := cell_below hS q0; have q1 := cell_below hS q1; go_simp <;> with_reducible rfl)
      try simp only [Act.put, List.setIfInBounds_toArray, List.set_cons_zero, List.set_cons_succ]
      refine wpAnyH_take (i := 20) (oi := { dst := some 56, op := Op.binOp BinOp.eql 29 (Operand.tmp 54) (Operand.tmp 55) 29, type := 4, pos := "law.go:63", after := #[{ on := 18, ground := Ground.data }, { on := 19, ground := Ground.data }, { on := 10, ground := Ground.guard }], guard := some (10, true) }) (v := ?_) rfl (by kernel_rfl) (by kernel_rfl) (by kernel_rfl) (fun _ _ _ h => h) (Or.inl ⟨by rfl, ?_⟩) (by assumption) ?_
      rotate_left
      · (intro wS hS; go_simp <;> with_reducible rfl)
      try simp only [Act.put, List.setIfInBounds_toArray, List.set_cons_zero, List.set_cons_succ]
      refine wpAnyH_ready (rs := [13]) (by kernel_rfl) (by simp) ?_
      refine AllReadyH.cons (o := { dst := some 49, op := Op.call { callee := Callee.value (Operand.func 13), args := #[Operand.tmp 47, Operand.tmp 48], argTypes := #[29, 24] }, type := 9, pos := "law.go:63", after := #[{ on := 11, ground := Ground.data }, { on := 12, ground := Ground.data }, { on := 10, ground := Ground.chain }, { on := 10, ground := Ground.guard }], guard := some (10, true) }) rfl (fun K hK => ?_) AllReadyH.nil
      go_simp
      refine (KA _).out.mono ?_
      rintro e w113 ⟨rfl, hb⟩
      replace hS : (fun W => Below (wc).heap.size (wc) W) w113 := below_then hS hb (Below.size hS)
      refine hK.out _ _ hS (fun _ => ?_)
      clear hK K hb
      try simp only [Act.put, List.setIfInBounds_toArray, List.set_cons_zero, List.set_cons_succ]
      refine wpAnyH_ready (rs := [16]) (by kernel_rfl) (by simp) ?_
      refine AllReadyH.cons (o := { dst := some 52, op := Op.call { callee := Callee.value (Operand.func 13), args := #[Operand.tmp 50, Operand.tmp 51], argTypes := #[29, 24] }, type := 9, pos := "law.go:63", after := #[{ on := 14, ground := Ground.data }, { on := 15, ground := Ground.data }, { on := 13, ground := Ground.chain }, { on := 10, ground := Ground.guard }], guard := some (10, true) }) rfl (fun K hK => ?_) AllReadyH.nil
      go_simp
      refine (KA _).out.mono ?_
      rintro e w116 ⟨rfl, hb⟩
      replace hS : (fun W => Below (wc).heap.size (wc) W) w116 := below_then hS hb (Below.size hS)
      refine hK.out _ _ hS (fun _ => ?_)
      clear hK K hb
      try simp only [Act.put, List.setIfInBounds_toArray, List.set_cons_zero, List.set_cons_succ]
      refine wpAnyH_take (i := 17) (oi := { dst := some 53, op := Op.binOp BinOp.eql 9 (Operand.tmp 49) (Operand.tmp 52) 9, type := 4, pos := "law.go:63", after := #[{ on := 13, ground := Ground.data }, { on := 16, ground := Ground.data }, { on := 10, ground := Ground.guard }], guard := some (10, true) }) (v := ?_) rfl (by kernel_rfl) (by kernel_rfl) (by kernel_rfl) (fun _ _ _ h => h) (Or.inl ⟨by rfl, ?_⟩) (by assumption) ?_
      rotate_left
      · (intro wS hS; go_simp <;> with_reducible rfl)
      try simp only [Act.put, List.setIfInBounds_toArray, List.set_cons_zero, List.set_cons_succ]
      refine wpAnyH_take (i := 21) (oi := { dst := some 57, op := Op.move (Operand.tmp 56), type := 4, pos := "law.go:63", after := #[{ on := 20, ground := Ground.data }, { on := 16, ground := Ground.chain }, { on := 10, ground := Ground.guard }], guard := some (10, true) }) (v := ?_) rfl (by kernel_rfl) (by kernel_rfl) (by kernel_rfl) (fun _ _ _ h => h) (Or.inl ⟨by rfl, ?_⟩) (by assumption) ?_
      rotate_left
      · (intro wS hS; go_simp <;> with_reducible rfl)
      try simp only [Act.put, List.setIfInBounds_toArray, List.set_cons_zero, List.set_cons_succ]
      refine wpAnyH_take (i := 22) (oi := { dst := some 58, op := Op.load 24 (Operand.tmp 5), type := 24, pos := "law.go:63", after := #[{ on := 21, ground := Ground.guard }], guard := some (21, true) }) (v := ?_) rfl (by kernel_rfl) (by kernel_rfl) (by kernel_rfl) (fun _ _ _ h => h) (Or.inl ⟨by rfl, ?_⟩) (by assumption) ?_
      rotate_left
      · (intro wS hS; have a0 := cell_below hS a0; have a1 := cell_below hS a1; have a2 := cell_below hS a2; have a3 := cell_below hS a3; have b0 := cell_below hS b0; have b1 := cell_below hS b1; have b2 := cell_below hS b2; have b3 := cell_below hS b3; have p0 := cell_below hS p0; have p1 := cell_below hS p1; have q0 := cell_below hS q0; have q1 := cell_below hS q1; go_simp <;> with_reducible rfl)
      try simp only [Act.put, List.setIfInBounds_toArray, List.set_cons_zero, List.set_cons_succ]
      refine wpAnyH_take (i := 23) (oi := { dst := some 59, op := Op.load 24 (Operand.tmp 6), type := 24, pos := "law.go:63", after := #[{ on := 21, ground := Ground.guard }], guard := some (21, true) }) (v := ?_) rfl (by kernel_rfl) (by kernel_rfl) (by kernel_rfl) (fun _ _ _ h => h) (Or.inl ⟨by rfl, ?_⟩) (by assumption) ?_
      rotate_left
      · (intro wS hS; have a0 := cell_below hS a0; have a1 := cell_below hS a1; have a2 := cell_below hS a2; have a3 := cell_below hS a3; have b0 := cell_below hS b0; have b1 := cell_below hS b1; have b2 := cell_below hS b2; have b3 := cell_below hS b3; have p0 := cell_below hS p0; have p1 := cell_below hS p1; have q0 := cell_below hS q0; have q1 := cell_below hS q1; go_simp <;> with_reducible rfl)
      try simp only [Act.put, List.setIfInBounds_toArray, List.set_cons_zero, List.set_cons_succ]
      refine wpAnyH_take (i := 24) (oi := { dst := some 60, op := Op.binOp BinOp.eql 24 (Operand.tmp 58) (Operand.tmp 59) 24, type := 4, pos := "law.go:63", after := #[{ on := 22, ground := Ground.data }, { on := 23, ground := Ground.data }, { on := 21, ground := Ground.guard }], guard := some (21, true) }) (v := ?_) rfl (by kernel_rfl) (by kernel_rfl) (by kernel_rfl) (fun _ _ _ h => h) (Or.inl ⟨by rfl, ?_⟩) (by assumption) ?_
      rotate_left
      · (intro wS hS; go_simp <;> with_reducible rfl)
      try simp only [Act.put, List.setIfInBounds_toArray, List.set_cons_zero, List.set_cons_succ]
      refine wpAnyH_take (i := 25) (oi := { dst := some 61, op := Op.pick (Operand.tmp 57) (Operand.tmp 60) (Operand.const (Value.bool false)), type := 4, pos := "law.go:63", after := #[{ on := 21, ground := Ground.data }, { on := 24, ground := Ground.data }, { on := 10, ground := Ground.guard }], guard := some (10, true) }) (v := ?_) rfl (by kernel_rfl) (by kernel_rfl) (by kernel_rfl) (fun _ _ _ h => h) (Or.inl ⟨by rfl, ?_⟩) (by assumption) ?_
      rotate_left
      · (intro wS hS; go_simp <;> with_reducible rfl)
      try simp only [Act.put, List.setIfInBounds_toArray, List.set_cons_zero, List.set_cons_succ]
      refine wpAnyH_take (i := 26) (oi := { dst := some 62, op := Op.binOp BinOp.eql 4 (Operand.tmp 53) (Operand.tmp 61) 4, type := 4, pos := "law.go:63", after := #[{ on := 17, ground := Ground.data }, { on := 25, ground := Ground.data }, { on := 10, ground := Ground.guard }], guard := some (10, true) }) (v := ?_) rfl (by kernel_rfl) (by kernel_rfl) (by kernel_rfl) (fun _ _ _ h => h) (Or.inl ⟨by rfl, ?_⟩) (by assumption) ?_
      rotate_left
      · (intro wS hS; go_simp <;> with_reducible rfl)
      try simp only [Act.put, List.setIfInBounds_toArray, List.set_cons_zero, List.set_cons_succ]
      refine wpAnyH_take (i := 27) (oi := { dst := some 63, op := Op.pick (Operand.tmp 46) (Operand.tmp 62) (Operand.const (Value.bool false)), type := 4, pos := "law.go:63", after := #[{ on := 10, ground := Ground.data }, { on := 26, ground := Ground.data }], guard := none }) (v := ?_) rfl (by kernel_rfl) (by kernel_rfl) (by kernel_rfl) (fun _ _ _ h => h) (Or.inl ⟨by rfl, ?_⟩) (by assumption) ?_
      rotate_left
      · (intro wS hS; go_simp <;> with_reducible rfl)
      try simp only [Act.put, List.setIfInBounds_toArray, List.set_cons_zero, List.set_cons_succ]
      refine wpAnyH_take (i := 28) (oi := { dst := some 2, op := Op.assign (Operand.tmp 63), type := 4, pos := "law.go:63", after := #[{ on := 27, ground := Ground.data }, { on := 21, ground := Ground.chain }, { on := 0, ground := Ground.phase }, { on := 1, ground := Ground.phase }, { on := 2, ground := Ground.phase }, { on := 3, ground := Ground.phase }, { on := 4, ground := Ground.phase }, { on := 5, ground := Ground.phase }, { on := 6, ground := Ground.phase }, { on := 7, ground := Ground.phase }, { on := 8, ground := Ground.phase }, { on := 9, ground := Ground.phase }, { on := 10, ground := Ground.phase }, { on := 11, ground := Ground.phase }, { on := 12, ground := Ground.phase }, { on := 13, ground := Ground.phase }, { on := 14, ground := Ground.phase }, { on := 15, ground := Ground.phase }, { on := 16, ground := Ground.phase }, { on := 17, ground := Ground.phase }, { on := 18, ground := Ground.phase }, { on := 19, ground := Ground.phase }, { on := 20, ground := Ground.phase }, { on := 21, ground := Ground.phase }, { on := 22, ground := Ground.phase }, { on := 23, ground := Ground.phase }, { on := 24, ground := Ground.phase }, { on := 25, ground := Ground.phase }, { on := 26, ground := Ground.phase }, { on := 27, ground := Ground.phase }], guard := none }) (v := ?_) rfl (by kernel_rfl) (by kernel_rfl) (by kernel_rfl) (fun _ _ _ h => h) (Or.inl ⟨by rfl, ?_⟩) (by assumption) ?_
      rotate_left
      · (intro wS hS; go_simp <;> with_reducible rfl)
      try simp only [Act.put, List.setIfInBounds_toArray, List.set_cons_zero, List.set_cons_succ]
      refine wpAnyH_done (by kernel_rfl) ?_ _
      go_wp2_with fail
      go_ret
      exact ⟨ret_bool (by simp), hB.trans (below_of hS hB.size)⟩
    · have hne : ¬ (keyB sa da va s1 s2 na = keyB sb db vb t1 t2 nb) := fun h => hall (HI.out h)
      have hn1 : (keyB sa da va s1 s2 na == keyB sb db vb t1 t2 nb) = false := by rw [beq_eq_false_iff_ne]; exact hne
      have hn2 : decide (keyB sa da va s1 s2 na = keyB sb db vb t1 t2 nb) = false := by rw [decide_eq_false_iff_not]; exact hne
      clear HI
      generalize keyB sa da va s1 s2 na = kA at *
      generalize keyB sb db vb t1 t2 nb = kB at *
      have hd : sa ≠ sb ∨ (sa = sb ∧ na ≠ nb) ∨ (sa = sb ∧ na = nb ∧ da ≠ db) ∨ (sa = sb ∧ na = nb ∧ da = db ∧ va ≠ vb) ∨ (sa = sb ∧ na = nb ∧ da = db ∧ va = vb ∧ s1 ≠ t1) ∨ (sa = sb ∧ na = nb ∧ da = db ∧ va = vb ∧ s1 = t1 ∧ s2 ≠ t2) := by
        by_cases q0 : sa = sb <;> by_cases q1 : na = nb <;> by_cases q2 : da = db <;> by_cases q3 : va = vb <;> by_cases q4 : s1 = t1 <;> by_cases q5 : s2 = t2 <;> simp_all
      clear hall
      have hd2 : (sa ≠ sb ∨ (sa = sb ∧ na ≠ nb) ∨ (sa = sb ∧ na = nb ∧ da ≠ db) ∨ (sa = sb ∧ na = nb ∧ da = db ∧ va ≠ vb)) ∨ (sa = sb ∧ na = nb ∧ da = db ∧ va = vb ∧ (s1 ≠ t1 ∨ (s1 = t1 ∧ s2 ≠ t2))) := by
        rcases hd with h | h | h | h | h | h
        · exact .inl (.inl h)
        · exact .inl (.inr (.inl h))
        · exact .inl (.inr (.inr (.inl h)))
        · exact .inl (.inr (.inr (.inr h)))
        · exact .inr ⟨h.1, h.2.1, h.2.2.1, h.2.2.2.1, .inl h.2.2.2.2⟩
        · exact .inr ⟨h.1, h.2.1, h.2.2.1, h.2.2.2.1, .inr h.2.2.2.2⟩
      clear hd
      rcases hd2 with hA | ⟨rfl, rfl, rfl, rfl, hC⟩
      · rcases hA with d0 | ⟨rfl, d1⟩ | ⟨rfl, rfl, d2⟩ | ⟨rfl, rfl, rfl, d3⟩
        case' inl =>
          have n1 : ((sa : Int) == sb) = false := by rw [beq_eq_false_iff_ne]; omega
          have n2 : ¬ ((sa : Int) = sb) := by omega
          have n3 : decide ((sa : Int) = sb) = false := by rw [decide_eq_false_iff_not]; omega
        case' inr.inl =>
          have n1 : (na == nb) = false := by rw [beq_eq_false_iff_ne]; exact d1
          have n3 : decide (na = nb) = false := by rw [decide_eq_false_iff_not]; exact d1
        case' inr.inr.inl =>
          have n1 : ((da : Int) == db) = false := by rw [beq_eq_false_iff_ne]; omega
          have n2 : ¬ ((da : Int) = db) := by omega
          have n3 : decide ((da : Int) = db) = false := by rw [decide_eq_false_iff_not]; omega
        case' inr.inr.inr =>
          have n1 : ((va : Int) == vb) = false := by rw [beq_eq_false_iff_ne]; omega
          have n2 : ¬ ((va : Int) = vb) := by omega
          have n3 : decide ((va : Int) = vb) = false := by rw [decide_eq_false_iff_not]; omega
        all_goals
          refine wp_region_held (S := fun W => Below (wc).heap.size (wc) W) (by kernel_rfl) ?_
          change wpAnyH _ _ _ _ _ _ _ _ (wc).drew
          have hS : (fun W => Below (wc).heap.size (wc) W) (wc).drew := (Below.refl _ _).drew
          refine wpAnyH_ready (rs := [0]) (by kernel_rfl) (by simp) ?_
          refine AllReadyH.cons (o := { dst := some 36, op := Op.call { callee := Callee.value (Operand.func 9), args := #[], argTypes := #[] }, type := 4, pos := "law.go:63", after := #[], guard := none }) rfl (fun K hK => ?_) AllReadyH.nil
          go_simp
          refine (awake08_any _).mono ?_
          rintro e w100 ⟨rfl, hb⟩
          replace hS : (fun W => Below (wc).heap.size (wc) W) w100 := below_then hS hb (Below.size hS)
          refine hK.out _ _ hS (fun _ => ?_)
          clear hK K hb
          try simp only [Act.put, List.setIfInBounds_toArray, List.set_cons_zero, List.set_cons_succ]
          refine wpAnyH_take (i := 1) (oi := { dst := some 37, op := Op.move (Operand.tmp 36), type := 4, pos := "law.go:63", after := #[{ on := 0, ground := Ground.data }, { on := 0, ground := Ground.chain }], guard := none }) (v := ?_) rfl (by kernel_rfl) (by kernel_rfl) (by kernel_rfl) (fun _ _ _ h => h) (Or.inl ⟨by rfl, ?_⟩) (by assumption) ?_
          rotate_left
          · (intro wS hS; go_simp <;> with_reducible rfl)
          try simp only [Act.put, List.setIfInBounds_toArray, List.set_cons_zero, List.set_cons_succ]
          refine wpAnyH_take (i := 2) (oi := { dst := some 38, op := Op.load 29 (Operand.tmp 3), type := 29, pos := "law.go:63", after := #[{ on := 1, ground := Ground.guard }], guard := some (1, true) }) (v := ?_) rfl (by kernel_rfl) (by kernel_rfl) (by kernel_rfl) (fun _ _ _ h => h) (Or.inl ⟨by rfl, ?_⟩) (by assumption) ?_
          rotate_left
          · (intro wS hS; have a0 := cell_below hS a0; have a1 := cell_below hS a1; have a2 := cell_below hS a2; have a3 := cell_below hS a3; have b0 := cell_below hS b0; have b1 := cell_below hS b1; have b2 := cell_below hS b2; have b3 := cell_below hS b3; have p0 := cell_below hS p0; have p1 := cell_below hS p1; have q0 := cell_below hS q0; have q1 := cell_below hS q1; go_simp <;> with_reducible rfl)
          try simp only [Act.put, List.setIfInBounds_toArray, List.set_cons_zero, List.set_cons_succ]
          refine wpAnyH_take (i := 3) (oi := { dst := some 39, op := Op.load 24 (Operand.tmp 5), type := 24, pos := "law.go:63", after := #[{ on := 1, ground := Ground.guard }], guard := some (1, true) }) (v := ?_) rfl (by kernel_rfl) (by kernel_rfl) (by kernel_rfl) (fun _ _ _ h => h) (Or.inl ⟨by rfl, ?_⟩) (by assumption) ?_
          rotate_left
          · (intro wS hS; have a0 := cell_below hS a0; have a1 := cell_below hS a1; have a2 := cell_below hS a2; have a3 := cell_below hS a3; have b0 := cell_below hS b0; have b1 := cell_below hS b1; have b2 := cell_below hS b2; have b3 := cell_below hS b3; have p0 := cell_below hS p0; have p1 := cell_below hS p1; have q0 := cell_below hS q0; have q1 := cell_below hS q1; go_simp <;> with_reducible rfl)
          try simp only [Act.put, List.setIfInBounds_toArray, List.set_cons_zero, List.set_cons_succ]
          refine wpAnyH_take (i := 5) (oi := { dst := some 41, op := Op.load 29 (Operand.tmp 3), type := 29, pos := "law.go:63", after := #[{ on := 1, ground := Ground.guard }], guard := some (1, true) }) (v := ?_) rfl (by kernel_rfl) (by kernel_rfl) (by kernel_rfl) (fun _ _ _ h => h) (Or.inl ⟨by rfl, ?_⟩) (by assumption) ?_
          rotate_left
          · (intro wS hS; have a0 := cell_below hS a0; have a1 := cell_below hS a1; have a2 := cell_below hS a2; have a3 := cell_below hS a3; have b0 := cell_below hS b0; have b1 := cell_below hS b1; have b2 := cell_below hS b2; have b3 := cell_below hS b3; have p0 := cell_below hS p0; have p1 := cell_below hS p1; have q0 := cell_below hS q0; have q1 := cell_below hS q1; go_simp <;> with_reducible rfl)
          try simp only [Act.put, List.setIfInBounds_toArray, List.set_cons_zero, List.set_cons_succ]
          refine wpAnyH_take (i := 6) (oi := { dst := some 42, op := Op.load 24 (Operand.tmp 5), type := 24, pos := "law.go:63", after := #[{ on := 1, ground := Ground.guard }], guard := some (1, true) }) (v := ?_) rfl (by kernel_rfl) (by kernel_rfl) (by kernel_rfl) (fun _ _ _ h => h) (Or.inl ⟨by rfl, ?_⟩) (by assumption) ?_
          rotate_left
          · (intro wS hS; have a0 := cell_below hS a0; have a1 := cell_below hS a1; have a2 := cell_below hS a2; have a3 := cell_below hS a3; have b0 := cell_below hS b0; have b1 := cell_below hS b1; have b2 := cell_below hS b2; have b3 := cell_below hS b3; have p0 := cell_below hS p0; have p1 := cell_below hS p1; have q0 := cell_below hS q0; have q1 := cell_below hS q1; go_simp <;> with_reducible rfl)
          try simp only [Act.put, List.setIfInBounds_toArray, List.set_cons_zero, List.set_cons_succ]
          refine wpAnyH_ready (rs := [4]) (by kernel_rfl) (by simp) ?_
          refine AllReadyH.cons (o := { dst := some 40, op := Op.call { callee := Callee.value (Operand.func 13), args := #[Operand.tmp 38, Operand.tmp 39], argTypes := #[29, 24] }, type := 9, pos := "law.go:63", after := #[{ on := 2, ground := Ground.data }, { on := 3, ground := Ground.data }, { on := 1, ground := Ground.chain }, { on := 1, ground := Ground.guard }], guard := some (1, true) }) rfl (fun K hK => ?_) AllReadyH.nil
          go_simp
          refine (KA _).out.mono ?_
          rintro e w104 ⟨rfl, hb⟩
          replace hS : (fun W => Below (wc).heap.size (wc) W) w104 := below_then hS hb (Below.size hS)
          refine hK.out _ _ hS (fun _ => ?_)
          clear hK K hb
          try simp only [Act.put, List.setIfInBounds_toArray, List.set_cons_zero, List.set_cons_succ]
          refine wpAnyH_ready (rs := [7]) (by kernel_rfl) (by simp) ?_
          refine AllReadyH.cons (o := { dst := some 43, op := Op.call { callee := Callee.value (Operand.func 14), args := #[Operand.tmp 41, Operand.tmp 42], argTypes := #[29, 24] }, type := 9, pos := "law.go:63", after := #[{ on := 5, ground := Ground.data }, { on := 6, ground := Ground.data }, { on := 4, ground := Ground.chain }, { on := 1, ground := Ground.guard }], guard := some (1, true) }) rfl (fun K hK => ?_) AllReadyH.nil
          go_simp
          refine (KR _).out.mono ?_
          rintro e w107 ⟨rfl, hb⟩
          replace hS : (fun W => Below (wc).heap.size (wc) W) w107 := below_then hS hb (Below.size hS)
          refine hK.out _ _ hS (fun _ => ?_)
          clear hK K hb
          try simp only [Act.put, List.setIfInBounds_toArray, List.set_cons_zero, List.set_cons_succ]
          refine wpAnyH_take (i := 8) (oi := { dst := some 44, op := Op.binOp BinOp.eql 9 (Operand.tmp 40) (Operand.tmp 43) 9, type := 4, pos := "law.go:63", after := #[{ on := 4, ground := Ground.data }, { on := 7, ground := Ground.data }, { on := 1, ground := Ground.guard }], guard := some (1, true) }) (v := ?_) rfl (by kernel_rfl) (by kernel_rfl) (by kernel_rfl) (fun _ _ _ h => h) (Or.inl ⟨by rfl, ?_⟩) (by assumption) ?_
          rotate_left
          · (intro wS hS; go_simp <;> with_reducible rfl)
          try simp only [Act.put, List.setIfInBounds_toArray, List.set_cons_zero, List.set_cons_succ]
          refine wpAnyH_take (i := 9) (oi := { dst := some 45, op := Op.pick (Operand.tmp 37) (Operand.tmp 44) (Operand.const (Value.bool false)), type := 4, pos := "law.go:63", after := #[{ on := 1, ground := Ground.data }, { on := 8, ground := Ground.data }], guard := none }) (v := ?_) rfl (by kernel_rfl) (by kernel_rfl) (by kernel_rfl) (fun _ _ _ h => h) (Or.inl ⟨by rfl, ?_⟩) (by assumption) ?_
          rotate_left
          · (intro wS hS; go_simp <;> with_reducible rfl)
          try simp only [Act.put, List.setIfInBounds_toArray, List.set_cons_zero, List.set_cons_succ]
          refine wpAnyH_take (i := 10) (oi := { dst := some 46, op := Op.move (Operand.tmp 45), type := 4, pos := "law.go:63", after := #[{ on := 9, ground := Ground.data }, { on := 7, ground := Ground.chain }], guard := none }) (v := ?_) rfl (by kernel_rfl) (by kernel_rfl) (by kernel_rfl) (fun _ _ _ h => h) (Or.inl ⟨by rfl, ?_⟩) (by assumption) ?_
          rotate_left
          · (intro wS hS; go_simp <;> with_reducible rfl)
          try simp only [Act.put, List.setIfInBounds_toArray, List.set_cons_zero, List.set_cons_succ]
          refine wpAnyH_take (i := 11) (oi := { dst := some 47, op := Op.load 29 (Operand.tmp 3), type := 29, pos := "law.go:63", after := #[{ on := 10, ground := Ground.guard }], guard := some (10, true) }) (v := ?_) rfl (by kernel_rfl) (by kernel_rfl) (by kernel_rfl) (fun _ _ _ h => h) (Or.inl ⟨by rfl, ?_⟩) (by assumption) ?_
          rotate_left
          · (intro wS hS; have a0 := cell_below hS a0; have a1 := cell_below hS a1; have a2 := cell_below hS a2; have a3 := cell_below hS a3; have b0 := cell_below hS b0; have b1 := cell_below hS b1; have b2 := cell_below hS b2; have b3 := cell_below hS b3; have p0 := cell_below hS p0; have p1 := cell_below hS p1; have q0 := cell_below hS q0; have q1 := cell_below hS q1; go_simp <;> with_reducible rfl)
          try simp only [Act.put, List.setIfInBounds_toArray, List.set_cons_zero, List.set_cons_succ]
          refine wpAnyH_take (i := 12) (oi := { dst := some 48, op := Op.load 24 (Operand.tmp 5), type := 24, pos := "law.go:63", after := #[{ on := 10, ground := Ground.guard }], guard := some (10, true) }) (v := ?_) rfl (by kernel_rfl) (by kernel_rfl) (by kernel_rfl) (fun _ _ _ h => h) (Or.inl ⟨by rfl, ?_⟩) (by assumption) ?_
          rotate_left
          · (intro wS hS; have a0 := cell_below hS a0; have a1 := cell_below hS a1; have a2 := cell_below hS a2; have a3 := cell_below hS a3; have b0 := cell_below hS b0; have b1 := cell_below hS b1; have b2 := cell_below hS b2; have b3 := cell_below hS b3; have p0 := cell_below hS p0; have p1 := cell_below hS p1; have q0 := cell_below hS q0; have q1 := cell_below hS q1; go_simp <;> with_reducible rfl)
          try simp only [Act.put, List.setIfInBounds_toArray, List.set_cons_zero, List.set_cons_succ]
          refine wpAnyH_take (i := 14) (oi := { dst := some 50, op := Op.load 29 (Operand.tmp 4), type := 29, pos := "law.go:63", after := #[{ on := 10, ground := Ground.guard }], guard := some (10, true) }) (v := ?_) rfl (by kernel_rfl) (by kernel_rfl) (by kernel_rfl) (fun _ _ _ h => h) (Or.inl ⟨by rfl, ?_⟩) (by assumption) ?_
          rotate_left
          · (intro wS hS; have a0 := cell_below hS a0; have a1 := cell_below hS a1; have a2 := cell_below hS a2; have a3 := cell_below hS a3; have b0 := cell_below hS b0; have b1 := cell_below hS b1; have b2 := cell_below hS b2; have b3 := cell_below hS b3; have p0 := cell_below hS p0; have p1 := cell_below hS p1; have q0 := cell_below hS q0; have q1 := cell_below hS q1; go_simp <;> with_reducible rfl)
          try simp only [Act.put, List.setIfInBounds_toArray, List.set_cons_zero, List.set_cons_succ]
          refine wpAnyH_take (i := 15) (oi := { dst := some 51, op := Op.load 24 (Operand.tmp 6), type := 24, pos := "law.go:63", after := #[{ on := 10, ground := Ground.guard }], guard := some (10, true) }) (v := ?_) rfl (by kernel_rfl) (by kernel_rfl) (by kernel_rfl) (fun _ _ _ h => h) (Or.inl ⟨by rfl, ?_⟩) (by assumption) ?_
          rotate_left
          · (intro wS hS; have a0 := cell_below hS a0; have a1 := cell_below hS a1; have a2 := cell_below hS a2; have a3 := cell_below hS a3; have b0 := cell_below hS b0; have b1 := cell_below hS b1; have b2 := cell_below hS b2; have b3 := cell_below hS b3; have p0 := cell_below hS p0; have p1 := cell_below hS p1; have q0 := cell_below hS q0; have q1 := cell_below hS q1; go_simp <;> with_reducible rfl)
          try simp only [Act.put, List.setIfInBounds_toArray, List.set_cons_zero, List.set_cons_succ]
          refine wpAnyH_take (i := 18) (oi := { dst := some 54, op := Op.load 29 (Operand.tmp 3), type := 29, pos := "law.go:63", after := #[{ on := 10, ground := Ground.guard }], guard := some (10, true) }) (v := ?_) rfl (by kernel_rfl) (by kernel_rfl) (by kernel_rfl) (fun _ _ _ h => h) (Or.inl ⟨by rfl, ?_⟩) (by assumption) ?_
          rotate_left
          · (intro wS hS; have a0 := cell_below hS a0; have a1 := cell_below hS a1; have a2 := cell_below hS a2; have a3 := cell_below hS a3; have b0 := cell_below hS b0; have b1 := cell_below hS b1; have b2 := cell_below hS b2; have b3 := cell_below hS b3; have p0 := cell_below hS p0; have p1 := cell_below hS p1; have q0 := cell_below hS q0; have q1 := cell_below hS q1; go_simp <;> with_reducible rfl)
          try simp only [Act.put, List.setIfInBounds_toArray, List.set_cons_zero, List.set_cons_succ]
          refine wpAnyH_take (i := 19) (oi := { dst := some 55, op := Op.load 29 (Operand.tmp 4), type := 29, pos := "law.go:63", after := #[{ on := 10, ground := Ground.guard }], guard := some (10, true) }) (v := ?_) rfl (by kernel_rfl) (by kernel_rfl) (by kernel_rfl) (fun _ _ _ h => h) (Or.inl ⟨by rfl, ?_⟩) (by assumption) ?_
          rotate_left
          · (intro wS hS; have a0 := cell_below hS a0; have a1 := cell_below hS a1; have a2 := cell_below hS a2; have a3 := cell_below hS a3; have b0 := cell_below hS b0; have b1 := cell_below hS b1; have b2 := cell_below hS b2; have b3 := cell_below hS b3; have p0 := cell_below hS p0; have p1 := cell_below hS p1; have q0 := cell_below hS q0; have q1 := cell_below hS q1; go_simp <;> with_reducible rfl)
          try simp only [Act.put, List.setIfInBounds_toArray, List.set_cons_zero, List.set_cons_succ]
          refine wpAnyH_take (i := 20) (oi := { dst := some 56, op := Op.binOp BinOp.eql 29 (Operand.tmp 54) (Operand.tmp 55) 29, type := 4, pos := "law.go:63", after := #[{ on := 18, ground := Ground.data }, { on := 19, ground := Ground.data }, { on := 10, ground := Ground.guard }], guard := some (10, true) }) (v := ?_) rfl (by kernel_rfl) (by kernel_rfl) (by kernel_rfl) (fun _ _ _ h => h) (Or.inl ⟨by rfl, ?_⟩) (by assumption) ?_
          rotate_left
          · (intro wS hS; go_simp <;> with_reducible rfl)
          try simp only [Act.put, List.setIfInBounds_toArray, List.set_cons_zero, List.set_cons_succ]
          refine wpAnyH_ready (rs := [13]) (by kernel_rfl) (by simp) ?_
          refine AllReadyH.cons (o := { dst := some 49, op := Op.call { callee := Callee.value (Operand.func 13), args := #[Operand.tmp 47, Operand.tmp 48], argTypes := #[29, 24] }, type := 9, pos := "law.go:63", after := #[{ on := 11, ground := Ground.data }, { on := 12, ground := Ground.data }, { on := 10, ground := Ground.chain }, { on := 10, ground := Ground.guard }], guard := some (10, true) }) rfl (fun K hK => ?_) AllReadyH.nil
          go_simp
          refine (KA _).out.mono ?_
          rintro e w113 ⟨rfl, hb⟩
          replace hS : (fun W => Below (wc).heap.size (wc) W) w113 := below_then hS hb (Below.size hS)
          refine hK.out _ _ hS (fun _ => ?_)
          clear hK K hb
          try simp only [Act.put, List.setIfInBounds_toArray, List.set_cons_zero, List.set_cons_succ]
          refine wpAnyH_ready (rs := [16]) (by kernel_rfl) (by simp) ?_
          refine AllReadyH.cons (o := { dst := some 52, op := Op.call { callee := Callee.value (Operand.func 13), args := #[Operand.tmp 50, Operand.tmp 51], argTypes := #[29, 24] }, type := 9, pos := "law.go:63", after := #[{ on := 14, ground := Ground.data }, { on := 15, ground := Ground.data }, { on := 13, ground := Ground.chain }, { on := 10, ground := Ground.guard }], guard := some (10, true) }) rfl (fun K hK => ?_) AllReadyH.nil
          go_simp
          refine (KB _).out.mono ?_
          rintro e w116 ⟨rfl, hb⟩
          replace hS : (fun W => Below (wc).heap.size (wc) W) w116 := below_then hS hb (Below.size hS)
          refine hK.out _ _ hS (fun _ => ?_)
          clear hK K hb
          try simp only [Act.put, List.setIfInBounds_toArray, List.set_cons_zero, List.set_cons_succ]
          refine wpAnyH_take (i := 17) (oi := { dst := some 53, op := Op.binOp BinOp.eql 9 (Operand.tmp 49) (Operand.tmp 52) 9, type := 4, pos := "law.go:63", after := #[{ on := 13, ground := Ground.data }, { on := 16, ground := Ground.data }, { on := 10, ground := Ground.guard }], guard := some (10, true) }) (v := ?_) rfl (by kernel_rfl) (by kernel_rfl) (by kernel_rfl) (fun _ _ _ h => h) (Or.inl ⟨by rfl, ?_⟩) (by assumption) ?_
          rotate_left
          · (intro wS hS; go_simp <;> with_reducible rfl)
          try simp only [Act.put, List.setIfInBounds_toArray, List.set_cons_zero, List.set_cons_succ]
          refine wpAnyH_take (i := 21) (oi := { dst := some 57, op := Op.move (Operand.tmp 56), type := 4, pos := "law.go:63", after := #[{ on := 20, ground := Ground.data }, { on := 16, ground := Ground.chain }, { on := 10, ground := Ground.guard }], guard := some (10, true) }) (v := ?_) rfl (by kernel_rfl) (by kernel_rfl) (by kernel_rfl) (fun _ _ _ h => h) (Or.inl ⟨by rfl, ?_⟩) (by assumption) ?_
          rotate_left
          · (intro wS hS; go_simp <;> with_reducible rfl)
          try simp only [Act.put, List.setIfInBounds_toArray, List.set_cons_zero, List.set_cons_succ]
          refine wpAnyH_take (i := 22) (oi := { dst := some 58, op := Op.load 24 (Operand.tmp 5), type := 24, pos := "law.go:63", after := #[{ on := 21, ground := Ground.guard }], guard := some (21, true) }) (v := undef) rfl (by kernel_rfl) (by kernel_rfl) (by kernel_rfl) (fun _ _ _ h => h) (Or.inr ⟨by rfl, rfl⟩) (by assumption) ?_
          try simp only [Act.put, List.setIfInBounds_toArray, List.set_cons_zero, List.set_cons_succ]
          refine wpAnyH_take (i := 23) (oi := { dst := some 59, op := Op.load 24 (Operand.tmp 6), type := 24, pos := "law.go:63", after := #[{ on := 21, ground := Ground.guard }], guard := some (21, true) }) (v := undef) rfl (by kernel_rfl) (by kernel_rfl) (by kernel_rfl) (fun _ _ _ h => h) (Or.inr ⟨by rfl, rfl⟩) (by assumption) ?_
          try simp only [Act.put, List.setIfInBounds_toArray, List.set_cons_zero, List.set_cons_succ]
          refine wpAnyH_take (i := 24) (oi := { dst := some 60, op := Op.binOp BinOp.eql 24 (Operand.tmp 58) (Operand.tmp 59) 24, type := 4, pos := "law.go:63", after := #[{ on := 22, ground := Ground.data }, { on := 23, ground := Ground.data }, { on := 21, ground := Ground.guard }], guard := some (21, true) }) (v := undef) rfl (by kernel_rfl) (by kernel_rfl) (by kernel_rfl) (fun _ _ _ h => h) (Or.inr ⟨by rfl, rfl⟩) (by assumption) ?_
          try simp only [Act.put, List.setIfInBounds_toArray, List.set_cons_zero, List.set_cons_succ]
          refine wpAnyH_take (i := 25) (oi := { dst := some 61, op := Op.pick (Operand.tmp 57) (Operand.tmp 60) (Operand.const (Value.bool false)), type := 4, pos := "law.go:63", after := #[{ on := 21, ground := Ground.data }, { on := 24, ground := Ground.data }, { on := 10, ground := Ground.guard }], guard := some (10, true) }) (v := ?_) rfl (by kernel_rfl) (by kernel_rfl) (by kernel_rfl) (fun _ _ _ h => h) (Or.inl ⟨by rfl, ?_⟩) (by assumption) ?_
          rotate_left
          · (intro wS hS; go_simp <;> with_reducible rfl)
          try simp only [Act.put, List.setIfInBounds_toArray, List.set_cons_zero, List.set_cons_succ]
          refine wpAnyH_take (i := 26) (oi := { dst := some 62, op := Op.binOp BinOp.eql 4 (Operand.tmp 53) (Operand.tmp 61) 4, type := 4, pos := "law.go:63", after := #[{ on := 17, ground := Ground.data }, { on := 25, ground := Ground.data }, { on := 10, ground := Ground.guard }], guard := some (10, true) }) (v := ?_) rfl (by kernel_rfl) (by kernel_rfl) (by kernel_rfl) (fun _ _ _ h => h) (Or.inl ⟨by rfl, ?_⟩) (by assumption) ?_
          rotate_left
          · (intro wS hS; go_simp <;> with_reducible rfl)
          try simp only [Act.put, List.setIfInBounds_toArray, List.set_cons_zero, List.set_cons_succ]
          refine wpAnyH_take (i := 27) (oi := { dst := some 63, op := Op.pick (Operand.tmp 46) (Operand.tmp 62) (Operand.const (Value.bool false)), type := 4, pos := "law.go:63", after := #[{ on := 10, ground := Ground.data }, { on := 26, ground := Ground.data }], guard := none }) (v := ?_) rfl (by kernel_rfl) (by kernel_rfl) (by kernel_rfl) (fun _ _ _ h => h) (Or.inl ⟨by rfl, ?_⟩) (by assumption) ?_
          rotate_left
          · (intro wS hS; go_simp <;> with_reducible rfl)
          try simp only [Act.put, List.setIfInBounds_toArray, List.set_cons_zero, List.set_cons_succ]
          refine wpAnyH_take (i := 28) (oi := { dst := some 2, op := Op.assign (Operand.tmp 63), type := 4, pos := "law.go:63", after := #[{ on := 27, ground := Ground.data }, { on := 21, ground := Ground.chain }, { on := 0, ground := Ground.phase }, { on := 1, ground := Ground.phase }, { on := 2, ground := Ground.phase }, { on := 3, ground := Ground.phase }, { on := 4, ground := Ground.phase }, { on := 5, ground := Ground.phase }, { on := 6, ground := Ground.phase }, { on := 7, ground := Ground.phase }, { on := 8, ground := Ground.phase }, { on := 9, ground := Ground.phase }, { on := 10, ground := Ground.phase }, { on := 11, ground := Ground.phase }, { on := 12, ground := Ground.phase }, { on := 13, ground := Ground.phase }, { on := 14, ground := Ground.phase }, { on := 15, ground := Ground.phase }, { on := 16, ground := Ground.phase }, { on := 17, ground := Ground.phase }, { on := 18, ground := Ground.phase }, { on := 19, ground := Ground.phase }, { on := 20, ground := Ground.phase }, { on := 21, ground := Ground.phase }, { on := 22, ground := Ground.phase }, { on := 23, ground := Ground.phase }, { on := 24, ground := Ground.phase }, { on := 25, ground := Ground.phase }, { on := 26, ground := Ground.phase }, { on := 27, ground := Ground.phase }], guard := none }) (v := ?_) rfl (by kernel_rfl) (by kernel_rfl) (by kernel_rfl) (fun _ _ _ h => h) (Or.inl ⟨by rfl, ?_⟩) (by assumption) ?_
          rotate_left
          · (intro wS hS; go_simp <;> with_reducible rfl)
          try simp only [Act.put, List.setIfInBounds_toArray, List.set_cons_zero, List.set_cons_succ]
          refine wpAnyH_done (by kernel_rfl) ?_ _
          go_wp2_with fail
          go_ret
          exact ⟨ret_bool (by simp), hB.trans (below_of hS hB.size)⟩
      · rcases hC with d4 | ⟨rfl, d5⟩
        case' inl =>
          have n1 : ((s1 : Int) == t1) = false := by rw [beq_eq_false_iff_ne]; omega
          have n2 : ¬ ((s1 : Int) = t1) := by omega
          have n3 : decide ((s1 : Int) = t1) = false := by rw [decide_eq_false_iff_not]; omega
        case' inr =>
          have n1 : ((s2 : Int) == t2) = false := by rw [beq_eq_false_iff_ne]; omega
          have n2 : ¬ ((s2 : Int) = t2) := by omega
          have n3 : decide ((s2 : Int) = t2) = false := by rw [decide_eq_false_iff_not]; omega
        all_goals
          refine wp_region_held (S := fun W => Below (wc).heap.size (wc) W) (by kernel_rfl) ?_
          change wpAnyH _ _ _ _ _ _ _ _ (wc).drew
          have hS : (fun W => Below (wc).heap.size (wc) W) (wc).drew := (Below.refl _ _).drew
          refine wpAnyH_ready (rs := [0]) (by kernel_rfl) (by simp) ?_
          refine AllReadyH.cons (o := { dst := some 36, op := Op.call { callee := Callee.value (Operand.func 9), args := #[], argTypes := #[] }, type := 4, pos := "law.go:63", after := #[], guard := none }) rfl (fun K hK => ?_) AllReadyH.nil
          go_simp
          refine (awake08_any _).mono ?_
          rintro e w100 ⟨rfl, hb⟩
          replace hS : (fun W => Below (wc).heap.size (wc) W) w100 := below_then hS hb (Below.size hS)
          refine hK.out _ _ hS (fun _ => ?_)
          clear hK K hb
          try simp only [Act.put, List.setIfInBounds_toArray, List.set_cons_zero, List.set_cons_succ]
          refine wpAnyH_take (i := 1) (oi := { dst := some 37, op := Op.move (Operand.tmp 36), type := 4, pos := "law.go:63", after := #[{ on := 0, ground := Ground.data }, { on := 0, ground := Ground.chain }], guard := none }) (v := ?_) rfl (by kernel_rfl) (by kernel_rfl) (by kernel_rfl) (fun _ _ _ h => h) (Or.inl ⟨by rfl, ?_⟩) (by assumption) ?_
          rotate_left
          · (intro wS hS; go_simp <;> with_reducible rfl)
          try simp only [Act.put, List.setIfInBounds_toArray, List.set_cons_zero, List.set_cons_succ]
          refine wpAnyH_take (i := 2) (oi := { dst := some 38, op := Op.load 29 (Operand.tmp 3), type := 29, pos := "law.go:63", after := #[{ on := 1, ground := Ground.guard }], guard := some (1, true) }) (v := ?_) rfl (by kernel_rfl) (by kernel_rfl) (by kernel_rfl) (fun _ _ _ h => h) (Or.inl ⟨by rfl, ?_⟩) (by assumption) ?_
          rotate_left
          · (intro wS hS; have a0 := cell_below hS a0; have a1 := cell_below hS a1; have a2 := cell_below hS a2; have a3 := cell_below hS a3; have b0 := cell_below hS b0; have b1 := cell_below hS b1; have b2 := cell_below hS b2; have b3 := cell_below hS b3; have p0 := cell_below hS p0; have p1 := cell_below hS p1; have q0 := cell_below hS q0; have q1 := cell_below hS q1; go_simp <;> with_reducible rfl)
          try simp only [Act.put, List.setIfInBounds_toArray, List.set_cons_zero, List.set_cons_succ]
          refine wpAnyH_take (i := 3) (oi := { dst := some 39, op := Op.load 24 (Operand.tmp 5), type := 24, pos := "law.go:63", after := #[{ on := 1, ground := Ground.guard }], guard := some (1, true) }) (v := ?_) rfl (by kernel_rfl) (by kernel_rfl) (by kernel_rfl) (fun _ _ _ h => h) (Or.inl ⟨by rfl, ?_⟩) (by assumption) ?_
          rotate_left
          · (intro wS hS; have a0 := cell_below hS a0; have a1 := cell_below hS a1; have a2 := cell_below hS a2; have a3 := cell_below hS a3; have b0 := cell_below hS b0; have b1 := cell_below hS b1; have b2 := cell_below hS b2; have b3 := cell_below hS b3; have p0 := cell_below hS p0; have p1 := cell_below hS p1; have q0 := cell_below hS q0; have q1 := cell_below hS q1; go_simp <;> with_reducible rfl)
          try simp only [Act.put, List.setIfInBounds_toArray, List.set_cons_zero, List.set_cons_succ]
          refine wpAnyH_take (i := 5) (oi := { dst := some 41, op := Op.load 29 (Operand.tmp 3), type := 29, pos := "law.go:63", after := #[{ on := 1, ground := Ground.guard }], guard := some (1, true) }) (v := ?_) rfl (by kernel_rfl) (by kernel_rfl) (by kernel_rfl) (fun _ _ _ h => h) (Or.inl ⟨by rfl, ?_⟩) (by assumption) ?_
          rotate_left
          · (intro wS hS; have a0 := cell_below hS a0; have a1 := cell_below hS a1; have a2 := cell_below hS a2; have a3 := cell_below hS a3; have b0 := cell_below hS b0; have b1 := cell_below hS b1; have b2 := cell_below hS b2; have b3 := cell_below hS b3; have p0 := cell_below hS p0; have p1 := cell_below hS p1; have q0 := cell_below hS q0; have q1 := cell_below hS q1; go_simp <;> with_reducible rfl)
          try simp only [Act.put, List.setIfInBounds_toArray, List.set_cons_zero, List.set_cons_succ]
          refine wpAnyH_take (i := 6) (oi := { dst := some 42, op := Op.load 24 (Operand.tmp 5), type := 24, pos := "law.go:63", after := #[{ on := 1, ground := Ground.guard }], guard := some (1, true) }) (v := ?_) rfl (by kernel_rfl) (by kernel_rfl) (by kernel_rfl) (fun _ _ _ h => h) (Or.inl ⟨by rfl, ?_⟩) (by assumption) ?_
          rotate_left
          · (intro wS hS; have a0 := cell_below hS a0; have a1 := cell_below hS a1; have a2 := cell_below hS a2; have a3 := cell_below hS a3; have b0 := cell_below hS b0; have b1 := cell_below hS b1; have b2 := cell_below hS b2; have b3 := cell_below hS b3; have p0 := cell_below hS p0; have p1 := cell_below hS p1; have q0 := cell_below hS q0; have q1 := cell_below hS q1; go_simp <;> with_reducible rfl)
          try simp only [Act.put, List.setIfInBounds_toArray, List.set_cons_zero, List.set_cons_succ]
          refine wpAnyH_ready (rs := [4]) (by kernel_rfl) (by simp) ?_
          refine AllReadyH.cons (o := { dst := some 40, op := Op.call { callee := Callee.value (Operand.func 13), args := #[Operand.tmp 38, Operand.tmp 39], argTypes := #[29, 24] }, type := 9, pos := "law.go:63", after := #[{ on := 2, ground := Ground.data }, { on := 3, ground := Ground.data }, { on := 1, ground := Ground.chain }, { on := 1, ground := Ground.guard }], guard := some (1, true) }) rfl (fun K hK => ?_) AllReadyH.nil
          go_simp
          refine (KA _).out.mono ?_
          rintro e w104 ⟨rfl, hb⟩
          replace hS : (fun W => Below (wc).heap.size (wc) W) w104 := below_then hS hb (Below.size hS)
          refine hK.out _ _ hS (fun _ => ?_)
          clear hK K hb
          try simp only [Act.put, List.setIfInBounds_toArray, List.set_cons_zero, List.set_cons_succ]
          refine wpAnyH_ready (rs := [7]) (by kernel_rfl) (by simp) ?_
          refine AllReadyH.cons (o := { dst := some 43, op := Op.call { callee := Callee.value (Operand.func 14), args := #[Operand.tmp 41, Operand.tmp 42], argTypes := #[29, 24] }, type := 9, pos := "law.go:63", after := #[{ on := 5, ground := Ground.data }, { on := 6, ground := Ground.data }, { on := 4, ground := Ground.chain }, { on := 1, ground := Ground.guard }], guard := some (1, true) }) rfl (fun K hK => ?_) AllReadyH.nil
          go_simp
          refine (KR _).out.mono ?_
          rintro e w107 ⟨rfl, hb⟩
          replace hS : (fun W => Below (wc).heap.size (wc) W) w107 := below_then hS hb (Below.size hS)
          refine hK.out _ _ hS (fun _ => ?_)
          clear hK K hb
          try simp only [Act.put, List.setIfInBounds_toArray, List.set_cons_zero, List.set_cons_succ]
          refine wpAnyH_take (i := 8) (oi := { dst := some 44, op := Op.binOp BinOp.eql 9 (Operand.tmp 40) (Operand.tmp 43) 9, type := 4, pos := "law.go:63", after := #[{ on := 4, ground := Ground.data }, { on := 7, ground := Ground.data }, { on := 1, ground := Ground.guard }], guard := some (1, true) }) (v := ?_) rfl (by kernel_rfl) (by kernel_rfl) (by kernel_rfl) (fun _ _ _ h => h) (Or.inl ⟨by rfl, ?_⟩) (by assumption) ?_
          rotate_left
          · (intro wS hS; go_simp <;> with_reducible rfl)
          try simp only [Act.put, List.setIfInBounds_toArray, List.set_cons_zero, List.set_cons_succ]
          refine wpAnyH_take (i := 9) (oi := { dst := some 45, op := Op.pick (Operand.tmp 37) (Operand.tmp 44) (Operand.const (Value.bool false)), type := 4, pos := "law.go:63", after := #[{ on := 1, ground := Ground.data }, { on := 8, ground := Ground.data }], guard := none }) (v := ?_) rfl (by kernel_rfl) (by kernel_rfl) (by kernel_rfl) (fun _ _ _ h => h) (Or.inl ⟨by rfl, ?_⟩) (by assumption) ?_
          rotate_left
          · (intro wS hS; go_simp <;> with_reducible rfl)
          try simp only [Act.put, List.setIfInBounds_toArray, List.set_cons_zero, List.set_cons_succ]
          refine wpAnyH_take (i := 10) (oi := { dst := some 46, op := Op.move (Operand.tmp 45), type := 4, pos := "law.go:63", after := #[{ on := 9, ground := Ground.data }, { on := 7, ground := Ground.chain }], guard := none }) (v := ?_) rfl (by kernel_rfl) (by kernel_rfl) (by kernel_rfl) (fun _ _ _ h => h) (Or.inl ⟨by rfl, ?_⟩) (by assumption) ?_
          rotate_left
          · (intro wS hS; go_simp <;> with_reducible rfl)
          try simp only [Act.put, List.setIfInBounds_toArray, List.set_cons_zero, List.set_cons_succ]
          refine wpAnyH_take (i := 11) (oi := { dst := some 47, op := Op.load 29 (Operand.tmp 3), type := 29, pos := "law.go:63", after := #[{ on := 10, ground := Ground.guard }], guard := some (10, true) }) (v := ?_) rfl (by kernel_rfl) (by kernel_rfl) (by kernel_rfl) (fun _ _ _ h => h) (Or.inl ⟨by rfl, ?_⟩) (by assumption) ?_
          rotate_left
          · (intro wS hS; have a0 := cell_below hS a0; have a1 := cell_below hS a1; have a2 := cell_below hS a2; have a3 := cell_below hS a3; have b0 := cell_below hS b0; have b1 := cell_below hS b1; have b2 := cell_below hS b2; have b3 := cell_below hS b3; have p0 := cell_below hS p0; have p1 := cell_below hS p1; have q0 := cell_below hS q0; have q1 := cell_below hS q1; go_simp <;> with_reducible rfl)
          try simp only [Act.put, List.setIfInBounds_toArray, List.set_cons_zero, List.set_cons_succ]
          refine wpAnyH_take (i := 12) (oi := { dst := some 48, op := Op.load 24 (Operand.tmp 5), type := 24, pos := "law.go:63", after := #[{ on := 10, ground := Ground.guard }], guard := some (10, true) }) (v := ?_) rfl (by kernel_rfl) (by kernel_rfl) (by kernel_rfl) (fun _ _ _ h => h) (Or.inl ⟨by rfl, ?_⟩) (by assumption) ?_
          rotate_left
          · (intro wS hS; have a0 := cell_below hS a0; have a1 := cell_below hS a1; have a2 := cell_below hS a2; have a3 := cell_below hS a3; have b0 := cell_below hS b0; have b1 := cell_below hS b1; have b2 := cell_below hS b2; have b3 := cell_below hS b3; have p0 := cell_below hS p0; have p1 := cell_below hS p1; have q0 := cell_below hS q0; have q1 := cell_below hS q1; go_simp <;> with_reducible rfl)
          try simp only [Act.put, List.setIfInBounds_toArray, List.set_cons_zero, List.set_cons_succ]
          refine wpAnyH_take (i := 14) (oi := { dst := some 50, op := Op.load 29 (Operand.tmp 4), type := 29, pos := "law.go:63", after := #[{ on := 10, ground := Ground.guard }], guard := some (10, true) }) (v := ?_) rfl (by kernel_rfl) (by kernel_rfl) (by kernel_rfl) (fun _ _ _ h => h) (Or.inl ⟨by rfl, ?_⟩) (by assumption) ?_
          rotate_left
          · (intro wS hS; have a0 := cell_below hS a0; have a1 := cell_below hS a1; have a2 := cell_below hS a2; have a3 := cell_below hS a3; have b0 := cell_below hS b0; have b1 := cell_below hS b1; have b2 := cell_below hS b2; have b3 := cell_below hS b3; have p0 := cell_below hS p0; have p1 := cell_below hS p1; have q0 := cell_below hS q0; have q1 := cell_below hS q1; go_simp <;> with_reducible rfl)
          try simp only [Act.put, List.setIfInBounds_toArray, List.set_cons_zero, List.set_cons_succ]
          refine wpAnyH_take (i := 15) (oi := { dst := some 51, op := Op.load 24 (Operand.tmp 6), type := 24, pos := "law.go:63", after := #[{ on := 10, ground := Ground.guard }], guard := some (10, true) }) (v := ?_) rfl (by kernel_rfl) (by kernel_rfl) (by kernel_rfl) (fun _ _ _ h => h) (Or.inl ⟨by rfl, ?_⟩) (by assumption) ?_
          rotate_left
          · (intro wS hS; have a0 := cell_below hS a0; have a1 := cell_below hS a1; have a2 := cell_below hS a2; have a3 := cell_below hS a3; have b0 := cell_below hS b0; have b1 := cell_below hS b1; have b2 := cell_below hS b2; have b3 := cell_below hS b3; have p0 := cell_below hS p0; have p1 := cell_below hS p1; have q0 := cell_below hS q0; have q1 := cell_below hS q1; go_simp <;> with_reducible rfl)
          try simp only [Act.put, List.setIfInBounds_toArray, List.set_cons_zero, List.set_cons_succ]
          refine wpAnyH_take (i := 18) (oi := { dst := some 54, op := Op.load 29 (Operand.tmp 3), type := 29, pos := "law.go:63", after := #[{ on := 10, ground := Ground.guard }], guard := some (10, true) }) (v := ?_) rfl (by kernel_rfl) (by kernel_rfl) (by kernel_rfl) (fun _ _ _ h => h) (Or.inl ⟨by rfl, ?_⟩) (by assumption) ?_
          rotate_left
          · (intro wS hS; have a0 := cell_below hS a0; have a1 := cell_below hS a1; have a2 := cell_below hS a2; have a3 := cell_below hS a3; have b0 := cell_below hS b0; have b1 := cell_below hS b1; have b2 := cell_below hS b2; have b3 := cell_below hS b3; have p0 := cell_below hS p0; have p1 := cell_below hS p1; have q0 := cell_below hS q0; have q1 := cell_below hS q1; go_simp <;> with_reducible rfl)
          try simp only [Act.put, List.setIfInBounds_toArray, List.set_cons_zero, List.set_cons_succ]
          refine wpAnyH_take (i := 19) (oi := { dst := some 55, op := Op.load 29 (Operand.tmp 4), type := 29, pos := "law.go:63", after := #[{ on := 10, ground := Ground.guard }], guard := some (10, true) }) (v := ?_) rfl (by kernel_rfl) (by kernel_rfl) (by kernel_rfl) (fun _ _ _ h => h) (Or.inl ⟨by rfl, ?_⟩) (by assumption) ?_
          rotate_left
          · (intro wS hS; have a0 := cell_below hS a0; have a1 := cell_below hS a1; have a2 := cell_below hS a2; have a3 := cell_below hS a3; have b0 := cell_below hS b0; have b1 := cell_below hS b1; have b2 := cell_below hS b2; have b3 := cell_below hS b3; have p0 := cell_below hS p0; have p1 := cell_below hS p1; have q0 := cell_below hS q0; have q1 := cell_below hS q1; go_simp <;> with_reducible rfl)
          try simp only [Act.put, List.setIfInBounds_toArray, List.set_cons_zero, List.set_cons_succ]
          refine wpAnyH_take (i := 20) (oi := { dst := some 56, op := Op.binOp BinOp.eql 29 (Operand.tmp 54) (Operand.tmp 55) 29, type := 4, pos := "law.go:63", after := #[{ on := 18, ground := Ground.data }, { on := 19, ground := Ground.data }, { on := 10, ground := Ground.guard }], guard := some (10, true) }) (v := ?_) rfl (by kernel_rfl) (by kernel_rfl) (by kernel_rfl) (fun _ _ _ h => h) (Or.inl ⟨by rfl, ?_⟩) (by assumption) ?_
          rotate_left
          · (intro wS hS; go_simp <;> with_reducible rfl)
          try simp only [Act.put, List.setIfInBounds_toArray, List.set_cons_zero, List.set_cons_succ]
          refine wpAnyH_ready (rs := [13]) (by kernel_rfl) (by simp) ?_
          refine AllReadyH.cons (o := { dst := some 49, op := Op.call { callee := Callee.value (Operand.func 13), args := #[Operand.tmp 47, Operand.tmp 48], argTypes := #[29, 24] }, type := 9, pos := "law.go:63", after := #[{ on := 11, ground := Ground.data }, { on := 12, ground := Ground.data }, { on := 10, ground := Ground.chain }, { on := 10, ground := Ground.guard }], guard := some (10, true) }) rfl (fun K hK => ?_) AllReadyH.nil
          go_simp
          refine (KA _).out.mono ?_
          rintro e w113 ⟨rfl, hb⟩
          replace hS : (fun W => Below (wc).heap.size (wc) W) w113 := below_then hS hb (Below.size hS)
          refine hK.out _ _ hS (fun _ => ?_)
          clear hK K hb
          try simp only [Act.put, List.setIfInBounds_toArray, List.set_cons_zero, List.set_cons_succ]
          refine wpAnyH_ready (rs := [16]) (by kernel_rfl) (by simp) ?_
          refine AllReadyH.cons (o := { dst := some 52, op := Op.call { callee := Callee.value (Operand.func 13), args := #[Operand.tmp 50, Operand.tmp 51], argTypes := #[29, 24] }, type := 9, pos := "law.go:63", after := #[{ on := 14, ground := Ground.data }, { on := 15, ground := Ground.data }, { on := 13, ground := Ground.chain }, { on := 10, ground := Ground.guard }], guard := some (10, true) }) rfl (fun K hK => ?_) AllReadyH.nil
          go_simp
          refine (KB _).out.mono ?_
          rintro e w116 ⟨rfl, hb⟩
          replace hS : (fun W => Below (wc).heap.size (wc) W) w116 := below_then hS hb (Below.size hS)
          refine hK.out _ _ hS (fun _ => ?_)
          clear hK K hb
          try simp only [Act.put, List.setIfInBounds_toArray, List.set_cons_zero, List.set_cons_succ]
          refine wpAnyH_take (i := 17) (oi := { dst := some 53, op := Op.binOp BinOp.eql 9 (Operand.tmp 49) (Operand.tmp 52) 9, type := 4, pos := "law.go:63", after := #[{ on := 13, ground := Ground.data }, { on := 16, ground := Ground.data }, { on := 10, ground := Ground.guard }], guard := some (10, true) }) (v := ?_) rfl (by kernel_rfl) (by kernel_rfl) (by kernel_rfl) (fun _ _ _ h => h) (Or.inl ⟨by rfl, ?_⟩) (by assumption) ?_
          rotate_left
          · (intro wS hS; go_simp <;> with_reducible rfl)
          try simp only [Act.put, List.setIfInBounds_toArray, List.set_cons_zero, List.set_cons_succ]
          refine wpAnyH_take (i := 21) (oi := { dst := some 57, op := Op.move (Operand.tmp 56), type := 4, pos := "law.go:63", after := #[{ on := 20, ground := Ground.data }, { on := 16, ground := Ground.chain }, { on := 10, ground := Ground.guard }], guard := some (10, true) }) (v := ?_) rfl (by kernel_rfl) (by kernel_rfl) (by kernel_rfl) (fun _ _ _ h => h) (Or.inl ⟨by rfl, ?_⟩) (by assumption) ?_
          rotate_left
          · (intro wS hS; go_simp <;> with_reducible rfl)
          try simp only [Act.put, List.setIfInBounds_toArray, List.set_cons_zero, List.set_cons_succ]
          refine wpAnyH_take (i := 22) (oi := { dst := some 58, op := Op.load 24 (Operand.tmp 5), type := 24, pos := "law.go:63", after := #[{ on := 21, ground := Ground.guard }], guard := some (21, true) }) (v := ?_) rfl (by kernel_rfl) (by kernel_rfl) (by kernel_rfl) (fun _ _ _ h => h) (Or.inl ⟨by rfl, ?_⟩) (by assumption) ?_
          rotate_left
          · (intro wS hS; have a0 := cell_below hS a0; have a1 := cell_below hS a1; have a2 := cell_below hS a2; have a3 := cell_below hS a3; have b0 := cell_below hS b0; have b1 := cell_below hS b1; have b2 := cell_below hS b2; have b3 := cell_below hS b3; have p0 := cell_below hS p0; have p1 := cell_below hS p1; have q0 := cell_below hS q0; have q1 := cell_below hS q1; go_simp <;> with_reducible rfl)
          try simp only [Act.put, List.setIfInBounds_toArray, List.set_cons_zero, List.set_cons_succ]
          refine wpAnyH_take (i := 23) (oi := { dst := some 59, op := Op.load 24 (Operand.tmp 6), type := 24, pos := "law.go:63", after := #[{ on := 21, ground := Ground.guard }], guard := some (21, true) }) (v := ?_) rfl (by kernel_rfl) (by kernel_rfl) (by kernel_rfl) (fun _ _ _ h => h) (Or.inl ⟨by rfl, ?_⟩) (by assumption) ?_
          rotate_left
          · (intro wS hS; have a0 := cell_below hS a0; have a1 := cell_below hS a1; have a2 := cell_below hS a2; have a3 := cell_below hS a3; have b0 := cell_below hS b0; have b1 := cell_below hS b1; have b2 := cell_below hS b2; have b3 := cell_below hS b3; have p0 := cell_below hS p0; have p1 := cell_below hS p1; have q0 := cell_below hS q0; have q1 := cell_below hS q1; go_simp <;> with_reducible rfl)
          try simp only [Act.put, List.setIfInBounds_toArray, List.set_cons_zero, List.set_cons_succ]
          refine wpAnyH_take (i := 24) (oi := { dst := some 60, op := Op.binOp BinOp.eql 24 (Operand.tmp 58) (Operand.tmp 59) 24, type := 4, pos := "law.go:63", after := #[{ on := 22, ground := Ground.data }, { on := 23, ground := Ground.data }, { on := 21, ground := Ground.guard }], guard := some (21, true) }) (v := ?_) rfl (by kernel_rfl) (by kernel_rfl) (by kernel_rfl) (fun _ _ _ h => h) (Or.inl ⟨by rfl, ?_⟩) (by assumption) ?_
          rotate_left
          · (intro wS hS; go_simp <;> with_reducible rfl)
          try simp only [Act.put, List.setIfInBounds_toArray, List.set_cons_zero, List.set_cons_succ]
          refine wpAnyH_take (i := 25) (oi := { dst := some 61, op := Op.pick (Operand.tmp 57) (Operand.tmp 60) (Operand.const (Value.bool false)), type := 4, pos := "law.go:63", after := #[{ on := 21, ground := Ground.data }, { on := 24, ground := Ground.data }, { on := 10, ground := Ground.guard }], guard := some (10, true) }) (v := ?_) rfl (by kernel_rfl) (by kernel_rfl) (by kernel_rfl) (fun _ _ _ h => h) (Or.inl ⟨by rfl, ?_⟩) (by assumption) ?_
          rotate_left
          · (intro wS hS; go_simp <;> with_reducible rfl)
          try simp only [Act.put, List.setIfInBounds_toArray, List.set_cons_zero, List.set_cons_succ]
          refine wpAnyH_take (i := 26) (oi := { dst := some 62, op := Op.binOp BinOp.eql 4 (Operand.tmp 53) (Operand.tmp 61) 4, type := 4, pos := "law.go:63", after := #[{ on := 17, ground := Ground.data }, { on := 25, ground := Ground.data }, { on := 10, ground := Ground.guard }], guard := some (10, true) }) (v := ?_) rfl (by kernel_rfl) (by kernel_rfl) (by kernel_rfl) (fun _ _ _ h => h) (Or.inl ⟨by rfl, ?_⟩) (by assumption) ?_
          rotate_left
          · (intro wS hS; go_simp <;> with_reducible rfl)
          try simp only [Act.put, List.setIfInBounds_toArray, List.set_cons_zero, List.set_cons_succ]
          refine wpAnyH_take (i := 27) (oi := { dst := some 63, op := Op.pick (Operand.tmp 46) (Operand.tmp 62) (Operand.const (Value.bool false)), type := 4, pos := "law.go:63", after := #[{ on := 10, ground := Ground.data }, { on := 26, ground := Ground.data }], guard := none }) (v := ?_) rfl (by kernel_rfl) (by kernel_rfl) (by kernel_rfl) (fun _ _ _ h => h) (Or.inl ⟨by rfl, ?_⟩) (by assumption) ?_
          rotate_left
          · (intro wS hS; go_simp <;> with_reducible rfl)
          try simp only [Act.put, List.setIfInBounds_toArray, List.set_cons_zero, List.set_cons_succ]
          refine wpAnyH_take (i := 28) (oi := { dst := some 2, op := Op.assign (Operand.tmp 63), type := 4, pos := "law.go:63", after := #[{ on := 27, ground := Ground.data }, { on := 21, ground := Ground.chain }, { on := 0, ground := Ground.phase }, { on := 1, ground := Ground.phase }, { on := 2, ground := Ground.phase }, { on := 3, ground := Ground.phase }, { on := 4, ground := Ground.phase }, { on := 5, ground := Ground.phase }, { on := 6, ground := Ground.phase }, { on := 7, ground := Ground.phase }, { on := 8, ground := Ground.phase }, { on := 9, ground := Ground.phase }, { on := 10, ground := Ground.phase }, { on := 11, ground := Ground.phase }, { on := 12, ground := Ground.phase }, { on := 13, ground := Ground.phase }, { on := 14, ground := Ground.phase }, { on := 15, ground := Ground.phase }, { on := 16, ground := Ground.phase }, { on := 17, ground := Ground.phase }, { on := 18, ground := Ground.phase }, { on := 19, ground := Ground.phase }, { on := 20, ground := Ground.phase }, { on := 21, ground := Ground.phase }, { on := 22, ground := Ground.phase }, { on := 23, ground := Ground.phase }, { on := 24, ground := Ground.phase }, { on := 25, ground := Ground.phase }, { on := 26, ground := Ground.phase }, { on := 27, ground := Ground.phase }], guard := none }) (v := ?_) rfl (by kernel_rfl) (by kernel_rfl) (by kernel_rfl) (fun _ _ _ h => h) (Or.inl ⟨by rfl, ?_⟩) (by assumption) ?_
          rotate_left
          · (intro wS hS; go_simp <;> with_reducible rfl)
          try simp only [Act.put, List.setIfInBounds_toArray, List.set_cons_zero, List.set_cons_succ]
          refine wpAnyH_done (by kernel_rfl) ?_ _
          go_wp2_with fail
          go_ret
          exact ⟨ret_bool (by simp), hB.trans (below_of hS hB.size)⟩
end Go.Proofs.Ytieigjlbjiielaa
