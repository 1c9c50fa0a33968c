/- Contract of stamp.Of over what stands for any value. No condition. -/
import Derived.Test.YtieigjlbjiielaaDoorVal4S
namespace Go.Proofs.YtieigjlbjiielaaDoor
open Go.RowKit

set_option maxRecDepth 100000 in
theorem sof1_gen (i n g4 g6 : Nat) (A : Option Addr) (c : Nat) (xs : List Value) (z : Value) (b r : Bool) (w : World) (hi : i < 2) (hc : w.cell? ⟨g4, 0, none⟩ = some (.slice A 2 c)) (hx : Rd w A 2 c 1 xs) (hv : xs[i]? = some z) (hI : IsI z)
    (KU : ∀ W, Hid (Calls Tryd.prog 28 #[z] W fun e w' => e = .returned (.tuple #[.int .u64 n, .bool b]) ∧ W = w')) (hh : w.heap[g6]? = some (.cells #[.bool r] 4 (0, 0))) :
    Calls Tryd.prog 27 #[.int .i64 i, .pointer (some ⟨g4, 0, none⟩), .pointer (some ⟨g6, 0, none⟩)] w fun e w' => e = .returned (.int .u64 n) ∧ w'.heap[g6]? = some (.cells #[.bool (r && b)] 4 (0, 0)) ∧ w.grownBy w' (some g6) := by
  obtain ⟨ad, rfl⟩ := hx.some_of_pos (by omega)
  have hcl := hx.cell ad rfl i _ hv
  have hb6 : w.cell? ⟨g6, 0, none⟩ = some (.bool r) := cell_heap hh
  have hf := frozen_heap (o := 0) hh
  have hi2 : (i : Int) < 2 := by omega
  clear hx hv
  rcases hI with rfl | ⟨t, v, rfl⟩ <;> cases r <;> cases b <;>
  · go_enter Tryd.func27, Tryd.ntmps27
    go_wp2_with (first
      | (go_at_call 28; refine (KU _).out.mono ?_; rintro e w2 ⟨rfl, rfl⟩))
    go_ret
    exact ⟨rfl, set_heap hh _, gb_set _ _ _ _⟩

/-- What stamp.Of answers of a list of two. -/
def sofR (r : Bool) (n1 n2 : Nat) : Value := if r then .tuple #[stp n1 n2, .int .i64 0] else .tuple #[stp 0 0, .int .i64 18]
/-- The result's block: two zeros. -/
theorem st_fin {w W : World} {a b : Int} (hB : Below w.heap.size w W) {x y : Value} (hh : W.heap[w.heap.size]? = some (.cells #[x, y] 24 (0, 0))) :
    Below w.heap.size w ((W.setCell ⟨w.heap.size, 0, none⟩ (.int .u64 a)).setCell ⟨w.heap.size, 1, none⟩ (.int .u64 b)) ∧
    ((W.setCell ⟨w.heap.size, 0, none⟩ (.int .u64 a)).setCell ⟨w.heap.size, 1, none⟩ (.int .u64 b)).cell? ⟨w.heap.size, 0, none⟩ = some (.int .u64 a) ∧
    ((W.setCell ⟨w.heap.size, 0, none⟩ (.int .u64 a)).setCell ⟨w.heap.size, 1, none⟩ (.int .u64 b)).cell? ⟨w.heap.size, 1, none⟩ = some (.int .u64 b) := by
  have h9 := set_heap (o := 1) (set_heap (o := 0) hh (.int .u64 a)) (.int .u64 b)
  exact ⟨below_gbw ((gb_set _ _ _ _).trans (gb_set _ _ _ _)) hB (Nat.le_refl _), cell_heap (o := 0) h9, cell_heap (o := 1) h9⟩

set_option maxRecDepth 100000 in
theorem sof_no (u : Value) (w : World) (h : NoT u 36) : Calls Tryd.prog 8 #[u] w fun e w' => e = .returned (.tuple #[stp 0 0, .int .i64 18]) ∧ Below w.heap.size w w' := by
  obtain ⟨hB, hca⟩ := one_cells w #[.int .u64 0, .int .u64 0] 24
  have hh2 := alloc_new w (.cells #[.int .u64 0, .int .u64 0] 24 (0, 0))
  have KL : ∀ W, Hid (Calls Tryd.prog 26 #[u] W fun e w' => e = .returned (.tuple #[.slice none 0 0, .bool false]) ∧ W = w') := fun W => Lib.hid (list_no u W h)
  clear hca h
  go_enter Tryd.func8, Tryd.ntmps8
  go_upto_region 1 with fail
  generalize w.alloc (.cells #[.int .u64 0, .int .u64 0] 24) = w0 at *
  go_wp2_with fail
  refine (KL _).out.mono ?_
  rintro e w1 ⟨rfl, rfl⟩
  obtain ⟨hb, -⟩ := one_cells w0 #[.slice none 0 0] 36
  replace hh2 := heap_below hb hh2
  replace hB := below_trans hB hb
  go_upto_region 2 with fail
  generalize w0.alloc (.cells #[.slice none 0 0] 36) = w2 at *
  clear hb
  have z0 : _ = some (Value.int .u64 0) := cell_heap (o := 0) hh2
  have z1 : _ = some (Value.int .u64 0) := cell_heap (o := 1) hh2
  have zf0 := frozen_heap (o := 0) hh2
  have zf1 := frozen_heap (o := 1) hh2
  go_wp2_with fail
  obtain ⟨hB9, r0, r1⟩ := st_fin (a := 0) (b := 0) hB hh2
  refine bodyPost_ret (v := .tuple #[stp 0 0, .int .i64 18]) ?_ rfl ⟨rfl, hB9⟩
  simp [results, Tryd.results8, go_sem, r0, r1]

set_option maxRecDepth 100000 in
theorem sof_len (A : Option Addr) (n c : Nat) (xs : List Value) (w : World) (hx : Rd w A n c 1 xs) (h1 : ∀ u ∈ xs, u.oneCell' = true) (hn : n * 16 ≤ 140737488355328) (h2 : n ≠ 2) : Calls Tryd.prog 8 #[.iface 36 (.slice A n c)] w fun e w' => e = .returned (.tuple #[stp 0 0, .int .i64 18]) ∧ Below w.heap.size w w' := by
  obtain ⟨hB, hca⟩ := one_cells w #[.int .u64 0, .int .u64 0] 24
  have hh2 := alloc_new w (.cells #[.int .u64 0, .int .u64 0] 24 (0, 0))
  replace hx := hx.below hB
  have h2' : ((n : Int) == 2) = false := by rw [beq_eq_false_iff_ne]; omega
  have h2n : ((n : Int) != 2) = true := by rw [bne, h2']; rfl
  clear hca h2
  go_enter Tryd.func8, Tryd.ntmps8
  go_upto_region 1 with fail
  generalize w.alloc (.cells #[.int .u64 0, .int .u64 0] 24) = w0 at *
  go_wp2_with fail
  refine (list_any A n c _ _ hx h1 hn).mono ?_
  rintro e w1 ⟨v, rfl, ho, hb⟩
  obtain ⟨A2, c2, rfl, hr, hbl⟩ := Rd.of_own ho
  replace hh2 := heap_below hb hh2
  replace hB := below_trans hB hb
  clear ho hb hx h1 hr hbl hn
  obtain ⟨hb, hca⟩ := one_cells w1 #[.slice A2 n c2] 36
  have q0 := hca 0 (.slice A2 n c2) rfl
  replace hh2 := heap_below hb hh2
  replace hB := below_trans hB hb
  go_upto_region 2 with fail
  generalize w1.alloc (.cells #[.slice A2 n c2] 36) = w2 at *
  clear hb hca
  have z0 : _ = some (Value.int .u64 0) := cell_heap (o := 0) hh2
  have z1 : _ = some (Value.int .u64 0) := cell_heap (o := 1) hh2
  have zf0 := frozen_heap (o := 0) hh2
  have zf1 := frozen_heap (o := 1) hh2
  go_wp2_with fail
  obtain ⟨hB9, r0, r1⟩ := st_fin (a := 0) (b := 0) hB hh2
  refine bodyPost_ret (v := .tuple #[stp 0 0, .int .i64 18]) ?_ rfl ⟨rfl, hB9⟩
  simp [results, Tryd.results8, go_sem, r0, r1]

set_option maxRecDepth 100000 in
set_option maxHeartbeats 2000000 in
theorem sof_pair (x y : Value) (n1 n2 : Nat) (b1 b2 : Bool) (A : Option Addr) (c : Nat) (w : World) (hx : Rd w A 2 c 1 [x, y]) (hu : IsI x) (hv : IsI y)
    (K1 : ∀ W, Hid (Calls Tryd.prog 28 #[x] W fun e w' => e = .returned (.tuple #[.int .u64 n1, .bool b1]) ∧ W = w'))
    (K2 : ∀ W, Hid (Calls Tryd.prog 28 #[y] W fun e w' => e = .returned (.tuple #[.int .u64 n2, .bool b2]) ∧ W = w')) :
    Calls Tryd.prog 8 #[.iface 36 (.slice A 2 c)] w fun e w' => e = .returned (sofR (b1 && b2) n1 n2) ∧ Below w.heap.size w w' := by
  obtain ⟨hB, hca⟩ := one_cells w #[.int .u64 0, .int .u64 0] 24
  have hx1 := hx.below hB
  have hh2 := alloc_new w (.cells #[.int .u64 0, .int .u64 0] 24 (0, 0))
  have h1 : ∀ u ∈ [x, y], u.oneCell' = true := by
    intro u hm
    simp only [List.mem_cons, List.not_mem_nil, or_false] at hm
    rcases hm with rfl | rfl
    · exact hu.one
    · exact hv.one
  clear hca hx
  go_enter Tryd.func8, Tryd.ntmps8
  go_upto_region 1 with fail
  generalize w.alloc (.cells #[.int .u64 0, .int .u64 0] 24) = w0 at *
  go_wp2_with fail
  refine (list_any A 2 c _ _ hx1 h1 (by omega)).mono ?_
  rintro e w1 ⟨v, rfl, ho, hb⟩
  obtain ⟨A2, c2, rfl, hr, hbl⟩ := Rd.of_own ho
  have hB1 := below_trans hB hb
  have hh3 := heap_below hb hh2
  clear ho hb hh2 hB hx1 h1
  obtain ⟨hb, hca, hcb⟩ := two_cells w1 #[.slice A2 2 c2] #[.bool true] 36 4
  have k0 := hca 0 (.slice A2 2 c2) rfl
  have hk : ((w1.alloc (.cells #[.slice A2 2 c2] 36)).alloc (.cells #[.bool true] 4)).heap[w1.heap.size + 1]? = some (.cells #[.bool true] 4 (0, 0)) := by
    have := alloc_new (w1.alloc (.cells #[.slice A2 2 c2] 36)) (.cells #[.bool true] 4 (0, 0))
    rwa [alloc_size] at this
  have hr2 := hr.below hb
  have hh4 := heap_below hb hh3
  have hB2 := below_trans hB1 hb
  have hA : ∀ ad, A2 = some ad → some ad.block ≠ some (w1.heap.size + 1) := by
    intro ad e h
    have := hr.blk ad e (by omega)
    simp at h; omega
  have hlt := heap_lt hh3
  clear hb hca hcb hr hh3 hB1 hbl
  go_wp2_with fail
  refine (sof1_gen 0 n1 _ _ A2 c2 _ x b1 true _ (by omega) k0 hr2 rfl hu K1 hk).mono ?_
  rintro e w2 ⟨rfl, hk2, hg⟩
  have k1 := hg.cell k0 (by simp)
  have hr3 := hr2.kept hg hA
  have hh5 := gb_heap hg hh4 (by simp; omega)
  have hB3 := below_gbw hg hB2 (by omega)
  rw [Bool.true_and] at hk2
  clear hg hk k0 hr2 hh4 hB2 K1
  go_wp2_with fail
  refine (sof1_gen 1 n2 _ _ A2 c2 _ y b2 b1 _ (by omega) k1 hr3 rfl hv K2 hk2).mono ?_
  rintro e w3 ⟨rfl, hk3, hg⟩
  have hh6 := gb_heap hg hh5 (by simp; omega)
  have hB4 := below_gbw hg hB3 (by omega)
  clear hg hk2 k1 hr3 hh5 hB3 K2
  obtain ⟨hb, hca⟩ := one_cells w3 #[.int .u64 n1, .int .u64 n2] 24
  have q0 := hca 0 (.int .u64 n1) rfl
  have q1 := hca 1 (.int .u64 n2) rfl
  replace hk3 := heap_below hb hk3
  have hh7 := heap_below hb hh6
  have hB5 := below_trans hB4 hb
  clear hca
  go_upto_region 7 with fail
  generalize w3.alloc (.cells #[.int .u64 n1, .int .u64 n2] 24) = w4 at *
  clear hb hh6 hB4
  have z0 : _ = some (Value.int .u64 0) := cell_heap (o := 0) hh7
  have z1 : _ = some (Value.int .u64 0) := cell_heap (o := 1) hh7
  have zf0 := frozen_heap (o := 0) hh7
  have zf1 := frozen_heap (o := 1) hh7
  cases hbb : (b1 && b2) with
  | true =>
    rw [hbb] at hk3
    have k4 : w4.cell? ⟨w1.heap.size + 1, 0, none⟩ = some (.bool true) := cell_heap hk3
    have HBB := Lib.hid hbb
    clear hbb
    go_wp2_with fail
    obtain ⟨hB9, r0, r1⟩ := st_fin (a := n1) (b := n2) hB5 hh7
    refine bodyPost_ret (v := .tuple #[stp n1 n2, .int .i64 0]) ?_ rfl ⟨by rw [HBB.out]; rfl, hB9⟩
    simp [results, Tryd.results8, go_sem, r0, r1]
  | false =>
    rw [hbb] at hk3
    have k4 : w4.cell? ⟨w1.heap.size + 1, 0, none⟩ = some (.bool false) := cell_heap hk3
    have HBB := Lib.hid hbb
    clear hbb
    go_wp2_with fail
    obtain ⟨hB9, r0, r1⟩ := st_fin (a := 0) (b := 0) hB5 hh7
    refine bodyPost_ret (v := .tuple #[stp 0 0, .int .i64 18]) ?_ rfl ⟨by rw [HBB.out]; rfl, hB9⟩
    simp [results, Tryd.results8, go_sem, r0, r1]
end Go.Proofs.YtieigjlbjiielaaDoor
