/- Contracts of layer 8 (stamp): values; what must come at any rate. -/
import Derived.Test.YtieigjlbjiielaaDoorStamp2D
namespace Go.Proofs.YtieigjlbjiielaaDoor
open Go.RowKit

theorem run_ta {P : Program} {t : TypeId} {d : TypeDesc} (hu : P.underlying t = some d) (hd : (match d with | .interface _ => true | _ => false) = false) (v : Value) (xT : TypeId) (w : World) :
    (Instr.typeAssert (.iface t v) xT t true).run P w = .ok (.tuple #[v, .bool true]) w := by
  cases d <;> simp_all [Instr.typeAssert, run_underlying hu]

theorem uint_any (n : Nat) (w : World) : Calls Tryd.prog 28 #[.iface 22 (.int .u64 n)] w fun e w' => e = .returned (.tuple #[.int .u64 n, .bool true]) ∧ w = w' := by
  have kt := fun x w => run_ta (P := Tryd.prog) Tryd.underlying22 rfl (.int .u64 n) x w
  go_enter Tryd.func28, Tryd.ntmps28
  go_wp2
  go_ret2
  exact ⟨rfl, rfl⟩

theorem info_any : (Tryd.prog.info? 20).map (fun i => (i.zero, i.size, i.bytes)) = some (some .nilIface, 1, 16) := by kernel_rfl

set_option maxRecDepth 100000 in
theorem list_any2 (A : Option Addr) (c : Nat) (x y : Value) (w : World) (hx : Rd w A 2 c 1 [x, y]) (h1 : ∀ u ∈ [x, y], u.oneCell' = true) :
    Calls Tryd.prog 26 #[.iface 36 (.slice A 2 c)] w fun e w' => ∃ v, e = .returned (.tuple #[v, .bool true]) ∧ w'.ownsRow w.heap.size 20 1 v 2 [x, y] ∧ Below w.heap.size w w' := by
  have hB := Below.refl w.heap.size w
  have own0 := World.ownsRow_nil w w.heap.size 20 1
  have kt := fun x w => run_ta (P := Tryd.prog) Tryd.underlying36 rfl (.slice A 2 c) x w
  go_enter Tryd.func26, Tryd.ntmps26
  go_wp2_with (first
    | (at_builtin; refine wpl_append rfl (.const (.slice none 0 0)) (.tmp 11) 36 rfl w.heap.size 20 _ 1 16 Tryd.underlying36 info_any rfl (by decide) _ 0 [] rfl own0 A 2 c _ rfl hx h1 (by unfold maxLen; omega) (by omega) (Nat.le_refl _) ?_; intro v1 w1 ho1 hg1; have hB1 := below_own hB own0 hg1; clear hg1))
  go_ret2
  exact ⟨_, rfl, ho1, hB1⟩

set_option maxRecDepth 100000 in
theorem svalue_any (a b : Nat) (w : World) :
    Calls Tryd.prog 7 #[stp a b] w fun e w' => ∃ A, e = .returned (.iface 36 (.slice A 2 2)) ∧ Rd w' A 2 2 1 [.iface 22 (.int .u64 a), .iface 22 (.int .u64 b)] ∧ Below w.heap.size w w' := by
  obtain ⟨hB, hca⟩ := one_cells w #[.int .u64 (a : Int), .int .u64 (b : Int)] 24
  have c0 := hca 0 (.int .u64 (a : Int)) rfl
  have c1 := hca 1 (.int .u64 (b : Int)) rfl
  clear hca
  go_enter Tryd.func7, Tryd.ntmps7
  go_wp2
  go_ret
  have hr := cells_rd' (w := w.alloc (.cells #[.int .u64 (a : Int), .int .u64 (b : Int)] 24)) (e := 20) (cs := #[.iface 22 (.int .u64 a), .iface 22 (.int .u64 b)]) rfl (show 2 ≤ maxLen by decide)
  rw [alloc_size] at hr
  exact ⟨_, rfl, hr, hB.alloc hB.size _⟩

set_option maxRecDepth 100000 in
theorem sof1_any (i n g4 g6 : Nat) (A : Option Addr) (c : Nat) (xs : List Value) (w : World) (hi : i < 2) (hc : w.cell? ⟨g4, 0, none⟩ = some (.slice A 2 c)) (hx : Rd w A 2 c 1 xs) (hv : xs[i]? = some (.iface 22 (.int .u64 n))) (hh : w.heap[g6]? = some (.cells #[.bool true] 4 (0, 0))) :
    Calls Tryd.prog 27 #[.int .i64 i, .pointer (some ⟨g4, 0, none⟩), .pointer (some ⟨g6, 0, none⟩)] w fun e w' => e = .returned (.int .u64 n) ∧ w'.heap[g6]? = some (.cells #[.bool true] 4 (0, 0)) ∧ w.grownBy w' (some g6) := by
  obtain ⟨ad, rfl⟩ := hx.some_of_pos (by omega)
  have hcl := hx.cell ad rfl i _ hv
  have hb6 : w.cell? ⟨g6, 0, none⟩ = some (.bool true) := cell_heap hh
  have hf := frozen_heap (o := 0) hh
  have hi2 : (i : Int) < 2 := by omega
  go_enter Tryd.func27, Tryd.ntmps27
  go_wp2_with (first
    | (go_at_call 28; refine (uint_any _ _).mono ?_; rintro e w2 ⟨rfl, rfl⟩))
  go_ret
  exact ⟨rfl, set_heap hh _, gb_set _ _ _ _⟩

set_option maxRecDepth 100000 in
set_option maxHeartbeats 1000000 in
theorem sof_any (a b : Nat) (A : Option Addr) (c : Nat) (w : World) (hx : Rd w A 2 c 1 [.iface 22 (.int .u64 a), .iface 22 (.int .u64 b)]) :
    Calls Tryd.prog 8 #[.iface 36 (.slice A 2 c)] w fun e w' => e = .returned (.tuple #[stp a b, .int .i64 0]) ∧ Below w.heap.size w w' := by
  obtain ⟨hB, hca⟩ := one_cells w #[.int .u64 0, .int .u64 0] 24
  have hx1 := hx.below hB
  have hh2 := alloc_new w (.cells #[.int .u64 0, .int .u64 0] 24 (0, 0))
  clear hca
  go_enter Tryd.func8, Tryd.ntmps8
  go_wp2_with fail
  refine (list_any2 A c _ _ _ hx1 (by simp [Value.oneCell'])).mono ?_
  rintro e w1 ⟨v, rfl, ho, hb⟩
  obtain ⟨A2, c2, rfl, hr, hbl⟩ := Rd.of_own ho
  have hB1 := below_trans hB hb
  have hh3 := heap_below hb hh2
  clear ho hb hh2 hB
  obtain ⟨hb, hca, hcb⟩ := two_cells w1 #[.slice A2 2 c2] #[.bool true] 36 4
  have k0 := hca 0 (.slice A2 2 c2) rfl
  have hk : ((w1.alloc (.cells #[.slice A2 2 c2] 36)).alloc (.cells #[.bool true] 4)).heap[w1.heap.size + 1]? = some (.cells #[.bool true] 4 (0, 0)) := by
    have := alloc_new (w1.alloc (.cells #[.slice A2 2 c2] 36)) (.cells #[.bool true] 4 (0, 0))
    rwa [alloc_size] at this
  have hr2 := hr.below hb
  have hh4 := heap_below hb hh3
  have hB2 := below_trans hB1 hb
  have hA : ∀ ad, A2 = some ad → some ad.block ≠ some (w1.heap.size + 1) := by
    intro ad e h
    have := hr.blk ad e (by omega)
    simp at h; omega
  have hlt := heap_lt hh3
  clear hb hca hcb hr hh3 hB1 hbl
  go_wp2_with fail
  refine (sof1_any 0 a _ _ A2 c2 _ _ (by omega) k0 hr2 rfl hk).mono ?_
  rintro e w2 ⟨rfl, hk2, hg⟩
  have k1 := hg.cell k0 (by simp)
  have hr3 := hr2.kept hg hA
  have hh5 := gb_heap hg hh4 (by simp; omega)
  have hB3 := below_gbw hg hB2 (by omega)
  clear hg hk k0 hr2 hh4 hB2
  go_wp2_with fail
  refine (sof1_any 1 b _ _ A2 c2 _ _ (by omega) k1 hr3 rfl hk2).mono ?_
  rintro e w3 ⟨rfl, hk3, hg⟩
  have k4 : w3.cell? ⟨w1.heap.size + 1, 0, none⟩ = some (.bool true) := cell_heap hk3
  have hh6 := gb_heap hg hh5 (by simp; omega)
  have hB4 := below_gbw hg hB3 (by omega)
  clear hg hk2 k1 hr3 hh5 hB3
  obtain ⟨hb, hca⟩ := one_cells w3 #[.int .u64 a, .int .u64 b] 24
  have q0 := hca 0 (.int .u64 a) rfl
  have q1 := hca 1 (.int .u64 b) rfl
  have k5 := cell_below hb k4
  have hh7 := heap_below hb hh6
  have z0 : _ = some (Value.int .u64 0) := cell_heap (o := 0) hh7
  have z1 : _ = some (Value.int .u64 0) := cell_heap (o := 1) hh7
  have zf0 := frozen_heap (o := 0) hh7
  have zf1 := frozen_heap (o := 1) hh7
  have hB5 := below_trans hB4 hb
  clear hca hb
  go_wp2_with fail
  have hh8 := set_heap (o := 0) hh7 (.int .u64 (a : Int))
  have hh9 := set_heap (o := 1) hh8 (.int .u64 (b : Int))
  have hB6 : Below w.heap.size w (((w3.alloc (.cells #[.int .u64 (a : Int), .int .u64 (b : Int)] 24)).setCell ⟨w.heap.size, 0, none⟩ (.int .u64 (a : Int))).setCell ⟨w.heap.size, 1, none⟩ (.int .u64 (b : Int))) :=
    below_gbw ((gb_set _ _ _ _).trans (gb_set _ _ _ _)) hB5 (Nat.le_refl _)
  generalize ((w3.alloc (.cells #[.int .u64 (a : Int), .int .u64 (b : Int)] 24)).setCell ⟨w.heap.size, 0, none⟩ (.int .u64 (a : Int))).setCell ⟨w.heap.size, 1, none⟩ (.int .u64 (b : Int)) = w9 at *
  have r0 : w9.cell? ⟨w.heap.size, 0, none⟩ = some (.int .u64 a) := cell_heap (o := 0) hh9
  have r1 : w9.cell? ⟨w.heap.size, 1, none⟩ = some (.int .u64 b) := cell_heap (o := 1) hh9
  refine bodyPost_ret (v := .tuple #[stp a b, .int .i64 0]) ?_ rfl ⟨rfl, hB6⟩
  simp [results, Tryd.results8, go_sem, r0, r1]
end Go.Proofs.YtieigjlbjiielaaDoor
