/- Contract of eid.Of: the name of what stands for any value. No condition. -/
import Derived.Test.YtieigjlbjiielaaDoorVal6E
namespace Go.Proofs.YtieigjlbjiielaaDoor
open Go.RowKit

abbrev ofRes (w : World) (sc : Int) (nm : List UInt8) (nd sv : Nat) (er : Int) (e : Ending) (w' : World) : Prop := e = .returned (.tuple #[eidV sc nm nd sv, .int .i64 er]) ∧ Below w.heap.size w w'

set_option maxRecDepth 100000 in
set_option maxHeartbeats 1000000 in
/-- No pair, or the first is no number. -/
theorem eof_a (u p q : Value) (y : Nat) (bp b1 : Bool) (w : World) (hc : (bp = false ∧ b1 = false) ∨ (bp = true ∧ b1 = false))
    (KP : ∀ W, Below w.heap.size w W → Hid (Calls Tryd.prog 36 #[u] W fun e w' => e = .returned (.tuple #[p, q, .bool bp]) ∧ Below W.heap.size W w'))
    (KX : ∀ W, Hid (Calls Tryd.prog 28 #[p] W fun e w' => e = .returned (.tuple #[.int .u64 y, .bool b1]) ∧ W = w')) :
    Calls Tryd.prog 18 #[u] w (ofRes w 0 [] 0 0 18) := by
  obtain ⟨hB, hcc⟩ := one_cells w #[.int .i64 0, .string ⟨#[]⟩, .int .u64 0, .int .u64 0] 40
  have hR := alloc_new w (.cells #[.int .i64 0, .string ⟨#[]⟩, .int .u64 0, .int .u64 0] 40 (0, 0))
  clear hcc
  rcases hc with ⟨rfl, rfl⟩ | ⟨rfl, rfl⟩ <;>
  · go_enter Tryd.func18, Tryd.ntmps18
    go_upto_region 1 with fail
    generalize w.alloc (.cells #[.int .i64 0, .string ⟨#[]⟩, .int .u64 0, .int .u64 0] 40) = w1 at *
    go_wp2_with fail
    refine (KP _ hB).out.mono ?_
    rintro e w2 ⟨rfl, hb⟩
    replace hR := heap_below hb hR
    replace hB := below_trans hB hb
    clear hb KP
    go_wp2_with fail
    refine (KX _).out.mono ?_
    rintro e w3 ⟨rfl, rfl⟩
    clear KX
    obtain ⟨⟨z0, z1, z2, z3⟩, f0, f1, f2, f3⟩ := four_cells hR
    go_wp2_with fail
    have hh9 := four_heap hR (.int .i64 0) (.string ⟨#[]⟩) (.int .u64 0) (.int .u64 0)
    have hB9 := below_gbw (four_gb w2 w.heap.size (.int .i64 0) (.string ⟨#[]⟩) (.int .u64 0) (.int .u64 0)) hB (Nat.le_refl _)
    obtain ⟨⟨r0, r1, r2, r3⟩, -⟩ := four_cells hh9
    refine bodyPost_ret (v := .tuple #[eidV 0 [] 0 0, .int .i64 18]) ?_ rfl ⟨rfl, hB9⟩
    simp [results, Tryd.results18, go_sem, r0, r1, r2, r3]

set_option maxRecDepth 100000 in
set_option maxHeartbeats 1000000 in
/-- A pair whose second is no name's value. -/
theorem eof_b (u p q : Value) (y : Nat) (w : World)
    (KP : ∀ W, Below w.heap.size w W → Hid (Calls Tryd.prog 36 #[u] W fun e w' => e = .returned (.tuple #[p, q, .bool true]) ∧ Below W.heap.size W w'))
    (KX : ∀ W, Hid (Calls Tryd.prog 28 #[p] W fun e w' => e = .returned (.tuple #[.int .u64 y, .bool true]) ∧ W = w'))
    (KW : ∀ W, Below w.heap.size w W → Hid (Calls Tryd.prog 37 #[.int .u64 y, q] W fun e w' => (∃ (k : Int) (m : List UInt8) (n1 n2 : Int), e = .returned (.tuple #[eidV k m n1 n2, .bool false])) ∧ Below W.heap.size W w')) :
    Calls Tryd.prog 18 #[u] w (ofRes w 0 [] 0 0 18) := by
  obtain ⟨hB, hcc⟩ := one_cells w #[.int .i64 0, .string ⟨#[]⟩, .int .u64 0, .int .u64 0] 40
  have hR := alloc_new w (.cells #[.int .i64 0, .string ⟨#[]⟩, .int .u64 0, .int .u64 0] 40 (0, 0))
  clear hcc
  go_enter Tryd.func18, Tryd.ntmps18
  go_upto_region 1 with fail
  generalize w.alloc (.cells #[.int .i64 0, .string ⟨#[]⟩, .int .u64 0, .int .u64 0] 40) = w1 at *
  go_wp2_with fail
  refine (KP _ hB).out.mono ?_
  rintro e w2 ⟨rfl, hb⟩
  replace hR := heap_below hb hR
  replace hB := below_trans hB hb
  clear hb KP
  go_wp2_with fail
  refine (KX _).out.mono ?_
  rintro e w3 ⟨rfl, rfl⟩
  clear KX
  go_wp2_with fail
  refine (KW _ hB).out.mono ?_
  rintro e w4 ⟨⟨k, m, n1, n2, rfl⟩, hb⟩
  replace hR := heap_below hb hR
  replace hB := below_trans hB hb
  clear hb KW
  obtain ⟨hb, c0, c1, c2, c3⟩ := eid_cells w4 k m n1 n2
  replace hR := heap_below hb hR
  replace hB := below_trans hB hb
  go_upto_region 6 with fail
  generalize w4.alloc (.cells #[.int .i64 k, .string ⟨m.toArray⟩, .int .u64 n1, .int .u64 n2] 40) = w5 at *
  clear hb c0 c1 c2 c3
  obtain ⟨⟨z0, z1, z2, z3⟩, f0, f1, f2, f3⟩ := four_cells hR
  go_wp2_with fail
  have hh9 := four_heap hR (.int .i64 0) (.string ⟨#[]⟩) (.int .u64 0) (.int .u64 0)
  have hB9 := below_gbw (four_gb w5 w.heap.size (.int .i64 0) (.string ⟨#[]⟩) (.int .u64 0) (.int .u64 0)) hB (Nat.le_refl _)
  obtain ⟨⟨r0, r1, r2, r3⟩, -⟩ := four_cells hh9
  refine bodyPost_ret (v := .tuple #[eidV 0 [] 0 0, .int .i64 18]) ?_ rfl ⟨rfl, hB9⟩
  simp [results, Tryd.results18, go_sem, r0, r1, r2, r3]

set_option maxRecDepth 100000 in
set_option maxHeartbeats 1000000 in
/-- A pair whose second is a name's value: the name may be, or not. -/
theorem eof_c (u p q : Value) (y : Nat) (k : Int) (m : List UInt8) (n1 n2 : Nat) (t : List UInt8) (bt rr bad : Bool) (w : World)
    (hc : (rr = false ∧ bad = true) ∨ (rr = true ∧ bt = true ∧ m = [] ∧ bad = true) ∨ (rr = true ∧ bt = true ∧ m ≠ [] ∧ bad = false) ∨ (rr = true ∧ bt = false ∧ bad = false))
    (KP : ∀ W, Below w.heap.size w W → Hid (Calls Tryd.prog 36 #[u] W fun e w' => e = .returned (.tuple #[p, q, .bool true]) ∧ Below W.heap.size W w'))
    (KX : ∀ W, Hid (Calls Tryd.prog 28 #[p] W fun e w' => e = .returned (.tuple #[.int .u64 y, .bool true]) ∧ W = w'))
    (KW : ∀ W, Below w.heap.size w W → Hid (Calls Tryd.prog 37 #[.int .u64 y, q] W fun e w' => e = .returned (.tuple #[eidV k m n1 n2, .bool true]) ∧ Below W.heap.size W w'))
    (KT : ∀ W, Hid (Calls Tryd.prog 38 #[q] W fun e w' => e = .returned (.tuple #[.string ⟨t.toArray⟩, .bool bt]) ∧ W = w'))
    (hr : rightE k m n1 n2 = rr) :
    Calls Tryd.prog 18 #[u] w (if bad then ofRes w 0 [] 0 0 6 else ofRes w k m n1 n2 0) := by
  obtain ⟨hB, hcc⟩ := one_cells w #[.int .i64 0, .string ⟨#[]⟩, .int .u64 0, .int .u64 0] 40
  have hR := alloc_new w (.cells #[.int .i64 0, .string ⟨#[]⟩, .int .u64 0, .int .u64 0] 40 (0, 0))
  have KR : ∀ W, Hid (Calls Tryd.prog 15 #[eidV k m n1 n2] W fun e w' => e = .returned (.bool rr) ∧ Below W.heap.size W w') := fun W => by
    have := eright_any k m n1 n2 W
    rw [hr] at this
    exact Lib.hid this
  have hm : m ≠ [] → (m == []) = false := fun h => by simpa using h
  clear hcc hr
  rcases hc with ⟨rfl, rfl⟩ | ⟨rfl, rfl, rfl, rfl⟩ | ⟨rfl, rfl, h, rfl⟩ | ⟨rfl, rfl, rfl⟩
  all_goals (
    first | rw [if_pos rfl] | rw [if_neg (by decide)]
    try have hm1 := hm h
    try clear h
    clear hm
    go_enter Tryd.func18, Tryd.ntmps18
    go_upto_region 1 with fail
    generalize w.alloc (.cells #[.int .i64 0, .string ⟨#[]⟩, .int .u64 0, .int .u64 0] 40) = w1 at *
    go_wp2_with fail
    refine (KP _ hB).out.mono ?_
    rintro e w2 ⟨rfl, hb⟩
    replace hR := heap_below hb hR
    replace hB := below_trans hB hb
    clear hb KP
    go_wp2_with fail
    refine (KX _).out.mono ?_
    rintro e w3 ⟨rfl, rfl⟩
    clear KX
    go_wp2_with fail
    refine (KW _ hB).out.mono ?_
    rintro e w4 ⟨rfl, hb⟩
    replace hR := heap_below hb hR
    replace hB := below_trans hB hb
    clear hb KW
    obtain ⟨hb, c0, c1, c2, c3⟩ := eid_cells w4 k _ n1 n2
    replace hR := heap_below hb hR
    replace hB := below_trans hB hb
    go_upto_region 6 with fail
    generalize w4.alloc (.cells #[.int .i64 k, .string ⟨_⟩, .int .u64 n1, .int .u64 n2] 40) = w5 at *
    clear hb
    go_wp2_with fail
    refine (KT _).out.mono ?_
    rintro e w6 ⟨rfl, rfl⟩
    clear KT
    go_wp2_with fail
    refine (KR _).out.mono ?_
    rintro e w7 ⟨rfl, hb⟩
    replace hR := heap_below hb hR
    replace hB := below_trans hB hb
    replace c0 := cell_below hb c0
    replace c1 := cell_below hb c1
    replace c2 := cell_below hb c2
    replace c3 := cell_below hb c3
    clear hb KR
    obtain ⟨⟨z0, z1, z2, z3⟩, f0, f1, f2, f3⟩ := four_cells hR
    go_wp2_with fail
    clear c0 c1 c2 c3 z0 z1 z2 z3 f0 f1 f2 f3)
  · have hh9 := four_heap hR (.int .i64 0) (.string ⟨#[]⟩) (.int .u64 0) (.int .u64 0)
    have hB9 := below_gbw (four_gb w7 w.heap.size (.int .i64 0) (.string ⟨#[]⟩) (.int .u64 0) (.int .u64 0)) hB (Nat.le_refl _)
    obtain ⟨⟨r0, r1, r2, r3⟩, -⟩ := four_cells hh9
    refine bodyPost_ret (v := .tuple #[eidV 0 [] 0 0, .int .i64 6]) ?_ rfl ⟨rfl, hB9⟩
    simp [results, Tryd.results18, go_sem, r0, r1, r2, r3]
  · have hh9 := four_heap hR (.int .i64 0) (.string ⟨#[]⟩) (.int .u64 0) (.int .u64 0)
    have hB9 := below_gbw (four_gb w7 w.heap.size (.int .i64 0) (.string ⟨#[]⟩) (.int .u64 0) (.int .u64 0)) hB (Nat.le_refl _)
    obtain ⟨⟨r0, r1, r2, r3⟩, -⟩ := four_cells hh9
    refine bodyPost_ret (v := .tuple #[eidV 0 [] 0 0, .int .i64 6]) ?_ rfl ⟨rfl, hB9⟩
    simp [results, Tryd.results18, go_sem, r0, r1, r2, r3]
  · have hh9 := four_heap hR (.int .i64 k) (.string ⟨m.toArray⟩) (.int .u64 n1) (.int .u64 n2)
    have hB9 := below_gbw (four_gb w7 w.heap.size (.int .i64 k) (.string ⟨m.toArray⟩) (.int .u64 n1) (.int .u64 n2)) hB (Nat.le_refl _)
    obtain ⟨⟨r0, r1, r2, r3⟩, -⟩ := four_cells hh9
    refine bodyPost_ret (v := .tuple #[eidV k m n1 n2, .int .i64 0]) ?_ rfl ⟨rfl, hB9⟩
    simp [results, Tryd.results18, go_sem, r0, r1, r2, r3]
  · have hh9 := four_heap hR (.int .i64 k) (.string ⟨m.toArray⟩) (.int .u64 n1) (.int .u64 n2)
    have hB9 := below_gbw (four_gb w7 w.heap.size (.int .i64 k) (.string ⟨m.toArray⟩) (.int .u64 n1) (.int .u64 n2)) hB (Nat.le_refl _)
    obtain ⟨⟨r0, r1, r2, r3⟩, -⟩ := four_cells hh9
    refine bodyPost_ret (v := .tuple #[eidV k m n1 n2, .int .i64 0]) ?_ rfl ⟨rfl, hB9⟩
    simp [results, Tryd.results18, go_sem, r0, r1, r2, r3]
end Go.Proofs.YtieigjlbjiielaaDoor
