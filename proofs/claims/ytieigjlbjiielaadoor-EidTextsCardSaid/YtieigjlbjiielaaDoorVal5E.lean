/- Contracts of eid.within over values of interface type. No condition. -/
import Derived.Test.YtieigjlbjiielaaDoorVal4E
import Derived.OwnWalk
namespace Go.Proofs.YtieigjlbjiielaaDoor
open Go.RowKit

set_option maxRecDepth 100000 in
theorem within_num (n : Nat) (w : World) : Calls Tryd.prog 37 #[.int .u64 1, .iface 22 (.int .u64 n)] w fun e w' => e = .returned (.tuple #[eidV 1 [] n 0, .bool true]) ∧ Below w.heap.size w w' := by
  obtain ⟨hB, hc⟩ := one_cells w #[.int .i64 0, .string ⟨#[]⟩, .int .u64 0, .int .u64 0] 40
  have hR := alloc_new w (.cells #[.int .i64 0, .string ⟨#[]⟩, .int .u64 0, .int .u64 0] 40 (0, 0))
  have KU := fun W => Lib.hid (uint_any n W)
  clear hc
  go_enter Tryd.func37, Tryd.ntmps37
  go_upto_region 1 with fail
  generalize w.alloc (.cells #[.int .i64 0, .string ⟨#[]⟩, .int .u64 0, .int .u64 0] 40) = w1 at *
  obtain ⟨⟨z0, z1, z2, z3⟩, f0, f1, f2, f3⟩ := four_cells hR
  go_wp2_with fail
  refine (KU _).out.mono ?_
  rintro e w2 ⟨rfl, rfl⟩
  go_wp2_with fail
  have hh9 := four_heap hR (.int .i64 1) (.string ⟨#[]⟩) (.int .u64 n) (.int .u64 0)
  have hB9 := below_gbw (four_gb w1 w.heap.size (.int .i64 1) (.string ⟨#[]⟩) (.int .u64 n) (.int .u64 0)) hB (Nat.le_refl _)
  obtain ⟨⟨r0, r1, r2, r3⟩, -⟩ := four_cells hh9
  refine bodyPost_ret (v := .tuple #[eidV 1 [] n 0, .bool true]) ?_ rfl ⟨rfl, hB9⟩
  simp [results, Tryd.results37, go_sem, r0, r1, r2, r3]

set_option maxRecDepth 100000 in
theorem within_text (s : List UInt8) (w : World) : Calls Tryd.prog 37 #[.int .u64 1, .iface 9 (.string ⟨s.toArray⟩)] w fun e w' => e = .returned (.tuple #[eidV 1 s 0 0, .bool true]) ∧ Below w.heap.size w w' := by
  obtain ⟨hB, hc⟩ := one_cells w #[.int .i64 0, .string ⟨#[]⟩, .int .u64 0, .int .u64 0] 40
  have hR := alloc_new w (.cells #[.int .i64 0, .string ⟨#[]⟩, .int .u64 0, .int .u64 0] 40 (0, 0))
  have KU := fun W => Lib.hid (uint_no (.iface 9 (.string ⟨s.toArray⟩)) W (.inr ⟨_, _, rfl, by decide⟩))
  have KT := fun W => Lib.hid (text_yes s W)
  clear hc
  go_enter Tryd.func37, Tryd.ntmps37
  go_upto_region 1 with fail
  generalize w.alloc (.cells #[.int .i64 0, .string ⟨#[]⟩, .int .u64 0, .int .u64 0] 40) = w1 at *
  obtain ⟨⟨z0, z1, z2, z3⟩, f0, f1, f2, f3⟩ := four_cells hR
  go_wp2_with fail
  refine (KU _).out.mono ?_
  rintro e w2 ⟨rfl, rfl⟩
  go_wp2_with fail
  refine (KT _).out.mono ?_
  rintro e w2 ⟨rfl, rfl⟩
  go_wp2_with fail
  have hh9 := four_heap hR (.int .i64 1) (.string ⟨s.toArray⟩) (.int .u64 0) (.int .u64 0)
  have hB9 := below_gbw (four_gb w1 w.heap.size (.int .i64 1) (.string ⟨s.toArray⟩) (.int .u64 0) (.int .u64 0)) hB (Nat.le_refl _)
  obtain ⟨⟨r0, r1, r2, r3⟩, -⟩ := four_cells hh9
  refine bodyPost_ret (v := .tuple #[eidV 1 s 0 0, .bool true]) ?_ rfl ⟨rfl, hB9⟩
  simp [results, Tryd.results37, go_sem, r0, r1, r2, r3]

set_option maxRecDepth 100000 in
theorem within_ipn (x y : Nat) (A : Option Addr) (c : Nat) (w : World) (hx : Rd w A 2 c 1 [.iface 22 (.int .u64 x), .iface 22 (.int .u64 y)]) : Calls Tryd.prog 37 #[.int .u64 2, .iface 36 (.slice A 2 c)] w fun e w' => e = .returned (.tuple #[eidV 2 [] x y, .bool true]) ∧ Below w.heap.size w w' := by
  obtain ⟨hB, hc⟩ := one_cells w #[.int .i64 0, .string ⟨#[]⟩, .int .u64 0, .int .u64 0] 40
  have hR := alloc_new w (.cells #[.int .i64 0, .string ⟨#[]⟩, .int .u64 0, .int .u64 0] 40 (0, 0))
  have KU := fun W => Lib.hid (uint_no (.iface 36 (.slice A 2 c)) W (.inr ⟨_, _, rfl, by decide⟩))
  have KT := fun W => Lib.hid (text_not (.iface 36 (.slice A 2 c)) W (.inr ⟨_, _, rfl, by decide⟩))
  have KP := fun W h => Lib.hid (pair_yes A c _ _ W h (.inr ⟨_, _, rfl⟩) (.inr ⟨_, _, rfl⟩) : Calls Tryd.prog 36 #[.iface 36 (.slice A 2 c)] W fun e w' => e = .returned (.tuple #[.iface 22 (.int .u64 x), .iface 22 (.int .u64 y), .bool true]) ∧ Below W.heap.size W w')
  have KX := fun W => Lib.hid (uint_any x W)
  have KY := fun W => Lib.hid (uint_any y W)
  replace hx := hx.below hB
  clear hc
  go_enter Tryd.func37, Tryd.ntmps37
  go_upto_region 1 with fail
  generalize w.alloc (.cells #[.int .i64 0, .string ⟨#[]⟩, .int .u64 0, .int .u64 0] 40) = w1 at *
  go_wp2_with fail
  refine (KU _).out.mono ?_
  rintro e w2 ⟨rfl, rfl⟩
  go_wp2_with fail
  refine (KT _).out.mono ?_
  rintro e w2 ⟨rfl, rfl⟩
  go_wp2_with fail
  refine (KP _ hx).out.mono ?_
  rintro e w2 ⟨rfl, hb⟩
  replace hR := heap_below hb hR
  replace hB := below_trans hB hb
  clear hb hx KU KT KP
  go_wp2_with fail
  refine (KX _).out.mono ?_
  rintro e w3 ⟨rfl, rfl⟩
  go_wp2_with fail
  refine (KY _).out.mono ?_
  rintro e w3 ⟨rfl, rfl⟩
  obtain ⟨⟨z0, z1, z2, z3⟩, f0, f1, f2, f3⟩ := four_cells hR
  go_wp2_with fail
  have hh9 := four_heap hR (.int .i64 2) (.string ⟨#[]⟩) (.int .u64 x) (.int .u64 y)
  have hB9 := below_gbw (four_gb w2 w.heap.size (.int .i64 2) (.string ⟨#[]⟩) (.int .u64 x) (.int .u64 y)) hB (Nat.le_refl _)
  obtain ⟨⟨r0, r1, r2, r3⟩, -⟩ := four_cells hh9
  refine bodyPost_ret (v := .tuple #[eidV 2 [] x y, .bool true]) ?_ rfl ⟨rfl, hB9⟩
  simp [results, Tryd.results37, go_sem, r0, r1, r2, r3]

set_option maxRecDepth 100000 in
set_option maxHeartbeats 1000000 in
/-- What is no name's value within. -/
theorem within_gen (sc : Nat) (u p q : Value) (x y z : Nat) (s : ByteArray) (bx bs bp b1 b2 : Bool) (w : World)
    (KU : ∀ W, Hid (Calls Tryd.prog 28 #[u] W fun e w' => e = .returned (.tuple #[.int .u64 x, .bool bx]) ∧ W = w'))
    (KT : ∀ W, Hid (Calls Tryd.prog 38 #[u] W fun e w' => e = .returned (.tuple #[.string s, .bool bs]) ∧ W = w'))
    (KP : ∀ W, Below w.heap.size w W → Hid (Calls Tryd.prog 36 #[u] W fun e w' => e = .returned (.tuple #[p, q, .bool bp]) ∧ Below W.heap.size W w'))
    (KX : ∀ W, Hid (Calls Tryd.prog 28 #[p] W fun e w' => e = .returned (.tuple #[.int .u64 y, .bool b1]) ∧ W = w'))
    (KY : ∀ W, Hid (Calls Tryd.prog 28 #[q] W fun e w' => e = .returned (.tuple #[.int .u64 z, .bool b2]) ∧ W = w'))
    (hc : (bx = true ∧ sc ≠ 1 ∧ bs = false ∧ bp = false) ∨ (bx = false ∧ bs = true ∧ sc ≠ 1 ∧ bp = false) ∨ (bx = false ∧ bs = false ∧ bp = false) ∨ (bx = false ∧ bs = false ∧ bp = true ∧ b1 = false) ∨
      (bx = false ∧ bs = false ∧ bp = true ∧ b1 = true ∧ b2 = false) ∨ (bx = false ∧ bs = false ∧ bp = true ∧ b1 = true ∧ b2 = true ∧ sc ≠ 2)) :
    Calls Tryd.prog 37 #[.int .u64 sc, u] w fun e w' => (∃ (k : Int) (m : List UInt8) (n1 n2 : Int), e = .returned (.tuple #[eidV k m n1 n2, .bool false])) ∧ Below w.heap.size w w' := by
  obtain ⟨hB, hcc⟩ := one_cells w #[.int .i64 0, .string ⟨#[]⟩, .int .u64 0, .int .u64 0] 40
  have hR := alloc_new w (.cells #[.int .i64 0, .string ⟨#[]⟩, .int .u64 0, .int .u64 0] 40 (0, 0))
  have hn1 : sc ≠ 1 → ((sc : Int) == 1) = false := fun h => by rw [beq_eq_false_iff_ne]; omega
  have hn2 : sc ≠ 2 → ((sc : Int) == 2) = false := fun h => by rw [beq_eq_false_iff_ne]; omega
  clear hcc
  rcases hc with ⟨rfl, h, rfl, rfl⟩ | ⟨rfl, rfl, h, rfl⟩ | ⟨rfl, rfl, rfl⟩ | ⟨rfl, rfl, rfl, rfl⟩ | ⟨rfl, rfl, rfl, rfl, rfl⟩ | ⟨rfl, rfl, rfl, rfl, rfl, h⟩ <;>
  · try have g1 := hn1 h
    try have g2 := hn2 h
    clear hn1 hn2
    go_enter Tryd.func37, Tryd.ntmps37
    go_upto_region 1 with fail
    generalize w.alloc (.cells #[.int .i64 0, .string ⟨#[]⟩, .int .u64 0, .int .u64 0] 40) = w1 at *
    go_wp2_with fail
    refine (KU _).out.mono ?_
    rintro e w2 ⟨rfl, rfl⟩
    go_wp2_with fail
    refine (KT _).out.mono ?_
    rintro e w2 ⟨rfl, rfl⟩
    go_wp2_with fail
    refine (KP _ hB).out.mono ?_
    rintro e w2 ⟨rfl, hb⟩
    replace hR := heap_below hb hR
    replace hB := below_trans hB hb
    clear hb KU KT KP
    go_wp2_with fail
    refine (KX _).out.mono ?_
    rintro e w3 ⟨rfl, rfl⟩
    go_wp2_with fail
    refine (KY _).out.mono ?_
    rintro e w3 ⟨rfl, rfl⟩
    obtain ⟨⟨z0, z1, z2, z3⟩, f0, f1, f2, f3⟩ := four_cells hR
    go_wp2_with fail
    have hh9 := four_heap hR (.int .i64 2) (.string ⟨#[]⟩) (.int .u64 y) (.int .u64 z)
    have hB9 := below_gbw (four_gb w2 w.heap.size (.int .i64 2) (.string ⟨#[]⟩) (.int .u64 y) (.int .u64 z)) hB (Nat.le_refl _)
    obtain ⟨⟨r0, r1, r2, r3⟩, -⟩ := four_cells hh9
    refine bodyPost_ret (v := .tuple #[eidV 2 [] y z, .bool false]) ?_ rfl ⟨⟨2, [], y, z, rfl⟩, hB9⟩
    simp [results, Tryd.results37, go_sem, r0, r1, r2, r3]
end Go.Proofs.YtieigjlbjiielaaDoor
