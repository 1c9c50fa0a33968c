/- Contracts of eid.Value, Of at the name of nobody, item's readers. -/
import Derived.Test.YtieigjlbjiielaaDoorEid5E
import Derived.OwnWalk
namespace Go.Proofs.YtieigjlbjiielaaDoor
open Go.RowKit

set_option maxRecDepth 100000 in
theorem evalue_none (w : World) : Calls Tryd.prog 13 #[eidV 1 [] 0 0] w fun e w' => ∃ A, e = .returned (.tuple #[.iface 36 (.slice A 2 2), .int .i64 0]) ∧ Rd w' A 2 2 1 [.iface 22 (.int .u64 1), .iface 22 (.int .u64 0)] ∧ Below w.heap.size w w' := by
  obtain ⟨hB, c0, c1, c2, c3⟩ := eid_cells w 1 [] 0 0
  have hr : rightE 1 [] 0 0 = true := rfl
  have KR : ∀ W, Hid (Calls Tryd.prog 15 #[eidV 1 [] 0 0] W fun e w' => e = .returned (.bool true) ∧ Below W.heap.size W w') := fun W => Lib.hid (eright_any 1 [] 0 0 W)
  go_enter Tryd.func13, Tryd.ntmps13
  go_upto_region 1 with fail
  generalize w.alloc (.cells #[.int .i64 1, .string ⟨([] : List UInt8).toArray⟩, .int .u64 0, .int .u64 0] 40) = w0 at *
  go_wp2_with fail
  refine (KR _).out.mono ?_
  rintro e w1 ⟨rfl, hb⟩
  replace c0 := cell_below hb c0
  replace c1 := cell_below hb c1
  replace c2 := cell_below hb c2
  replace c3 := cell_below hb c3
  replace hB := below_trans hB hb
  clear hb KR
  go_wp2_with fail
  refine wp_region_held (S := fun W => Below (w1).heap.size (w1) W) (by kernel_rfl) ?_
  change wpAnyH _ _ _ _ _ _ _ _ (w1).drew
  have hS : (fun W => Below (w1).heap.size (w1) W) (w1).drew := (Below.refl _ _).drew
  refine wpAnyH_take (i := 0) (oi := { dst := some 13, op := Op.load 40 (Operand.tmp 1), type := 40, pos := "eid.go:99", after := #[], guard := none }) (v := ?_) rfl (by kernel_rfl) (by kernel_rfl) (by kernel_rfl) (fun _ _ _ h => h) (Or.inl ⟨by rfl, ?_⟩) (by assumption) ?_
  rotate_left
  · (intro wS hS; have c0 := cell_below hS c0; have c1 := cell_below hS c1; have c2 := cell_below hS c2; have c3 := cell_below hS c3; go_simp <;> with_reducible rfl)
  try simp only [Act.put, List.setIfInBounds_toArray, List.set_cons_zero, List.set_cons_succ]
  refine wpAnyH_ready (rs := [1]) (by kernel_rfl) (by simp) ?_
  refine AllReadyH.cons (o := { dst := some 14, op := Op.call { callee := Callee.value (Operand.func 30), args := #[], argTypes := #[] }, type := 40, pos := "eid.go:99", after := #[], guard := none }) rfl (fun K hK => ?_) AllReadyH.nil
  go_simp
  refine (enone_any _).mono ?_
  rintro e w101 ⟨rfl, hb⟩
  replace hS : (fun W => Below (w1).heap.size (w1) W) w101 := below_then hS hb (Below.size hS)
  refine hK.out _ _ hS (fun _ => ?_)
  clear hK K hb
  try simp only [Act.put, List.setIfInBounds_toArray, List.set_cons_zero, List.set_cons_succ]
  refine wpAnyH_take (i := 2) (oi := { dst := some 15, op := Op.binOp BinOp.eql 40 (Operand.tmp 13) (Operand.tmp 14) 40, type := 4, pos := "eid.go:99", after := #[{ on := 0, ground := Ground.data }, { on := 1, ground := Ground.data }], guard := none }) (v := ?_) rfl (by kernel_rfl) (by kernel_rfl) (by kernel_rfl) (fun _ _ _ h => h) (Or.inl ⟨by rfl, ?_⟩) (by assumption) ?_
  rotate_left
  · (intro wS hS; go_simp <;> with_reducible rfl)
  try simp only [Act.put, List.setIfInBounds_toArray, List.set_cons_zero, List.set_cons_succ]
  refine wpAnyH_take (i := 3) (oi := { dst := some 12, op := Op.assign (Operand.tmp 15), type := 4, pos := "eid.go:99", after := #[{ on := 2, ground := Ground.data }, { on := 1, ground := Ground.chain }], guard := none }) (v := ?_) rfl (by kernel_rfl) (by kernel_rfl) (by kernel_rfl) (fun _ _ _ h => h) (Or.inl ⟨by rfl, ?_⟩) (by assumption) ?_
  rotate_left
  · (intro wS hS; go_simp <;> with_reducible rfl)
  try simp only [Act.put, List.setIfInBounds_toArray, List.set_cons_zero, List.set_cons_succ]
  refine wpAnyH_done (by kernel_rfl) ?_ _
  replace hB := hB.trans (below_of hS hB.size)
  go_wp2_with fail
  go_ret2
  have hrd := cells_rd' (w := w101) (e := 20) (cs := #[.iface 22 (.int .u64 1), .iface 22 (.int .u64 0)]) rfl (show 2 ≤ maxLen by decide)
  exact ⟨_, rfl, hrd, hB.alloc hB.size _⟩

theorem text_no (n : Nat) (w : World) : Calls Tryd.prog 38 #[.iface 22 (.int .u64 n)] w fun e w' => e = .returned (.tuple #[.string ⟨#[]⟩, .bool false]) ∧ w = w' := by
  have kt : ∀ x w, (Instr.typeAssert (.iface 22 (.int .u64 n)) x 9 true).run Tryd.prog w = .ok (.tuple #[.string ⟨#[]⟩, .bool false]) w := fun x w => by
    simp [Instr.typeAssert, run_underlying Tryd.underlying9]
  go_enter Tryd.func38, Tryd.ntmps38
  go_wp2
  go_ret2
  exact ⟨rfl, rfl⟩

set_option maxRecDepth 100000 in
theorem at_any (i n : Nat) (A : Option Addr) (c : Nat) (xs : List Value) (w : World) (hi : i < 2) (hx : Rd w A 2 c 1 xs) (hv : xs[i]? = some (.iface 22 (.int .u64 n))) :
    Calls Tryd.prog 48 #[.iface 36 (.slice A 2 c), .int .i64 i] w fun e w' => e = .returned (.iface 22 (.int .u64 n)) ∧ w = w' := by
  have kt := fun x w => run_ta (P := Tryd.prog) Tryd.underlying36 rfl (.slice A 2 c) x w
  obtain ⟨ad, rfl⟩ := hx.some_of_pos (by omega)
  have hcl := hx.cell ad rfl i _ hv
  have hi2 : (i : Int) < 2 := by omega
  have hi3 : (0 : Int) ≤ (i : Int) := by omega
  clear hx hv
  go_enter Tryd.func48, Tryd.ntmps48
  go_wp2_with fail
  go_ret
  exact ⟨rfl, rfl⟩

set_option maxRecDepth 100000 in
theorem pair1_any (i n g : Nat) (A : Option Addr) (c : Nat) (xs : List Value) (w : World) (hi : i < 2) (hc : w.cell? ⟨g, 0, none⟩ = some (.iface 36 (.slice A 2 c))) (hx : Rd w A 2 c 1 xs) (hv : xs[i]? = some (.iface 22 (.int .u64 n))) :
    Calls Tryd.prog 47 #[.int .i64 i, .pointer (some ⟨g, 0, none⟩)] w fun e w' => e = .returned (.iface 22 (.int .u64 n)) ∧ w = w' := by
  have KA := Lib.hid (at_any i n A c xs w hi hx hv)
  go_enter Tryd.func47, Tryd.ntmps47
  go_wp2_with (refine KA.out.mono ?_; rintro e w2 ⟨rfl, rfl⟩)
  go_ret
  exact ⟨rfl, rfl⟩

set_option maxRecDepth 100000 in
theorem pair_any (a b : Nat) (A : Option Addr) (c : Nat) (w : World) (hx : Rd w A 2 c 1 [.iface 22 (.int .u64 a), .iface 22 (.int .u64 b)]) :
    Calls Tryd.prog 36 #[.iface 36 (.slice A 2 c)] w fun e w' => e = .returned (.tuple #[.iface 22 (.int .u64 a), .iface 22 (.int .u64 b), .bool true]) ∧ Below w.heap.size w w' := by
  obtain ⟨hB, hca⟩ := one_cells w #[.iface 36 (.slice A 2 c)] 20
  have k0 := hca 0 (.iface 36 (.slice A 2 c)) rfl
  replace hx := hx.below hB
  clear hca
  go_enter Tryd.func36, Tryd.ntmps36
  go_upto_region 1 with fail
  generalize w.alloc (.cells #[.iface 36 (.slice A 2 c)] 20) = w0 at *
  go_wp2_with fail
  refine (list_any2 A c _ _ _ hx (by simp [Value.oneCell'])).mono ?_
  rintro e w1 ⟨v, rfl, ho, hb⟩
  obtain ⟨A2, c2, rfl, -, -⟩ := Rd.of_own ho
  replace hB := below_trans hB hb
  replace hx := hx.below hb
  replace k0 := cell_below hb k0
  clear ho hb
  go_wp2_with fail
  refine (pair1_any 0 a _ A c _ _ (by omega) k0 hx rfl).mono ?_
  rintro e w2 ⟨rfl, rfl⟩
  go_wp2_with fail
  refine (pair1_any 1 b _ A c _ _ (by omega) k0 hx rfl).mono ?_
  rintro e w2 ⟨rfl, rfl⟩
  go_wp2_with fail
  go_ret3
  exact ⟨rfl, hB⟩

set_option maxRecDepth 100000 in
theorem within_none (w : World) : Calls Tryd.prog 37 #[.int .u64 1, .iface 22 (.int .u64 0)] w fun e w' => e = .returned (.tuple #[eidV 1 [] 0 0, .bool true]) ∧ Below w.heap.size w w' := by
  obtain ⟨hB, hc⟩ := one_cells w #[.int .i64 0, .string ⟨#[]⟩, .int .u64 0, .int .u64 0] 40
  have hR := alloc_new w (.cells #[.int .i64 0, .string ⟨#[]⟩, .int .u64 0, .int .u64 0] 40 (0, 0))
  have KU : ∀ W, Hid (Calls Tryd.prog 28 #[.iface 22 (.int .u64 0)] W fun e w' => e = .returned (.tuple #[.int .u64 0, .bool true]) ∧ W = w') := fun W => Lib.hid (uint_any 0 W)
  clear hc
  go_enter Tryd.func37, Tryd.ntmps37
  go_upto_region 1 with fail
  generalize w.alloc (.cells #[.int .i64 0, .string ⟨#[]⟩, .int .u64 0, .int .u64 0] 40) = w1 at *
  obtain ⟨⟨z0, z1, z2, z3⟩, f0, f1, f2, f3⟩ := four_cells hR
  go_wp2_with fail
  refine (KU _).out.mono ?_
  rintro e w2 ⟨rfl, rfl⟩
  go_wp2_with fail
  have hh9 := four_heap hR (.int .i64 1) (.string ⟨#[]⟩) (.int .u64 0) (.int .u64 0)
  have hB9 := below_gbw (four_gb w1 w.heap.size (.int .i64 1) (.string ⟨#[]⟩) (.int .u64 0) (.int .u64 0)) hB (Nat.le_refl _)
  obtain ⟨⟨r0, r1, r2, r3⟩, -⟩ := four_cells hh9
  refine bodyPost_ret (v := .tuple #[eidV 1 [] 0 0, .bool true]) ?_ rfl ⟨rfl, hB9⟩
  simp [results, Tryd.results37, go_sem, r0, r1, r2, r3]

set_option maxRecDepth 100000 in
theorem eof_none (A : Option Addr) (c : Nat) (w : World) (hx : Rd w A 2 c 1 [.iface 22 (.int .u64 1), .iface 22 (.int .u64 0)]) :
    Calls Tryd.prog 18 #[.iface 36 (.slice A 2 c)] w fun e w' => e = .returned (.tuple #[eidV 1 [] 0 0, .int .i64 0]) ∧ Below w.heap.size w w' := by
  obtain ⟨hB, hc⟩ := one_cells w #[.int .i64 0, .string ⟨#[]⟩, .int .u64 0, .int .u64 0] 40
  have hR := alloc_new w (.cells #[.int .i64 0, .string ⟨#[]⟩, .int .u64 0, .int .u64 0] 40 (0, 0))
  have KP : ∀ W, Rd W A 2 c 1 [.iface 22 (.int .u64 1), .iface 22 (.int .u64 0)] → Hid (Calls Tryd.prog 36 #[.iface 36 (.slice A 2 c)] W fun e w' => e = .returned (.tuple #[.iface 22 (.int .u64 1), .iface 22 (.int .u64 0), .bool true]) ∧ Below W.heap.size W w') := fun W h => Lib.hid (pair_any 1 0 A c W h)
  have KU : ∀ W, Hid (Calls Tryd.prog 28 #[.iface 22 (.int .u64 1)] W fun e w' => e = .returned (.tuple #[.int .u64 1, .bool true]) ∧ W = w') := fun W => Lib.hid (uint_any 1 W)
  have KX : ∀ W, Hid (Calls Tryd.prog 38 #[.iface 22 (.int .u64 0)] W fun e w' => e = .returned (.tuple #[.string ⟨#[]⟩, .bool false]) ∧ W = w') := fun W => Lib.hid (text_no 0 W)
  have KR : ∀ W, Hid (Calls Tryd.prog 15 #[eidV 1 [] 0 0] W fun e w' => e = .returned (.bool true) ∧ Below W.heap.size W w') := fun W => Lib.hid (eright_any 1 [] 0 0 W)
  replace hx := hx.below hB
  clear hc
  go_enter Tryd.func18, Tryd.ntmps18
  go_upto_region 1 with fail
  generalize w.alloc (.cells #[.int .i64 0, .string ⟨#[]⟩, .int .u64 0, .int .u64 0] 40) = w1 at *
  go_wp2_with fail
  refine (KP _ hx).out.mono ?_
  rintro e w2 ⟨rfl, hb⟩
  replace hR := heap_below hb hR
  replace hB := below_trans hB hb
  clear hb hx KP
  go_wp2_with fail
  refine (KU _).out.mono ?_
  rintro e w3 ⟨rfl, rfl⟩
  clear KU
  go_wp2_with fail
  refine (within_none _).mono ?_
  rintro e w4 ⟨rfl, hb⟩
  replace hR := heap_below hb hR
  replace hB := below_trans hB hb
  clear hb
  obtain ⟨hb, c0, c1, c2, c3⟩ := eid_cells w4 1 [] 0 0
  replace hR := heap_below hb hR
  replace hB := below_trans hB hb
  go_upto_region 6 with fail
  generalize w4.alloc (.cells #[.int .i64 1, .string ⟨([] : List UInt8).toArray⟩, .int .u64 0, .int .u64 0] 40) = w5 at *
  clear hb
  go_wp2_with fail
  refine (KX _).out.mono ?_
  rintro e w6 ⟨rfl, rfl⟩
  clear KX
  go_wp2_with fail
  refine (KR _).out.mono ?_
  rintro e w7 ⟨rfl, hb⟩
  replace hR := heap_below hb hR
  replace hB := below_trans hB hb
  replace c0 := cell_below hb c0
  replace c1 := cell_below hb c1
  replace c2 := cell_below hb c2
  replace c3 := cell_below hb c3
  clear hb KR
  obtain ⟨⟨z0, z1, z2, z3⟩, f0, f1, f2, f3⟩ := four_cells hR
  go_wp2_with fail
  have hh9 := four_heap hR (.int .i64 1) (.string ⟨#[]⟩) (.int .u64 0) (.int .u64 0)
  have hB9 := below_gbw (four_gb w7 w.heap.size (.int .i64 1) (.string ⟨#[]⟩) (.int .u64 0) (.int .u64 0)) hB (Nat.le_refl _)
  obtain ⟨⟨r0, r1, r2, r3⟩, -⟩ := four_cells hh9
  refine bodyPost_ret (v := .tuple #[eidV 1 [] 0 0, .int .i64 0]) ?_ rfl ⟨rfl, hB9⟩
  simp [results, Tryd.results18, go_sem, r0, r1, r2, r3]
end Go.Proofs.YtieigjlbjiielaaDoor
