/- Values of interface type, seen from outside: contracts of item's readers, eid.pair. No condition. -/
import Derived.Test.YtieigjlbjiielaaDoorEid6E
namespace Go.Proofs.YtieigjlbjiielaaDoor
open Go.RowKit

/-- A value of interface type that is none of type t. -/
def NoT (u : Value) (t : TypeId) : Prop := u = .nilIface ∨ ∃ t' v, u = .iface t' v ∧ t' ≠ t
/-- A value of interface type. -/
def IsI (u : Value) : Prop := u = .nilIface ∨ ∃ t v, u = .iface t v
theorem NoT.isI {u : Value} {t : TypeId} (h : NoT u t) : IsI u := by
  rcases h with h | ⟨t', v, h, _⟩
  · exact .inl h
  · exact .inr ⟨t', v, h⟩
theorem IsI.one {u : Value} (h : IsI u) : u.oneCell' = true := by
  rcases h with rfl | ⟨t, v, rfl⟩ <;> rfl
theorem nil_noT (t : TypeId) : NoT .nilIface t := .inl rfl

theorem run_no_u64 {u : Value} (h : NoT u 22) (x : TypeId) (w : World) : (Instr.typeAssert u x 22 true).run Tryd.prog w = .ok (.tuple #[.int .u64 0, .bool false]) w := by
  rcases h with rfl | ⟨t', v, rfl, hn⟩ <;> simp_all [Instr.typeAssert, run_underlying Tryd.underlying22]
theorem run_no_str {u : Value} (h : NoT u 9) (x : TypeId) (w : World) : (Instr.typeAssert u x 9 true).run Tryd.prog w = .ok (.tuple #[.string ⟨#[]⟩, .bool false]) w := by
  rcases h with rfl | ⟨t', v, rfl, hn⟩ <;> simp_all [Instr.typeAssert, run_underlying Tryd.underlying9]
theorem run_no_list {u : Value} (h : NoT u 36) (x : TypeId) (w : World) : (Instr.typeAssert u x 36 true).run Tryd.prog w = .ok (.tuple #[.slice none 0 0, .bool false]) w := by
  rcases h with rfl | ⟨t', v, rfl, hn⟩ <;> simp_all [Instr.typeAssert, run_underlying Tryd.underlying36]

theorem uint_no (u : Value) (w : World) (h : NoT u 22) : Calls Tryd.prog 28 #[u] w fun e w' => e = .returned (.tuple #[.int .u64 0, .bool false]) ∧ w = w' := by
  have kt := fun x w => run_no_u64 h x w
  clear h
  go_enter Tryd.func28, Tryd.ntmps28
  go_wp2
  go_ret2
  exact ⟨rfl, rfl⟩

theorem text_yes (s : List UInt8) (w : World) : Calls Tryd.prog 38 #[.iface 9 (.string ⟨s.toArray⟩)] w fun e w' => e = .returned (.tuple #[.string ⟨s.toArray⟩, .bool true]) ∧ w = w' := by
  have kt := fun x w => run_ta (P := Tryd.prog) Tryd.underlying9 rfl (.string ⟨s.toArray⟩) x w
  go_enter Tryd.func38, Tryd.ntmps38
  go_wp2
  go_ret2
  exact ⟨rfl, rfl⟩
theorem text_not (u : Value) (w : World) (h : NoT u 9) : Calls Tryd.prog 38 #[u] w fun e w' => e = .returned (.tuple #[.string ⟨#[]⟩, .bool false]) ∧ w = w' := by
  have kt := fun x w => run_no_str h x w
  clear h
  go_enter Tryd.func38, Tryd.ntmps38
  go_wp2
  go_ret2
  exact ⟨rfl, rfl⟩

set_option maxRecDepth 100000 in
theorem list_any (A : Option Addr) (n c : Nat) (xs : List Value) (w : World) (hx : Rd w A n c 1 xs) (h1 : ∀ u ∈ xs, u.oneCell' = true) (hn : n * 16 ≤ 140737488355328) :
    Calls Tryd.prog 26 #[.iface 36 (.slice A n c)] w fun e w' => ∃ v, e = .returned (.tuple #[v, .bool true]) ∧ w'.ownsRow w.heap.size 20 1 v n xs ∧ Below w.heap.size w w' := by
  have hB := Below.refl w.heap.size w
  have own0 := World.ownsRow_nil w w.heap.size 20 1
  have kt := fun x w => run_ta (P := Tryd.prog) Tryd.underlying36 rfl (.slice A n c) x w
  have hm : 0 + n ≤ maxLen := by have := hx.nc; have := hx.cm; omega
  go_enter Tryd.func26, Tryd.ntmps26
  go_wp2_with (first
    | (at_builtin; refine wpl_append rfl (.const (.slice none 0 0)) (.tmp 11) 36 rfl w.heap.size 20 _ 1 16 Tryd.underlying36 info_any rfl (by decide) _ 0 [] rfl own0 A n c _ rfl hx h1 hm (by omega) (Nat.le_refl _) ?_; intro v1 w1 ho1 hg1; have hB1 := below_own hB own0 hg1; clear hg1))
  go_ret2
  refine ⟨_, rfl, ?_, hB1⟩
  rw [Nat.zero_add] at ho1
  exact ho1
set_option maxRecDepth 100000 in
theorem list_no (u : Value) (w : World) (h : NoT u 36) : Calls Tryd.prog 26 #[u] w fun e w' => e = .returned (.tuple #[.slice none 0 0, .bool false]) ∧ w = w' := by
  have own0 := World.ownsRow_nil w w.heap.size 20 1
  have kt := fun x w => run_no_list h x w
  clear h
  go_enter Tryd.func26, Tryd.ntmps26
  go_wp2_with (first
    | (at_builtin; refine wpList_append_own_none rfl (.const (.slice none 0 0)) (.tmp 11) 36 rfl w.heap.size 20 _ 1 (by kernel_rfl) Tryd.underlying36 _ 0 [] rfl own0 rfl ?_))
  go_ret2
  exact ⟨rfl, rfl⟩

set_option maxRecDepth 100000 in
theorem at_i (i : Nat) (A : Option Addr) (c : Nat) (x y : Value) (w : World) (hi : i < 2) (hx : Rd w A 2 c 1 [x, y]) (hu : IsI x) (hv : IsI y) :
    Calls Tryd.prog 48 #[.iface 36 (.slice A 2 c), .int .i64 i] w fun e w' => e = .returned (if i = 0 then x else y) ∧ w = w' := by
  have kt := fun x w => run_ta (P := Tryd.prog) Tryd.underlying36 rfl (.slice A 2 c) x w
  obtain ⟨ad, rfl⟩ := hx.some_of_pos (by omega)
  obtain ⟨z, hz, hI⟩ : ∃ z, (if i = 0 then x else y) = z ∧ IsI z := ⟨_, rfl, by split <;> assumption⟩
  have hcl := hx.cell ad rfl i z (by
    rcases (by omega : i = 0 ∨ i = 1) with rfl | rfl
    · simpa using hz
    · simpa using hz)
  rw [hz]
  have hi2 : (i : Int) < 2 := by omega
  have hi3 : (0 : Int) ≤ (i : Int) := by omega
  clear hx hu hv hz
  rcases hI with rfl | ⟨t, v, rfl⟩ <;>
  · go_enter Tryd.func48, Tryd.ntmps48
    go_wp2_with fail
    go_ret
    exact ⟨rfl, rfl⟩

set_option maxRecDepth 100000 in
theorem pair1_i (i g : Nat) (A : Option Addr) (c : Nat) (x y : Value) (w : World) (hi : i < 2) (hc : w.cell? ⟨g, 0, none⟩ = some (.iface 36 (.slice A 2 c))) (hx : Rd w A 2 c 1 [x, y]) (hu : IsI x) (hv : IsI y) :
    Calls Tryd.prog 47 #[.int .i64 i, .pointer (some ⟨g, 0, none⟩)] w fun e w' => e = .returned (if i = 0 then x else y) ∧ w = w' := by
  have KA := Lib.hid (at_i i A c x y w hi hx hu hv)
  clear hx hu hv
  generalize (if i = 0 then x else y) = z at *
  go_enter Tryd.func47, Tryd.ntmps47
  go_wp2_with (refine KA.out.mono ?_; rintro e w2 ⟨rfl, rfl⟩)
  go_ret
  exact ⟨rfl, rfl⟩

set_option maxRecDepth 100000 in
theorem pair_yes (A : Option Addr) (c : Nat) (x y : Value) (w : World) (hx : Rd w A 2 c 1 [x, y]) (hu : IsI x) (hv : IsI y) :
    Calls Tryd.prog 36 #[.iface 36 (.slice A 2 c)] w fun e w' => e = .returned (.tuple #[x, y, .bool true]) ∧ Below w.heap.size w w' := by
  obtain ⟨hB, hca⟩ := one_cells w #[.iface 36 (.slice A 2 c)] 20
  have k0 := hca 0 (.iface 36 (.slice A 2 c)) rfl
  replace hx := hx.below hB
  have h1 : ∀ u ∈ [x, y], u.oneCell' = true := by
    intro u hm
    simp only [List.mem_cons, List.not_mem_nil, or_false] at hm
    rcases hm with rfl | rfl
    · exact hu.one
    · exact hv.one
  clear hca
  go_enter Tryd.func36, Tryd.ntmps36
  go_upto_region 1 with fail
  generalize w.alloc (.cells #[.iface 36 (.slice A 2 c)] 20) = w0 at *
  go_wp2_with fail
  refine (list_any A 2 c _ _ hx h1 (by omega)).mono ?_
  rintro e w1 ⟨v, rfl, ho, hb⟩
  obtain ⟨A2, c2, rfl, -, -⟩ := Rd.of_own ho
  replace hB := below_trans hB hb
  replace hx := hx.below hb
  replace k0 := cell_below hb k0
  clear ho hb
  go_wp2_with fail
  refine (pair1_i 0 _ A c x y _ (by omega) k0 hx hu hv).mono ?_
  rintro e w2 ⟨rfl, rfl⟩
  rw [if_pos rfl]
  go_wp2_with fail
  refine (pair1_i 1 _ A c x y _ (by omega) k0 hx hu hv).mono ?_
  rintro e w2 ⟨rfl, rfl⟩
  rw [if_neg (by decide)]
  go_wp2_with fail
  go_ret3
  exact ⟨rfl, hB⟩

set_option maxRecDepth 100000 in
theorem pair_len (A : Option Addr) (n c : Nat) (xs : List Value) (w : World) (hx : Rd w A n c 1 xs) (h1 : ∀ u ∈ xs, u.oneCell' = true) (hn : n * 16 ≤ 140737488355328) (h2 : n ≠ 2) :
    Calls Tryd.prog 36 #[.iface 36 (.slice A n c)] w fun e w' => e = .returned (.tuple #[.nilIface, .nilIface, .bool false]) ∧ Below w.heap.size w w' := by
  obtain ⟨hB, hca⟩ := one_cells w #[.iface 36 (.slice A n c)] 20
  have k0 := hca 0 (.iface 36 (.slice A n c)) rfl
  replace hx := hx.below hB
  have h2' : ((n : Int) == 2) = false := by rw [beq_eq_false_iff_ne]; omega
  have h2n : ((n : Int) != 2) = true := by rw [bne, h2']; rfl
  clear hca h2
  go_enter Tryd.func36, Tryd.ntmps36
  go_upto_region 1 with fail
  generalize w.alloc (.cells #[.iface 36 (.slice A n c)] 20) = w0 at *
  go_wp2_with fail
  refine (list_any A n c _ _ hx h1 hn).mono ?_
  rintro e w1 ⟨v, rfl, ho, hb⟩
  obtain ⟨A2, c2, rfl, -, -⟩ := Rd.of_own ho
  replace hB := below_trans hB hb
  clear ho hb hx h1 hn
  go_wp2_with fail
  go_ret3
  exact ⟨rfl, hB⟩

set_option maxRecDepth 100000 in
theorem pair_no (u : Value) (w : World) (h : NoT u 36) :
    Calls Tryd.prog 36 #[u] w fun e w' => e = .returned (.tuple #[.nilIface, .nilIface, .bool false]) ∧ Below w.heap.size w w' := by
  have KL : ∀ W, Hid (Calls Tryd.prog 26 #[u] W fun e w' => e = .returned (.tuple #[.slice none 0 0, .bool false]) ∧ W = w') := fun W => Lib.hid (list_no u W h)
  rcases h with rfl | ⟨t', v, rfl, -⟩
  · obtain ⟨hB, hca⟩ := one_cells w #[.nilIface] 20
    have k0 := hca 0 (.nilIface) rfl
    clear hca
    go_enter Tryd.func36, Tryd.ntmps36
    go_upto_region 1 with fail
    generalize w.alloc (.cells #[.nilIface] 20) = w0 at *
    go_wp2_with fail
    refine (KL _).out.mono ?_
    rintro e w1 ⟨rfl, rfl⟩
    go_wp2_with fail
    go_ret3
    exact ⟨rfl, hB⟩
  · obtain ⟨hB, hca⟩ := one_cells w #[.iface t' v] 20
    have k0 := hca 0 (.iface t' v) rfl
    clear hca
    go_enter Tryd.func36, Tryd.ntmps36
    go_upto_region 1 with fail
    generalize w.alloc (.cells #[.iface t' v] 20) = w0 at *
    go_wp2_with fail
    refine (KL _).out.mono ?_
    rintro e w1 ⟨rfl, rfl⟩
    go_wp2_with fail
    go_ret3
    exact ⟨rfl, hB⟩
end Go.Proofs.YtieigjlbjiielaaDoor
