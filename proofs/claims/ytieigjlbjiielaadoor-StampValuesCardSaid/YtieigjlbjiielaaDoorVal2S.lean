/- Values of interface type, seen from outside: contracts of item's readers. No condition. -/
import Derived.Test.YtieigjlbjiielaaDoorStamp4D
import Derived.Test.YtieigjlbjiielaaDoorHeld
import Derived.Deep.DeepCutAuto
import Derived.OwnWalk
namespace Go.Proofs.YtieigjlbjiielaaDoor
open Go.RowKit

/-- A value of interface type that is none of type t. -/
def NoT (u : Value) (t : TypeId) : Prop := u = .nilIface ∨ ∃ t' v, u = .iface t' v ∧ t' ≠ t
/-- A value of interface type. -/
def IsI (u : Value) : Prop := u = .nilIface ∨ ∃ t v, u = .iface t v
theorem NoT.isI {u : Value} {t : TypeId} (h : NoT u t) : IsI u := by
  rcases h with h | ⟨t', v, h, _⟩
  · exact .inl h
  · exact .inr ⟨t', v, h⟩
theorem IsI.one {u : Value} (h : IsI u) : u.oneCell' = true := by
  rcases h with rfl | ⟨t, v, rfl⟩ <;> rfl
theorem nil_noT (t : TypeId) : NoT .nilIface t := .inl rfl

theorem run_no_u64 {u : Value} (h : NoT u 22) (x : TypeId) (w : World) : (Instr.typeAssert u x 22 true).run Tryd.prog w = .ok (.tuple #[.int .u64 0, .bool false]) w := by
  rcases h with rfl | ⟨t', v, rfl, hn⟩ <;> simp_all [Instr.typeAssert, run_underlying Tryd.underlying22]
theorem run_no_str {u : Value} (h : NoT u 9) (x : TypeId) (w : World) : (Instr.typeAssert u x 9 true).run Tryd.prog w = .ok (.tuple #[.string ⟨#[]⟩, .bool false]) w := by
  rcases h with rfl | ⟨t', v, rfl, hn⟩ <;> simp_all [Instr.typeAssert, run_underlying Tryd.underlying9]
theorem run_no_list {u : Value} (h : NoT u 36) (x : TypeId) (w : World) : (Instr.typeAssert u x 36 true).run Tryd.prog w = .ok (.tuple #[.slice none 0 0, .bool false]) w := by
  rcases h with rfl | ⟨t', v, rfl, hn⟩ <;> simp_all [Instr.typeAssert, run_underlying Tryd.underlying36]

theorem uint_no (u : Value) (w : World) (h : NoT u 22) : Calls Tryd.prog 28 #[u] w fun e w' => e = .returned (.tuple #[.int .u64 0, .bool false]) ∧ w = w' := by
  have kt := fun x w => run_no_u64 h x w
  clear h
  go_enter Tryd.func28, Tryd.ntmps28
  go_wp2
  go_ret2
  exact ⟨rfl, rfl⟩

theorem text_yes (s : List UInt8) (w : World) : Calls Tryd.prog 38 #[.iface 9 (.string ⟨s.toArray⟩)] w fun e w' => e = .returned (.tuple #[.string ⟨s.toArray⟩, .bool true]) ∧ w = w' := by
  have kt := fun x w => run_ta (P := Tryd.prog) Tryd.underlying9 rfl (.string ⟨s.toArray⟩) x w
  go_enter Tryd.func38, Tryd.ntmps38
  go_wp2
  go_ret2
  exact ⟨rfl, rfl⟩
theorem text_not (u : Value) (w : World) (h : NoT u 9) : Calls Tryd.prog 38 #[u] w fun e w' => e = .returned (.tuple #[.string ⟨#[]⟩, .bool false]) ∧ w = w' := by
  have kt := fun x w => run_no_str h x w
  clear h
  go_enter Tryd.func38, Tryd.ntmps38
  go_wp2
  go_ret2
  exact ⟨rfl, rfl⟩

set_option maxRecDepth 100000 in
theorem list_any (A : Option Addr) (n c : Nat) (xs : List Value) (w : World) (hx : Rd w A n c 1 xs) (h1 : ∀ u ∈ xs, u.oneCell' = true) (hn : n * 16 ≤ 140737488355328) :
    Calls Tryd.prog 26 #[.iface 36 (.slice A n c)] w fun e w' => ∃ v, e = .returned (.tuple #[v, .bool true]) ∧ w'.ownsRow w.heap.size 20 1 v n xs ∧ Below w.heap.size w w' := by
  have hB := Below.refl w.heap.size w
  have own0 := World.ownsRow_nil w w.heap.size 20 1
  have kt := fun x w => run_ta (P := Tryd.prog) Tryd.underlying36 rfl (.slice A n c) x w
  have hm : 0 + n ≤ maxLen := by have := hx.nc; have := hx.cm; omega
  go_enter Tryd.func26, Tryd.ntmps26
  go_wp2_with (first
    | (at_builtin; refine wpl_append rfl (.const (.slice none 0 0)) (.tmp 11) 36 rfl w.heap.size 20 _ 1 16 Tryd.underlying36 info_any rfl (by decide) _ 0 [] rfl own0 A n c _ rfl hx h1 hm (by omega) (Nat.le_refl _) ?_; intro v1 w1 ho1 hg1; have hB1 := below_own hB own0 hg1; clear hg1))
  go_ret2
  refine ⟨_, rfl, ?_, hB1⟩
  rw [Nat.zero_add] at ho1
  exact ho1
set_option maxRecDepth 100000 in
theorem list_no (u : Value) (w : World) (h : NoT u 36) : Calls Tryd.prog 26 #[u] w fun e w' => e = .returned (.tuple #[.slice none 0 0, .bool false]) ∧ w = w' := by
  have own0 := World.ownsRow_nil w w.heap.size 20 1
  have kt := fun x w => run_no_list h x w
  clear h
  go_enter Tryd.func26, Tryd.ntmps26
  go_wp2_with (first
    | (at_builtin; refine wpList_append_own_none rfl (.const (.slice none 0 0)) (.tmp 11) 36 rfl w.heap.size 20 _ 1 (by kernel_rfl) Tryd.underlying36 _ 0 [] rfl own0 rfl ?_))
  go_ret2
  exact ⟨rfl, rfl⟩

end Go.Proofs.YtieigjlbjiielaaDoor
