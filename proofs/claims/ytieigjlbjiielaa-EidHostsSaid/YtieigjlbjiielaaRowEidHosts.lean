/-
  The law 'EidHosts' returns true for every input, and each argument reads behind the call as it read before. No condition.
-/
import Derived.Test.YtieigjlbjiielaaRows
import Derived.WalkKit
import Derived.ProofKit
import Derived.OpenShut
import Derived.ShutString
import Derived.Below
import Derived.Lib.LaidIn
import Derived.Deep.DeepHandedRow
import Derived.Deep.DeepWitnessRowRef
import Derived.SizedLaws
import Derived.Test.YtieigjlbjiielaaOpen
import Derived.Test.YtieigjlbjiielaaEid9
namespace Go.Proofs.Ytieigjlbjiielaa.eidHosts
open Go.ChangeShapes Go.WideShapes Go.ChangeAt Go.RowKit Go.Lib
open Go.ChangeMaps (open_string shut_string)
set_option linter.unusedVariables false

theorem own : ownKnob Try.prog.godebug = none := by kernel_rfl
theorem laidOut : laidOutB Try.prog = true := by kernel_rfl

theorem walk (cs0 : List Value) (x0 : Ty.El (.cons (.int .i64) (.cons .str (.cons (.int .u64) (.cons (.int .u64) .nil))))) (w : World) (h0 : Ty.Reads w (.cons (.int .i64) (.cons .str (.cons (.int .u64) (.cons (.int .u64) .nil)))) cs0 x0) (hS : w.ShapedOpen Try.prog) :
    Calls Try.prog 8 #[.agg cs0.toArray] w fun e w' => e = .returned (.bool true) ∧ Below w.heap.size w w' := by
  obtain ⟨sc, nm, nd, sv, u⟩ := x0
  obtain ⟨_, _, rfl, ⟨rfl, w1⟩, _, _, rfl, ⟨rfl, w2⟩, _, _, rfl, ⟨rfl, w3⟩, _, _, rfl, ⟨rfl, w4⟩, rfl⟩ := h0
  dsimp only at w1 w2 w3 w4 ⊢
  obtain ⟨nd, rfl, h3⟩ := u64_opened w3
  obtain ⟨sv, rfl, h4⟩ := u64_opened w4
  obtain ⟨⟨nm⟩⟩ := nm
  exact eidhosts_law sc nm nd sv w (Try.laysM145.s1_3 w hS) h3 h4


theorem witness_row (os : Os) {H : Type} (enc : TypeId × Value → H) :
    (OpenSpec.ofChange Rows.eidHostsSpec).preRow enc Try.prog Try.f8 Rows.eidHostsRow.domain false Rows.eidHostsRow.laid ((World.holding Try.prog os ⟨#[], #[], []⟩).forCall (fun _ _ => 0) ⟨#[], #[.agg #[.int .i64 0, .string ⟨#[]⟩, .int .u64 0, .int .u64 0]], []⟩).memory #[.agg #[.int .i64 0, .string ⟨#[]⟩, .int .u64 0, .int .u64 0]] := by
  have hw : (DataW.whole enc Try.prog ((World.holding Try.prog os ⟨#[], #[], []⟩).forCall (fun _ _ => 0) ⟨#[], #[.agg #[.int .i64 0, .string ⟨#[]⟩, .int .u64 0, .int .u64 0]], []⟩).memory Try.f8.params.toList (OpenSpec.ofChange Rows.eidHostsSpec).vars false (#[.agg #[.int .i64 0, .string ⟨#[]⟩, .int .u64 0, .int .u64 0]] : Array Value).toList 8).map (fun x => (x.1, x.2.1)) =
      some ([.agg [.lit (.int .i64 0), .lit (.string []), .lit (.int .u64 0), .lit (.int .u64 0)]], []) := by kernel_rfl
  obtain ⟨⟨x1, x2, x3⟩, hx, hx1⟩ := Option.map_eq_some_iff.1 hw
  simp only [Prod.mk.injEq] at hx1
  obtain ⟨rfl, rfl⟩ := hx1
  exact OpenSpec.preRow_of_cond 8 hx (by kernel_rfl) (fun k hk => by cases hk) (by kernel_rfl) (laidMet_nil _ _)

set_option maxRecDepth 100000 in
set_option maxHeartbeats 2000000 in
theorem lifted (os : Os) (started : os.Started) (H : Type) (enc : TypeId × Value → H) (F : Stop.Interp) :
    ReturnsInHanded {} Try.checked os 8 .any ((OpenSpec.ofChange Rows.eidHostsSpec).preRow enc Try.prog Try.f8 Rows.eidHostsRow.domain false Rows.eidHostsRow.laid) (((OpenSpec.ofChange Rows.eidHostsSpec).at F).post enc Try.prog Try.f8 false true false false) := by
  refine returnsInHanded_of_row (C := Try.checked) (s := (OpenSpec.ofChange Rows.eidHostsSpec)) own started (by kernel_rfl) Try.func8
    (witness_row_atRef (enc := enc) (C := Try.checked) false (World.holding Try.prog os ⟨#[], #[], []⟩) #[.agg #[.int .i64 0, .string ⟨#[]⟩, .int .u64 0, .int .u64 0]] rfl (by kernel_rfl) (by kernel_rfl) (by kernel_rfl) (witness_row os enc)) ?_
  intro W base args ds gs before hval0 hW _ _ _ hLd hSh _
  have hval : ∀ (j : Nat) t v, Try.f8.params[j]? = some t → args[j]? = some v → Value.okWide Try.prog W .any base t v := hval0
  have hW' := hW
  obtain ⟨p, q, hA0, hV, rfl, _, _⟩ := hW
  have hA : DataW.TrodAll enc Try.prog W 0 (fun _ => true) true Try.f8.params.toList args.toList ds p := hA0
  rw [Try.params8] at hA hval
  obtain ⟨v0, vs0, d0, ds0, p0, q0, hargs, rfl, rfl, h0, r0⟩ := trodAll_cons hA
  obtain ⟨rfl, rfl, rfl⟩ := trodAll_nil r0
  obtain rfl : args = #[v0] := by cases args; simp_all
  obtain ⟨rfl, rfl⟩ := trodVars_none hV
  have k0 := h0
  have lt0 : ∀ x ∈ p0, x.block < W.heap.size := by obtain ⟨m, hm⟩ := k0; exact DataW.trod_lt m _ _ _ hm
  obtain ⟨cs0, x0, rfl, hh0⟩ := open_st (.cons (.int .i64) (.cons .str (.cons (.int .u64) (.cons (.int .u64) .nil)))) Try.underlying29 (Ty.fits_st Try.underlying29 (by kernel_rfl) (Ty.fits_cons rfl (by kernel_rfl) (Ty.fits_int Try.underlying3) (Ty.fits_cons rfl (by kernel_rfl) (Ty.fits_str Try.underlying9) (Ty.fits_cons rfl (by kernel_rfl) (Ty.fits_int Try.underlying22) (Ty.fits_cons rfl (by kernel_rfl) (Ty.fits_int Try.underlying22) Ty.fits_nil))))) (hval 0 29 v0 rfl rfl) h0
  clear hA0 hval0
  refine (walk cs0 x0 W hh0 hSh).mono fun e W' ⟨he, bel⟩ => ?_
  subst he
  exact ⟨_, rfl, _, _, _, [], _, [], hW', trodAll_mk1 (shut_bool Try.underlying4 _), (trodAll_cons_mk (Below.trod laidOut (by kernel_rfl) (of_decide_eq_true (by kernel_rfl)) k0 bel lt0) trodAll_mk0), rfl, bel.frame _, fun h => by cases h⟩

theorem over : Rows.eidHostsRow.holds Try.pinned (OpenSpec.ofChange Rows.eidHostsSpec) :=
  OpenClaim.holds_of_cond 8 Try.f8 rfl rfl rfl rfl rfl rfl rfl ⟨rfl, rfl, rfl, rfl, rfl⟩ rfl rfl rfl rfl rfl (by kernel_rfl) Try.func8 (by kernel_rfl)
    (of_decide_eq_true (by kernel_rfl)) (by unfold Func.isWrapper; first | (rw [if_pos (by decide +kernel)]; kernel_rfl) | (rw [if_neg (of_decide_eq_false (by kernel_rfl))]; exact ⟨rfl, rfl⟩))
    (fun os started H enc _ F0 => by rw [OpenClaim.pre_eq_preRow]; exact lifted os started H enc F0)

/-- THE STATEMENT. -/
theorem proved : Rows.EidHostsSaid := over
#print axioms proved
end Go.Proofs.Ytieigjlbjiielaa.eidHosts
