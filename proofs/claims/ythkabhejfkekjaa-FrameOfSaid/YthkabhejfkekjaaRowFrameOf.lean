/-
  The law 'FrameOf' returns true for every input, and each argument reads behind the call as it read before. No condition.
-/
import Derived.Test.YthkabhejfkekjaaRows
import Derived.WalkKit
import Derived.ProofKit
import Derived.OpenShut
import Derived.ShutString
import Derived.ChangeOld
import Derived.Below
import Derived.Test.YthkabhejfkekjaaOpen
import Derived.Test.YthkabhejfkekjaaFrameLaw
namespace Go.Proofs.Ythkabhejfkekjaa.frameOf
open Go.ChangeShapes Go.WideShapes Go.ChangeAt Go.RowKit
open Go.ChangeMaps (open_string shut_string)
set_option linter.unusedVariables false

theorem own : ownKnob Try.prog.godebug = none := by kernel_rfl
theorem laidOut : laidOutB Try.prog = true := by kernel_rfl

theorem walk (cs0 : List Value) (x0 : Ty.El (.cons (.int .u64) (.cons (.int .u64) (.cons (.sl 5 (.int .u8)) (.cons (.int .i64) .nil))))) (w : World) (h0 : Ty.Reads w (.cons (.int .u64) (.cons (.int .u64) (.cons (.sl 5 (.int .u8)) (.cons (.int .i64) .nil)))) cs0 x0) :
    Calls Try.prog 13 #[.agg cs0.toArray] w fun e w' => e = .returned (.bool true) ∧ Below w.heap.size w w' := by
  obtain ⟨id, first, xb, i, u⟩ := x0
  obtain ⟨_, _, rfl, ⟨rfl, w1⟩, _, _, rfl, ⟨rfl, w2⟩, _, _, rfl, ⟨A, c, all, rfl, hr, he⟩, _, _, rfl, ⟨rfl, w3⟩, rfl⟩ := h0
  dsimp only at w1 w2 w3 hr he ⊢
  obtain ⟨xs, hx⟩ := rdb_opened hr he
  obtain ⟨id, rfl, hid⟩ := u64_opened w1
  obtain ⟨first, rfl, hf⟩ := u64_opened w2
  exact frameof_law id first i xs A xb.length c w hx hid hf


set_option maxRecDepth 100000 in
theorem lifted (os : Os) (started : os.Started) (H : Type) (enc : TypeId × Value → H) :
    ReturnsInHanded {} Try.checked os 13 .any (Rows.frameOfSpec.pre6 enc Try.prog Try.f13 Rows.frameOfRow.domain false) (Rows.frameOfSpec.post enc Try.prog Try.f13 false true false false) := by
  refine returnsInHanded_of_change (C := Try.checked) own started (by kernel_rfl) Try.func13
    (ChangeSpec.witness6 (enc := enc) (C := Try.checked) false ⟨#[], #[.agg #[.int .u64 0, .int .u64 0, .slice none 0 0, .int .i64 0]], []⟩ 8 (by kernel_rfl) (by kernel_rfl) (by kernel_rfl) (by kernel_rfl)) ?_
  intro W base args ds gs before hval0 hW hcnd _
  have hval : ∀ (j : Nat) t v, Try.f13.params[j]? = some t → args[j]? = some v → Value.okWide Try.prog W .any base t v := hval0
  have hW' := hW
  obtain ⟨p, q, hA0, hV, rfl, hfz, hnd⟩ := hW
  have hA : DataW.TrodAll enc Try.prog W 0 (fun _ => true) true Try.f13.params.toList args.toList ds p := hA0
  rw [Try.params13] at hA hval
  obtain ⟨v0, vs0, d0, ds0, p0, q0, hargs, rfl, rfl, h0, r0⟩ := trodAll_cons hA
  obtain ⟨rfl, rfl, rfl⟩ := trodAll_nil r0
  obtain rfl : args = #[v0] := by cases args; simp_all
  obtain ⟨rfl, rfl⟩ := trodVars_none hV
  have k0 := h0
  have lt0 : ∀ x ∈ p0, x.block < W.heap.size := by obtain ⟨m, hm⟩ := k0; exact DataW.trod_lt m _ _ _ hm
  obtain ⟨cs0, x0, rfl, hh0⟩ := open_st (.cons (.int .u64) (.cons (.int .u64) (.cons (.sl 5 (.int .u8)) (.cons (.int .i64) .nil)))) Try.underlying76 (Ty.fits_st Try.underlying76 (by kernel_rfl) (Ty.fits_cons rfl (by kernel_rfl) (Ty.fits_int Try.underlying24) (Ty.fits_cons rfl (by kernel_rfl) (Ty.fits_int Try.underlying24) (Ty.fits_cons rfl (by kernel_rfl) (Ty.fits_sl Try.underlying22 (by kernel_rfl) (Ty.fits_int Try.underlying5)) (Ty.fits_cons rfl (by kernel_rfl) (Ty.fits_int Try.underlying3) Ty.fits_nil))))) (hval 0 76 v0 rfl rfl) h0
  clear hA0 hval0
  refine (walk cs0 x0 W hh0).mono fun e W' ⟨he, bel⟩ => ?_
  subst he
  exact ⟨_, rfl, _, _, _, [], _, [], hW', trodAll_mk1 (shut_bool Try.underlying4 _), (trodAll_cons_mk (Below.trod laidOut (by kernel_rfl) (of_decide_eq_true (by kernel_rfl)) k0 bel lt0) trodAll_mk0), rfl, bel.frame _, fun h => by cases h⟩

theorem over : Rows.frameOfRow.holds Try.pinned (OpenSpec.ofChange Rows.frameOfSpec) :=
  OpenClaim.holds_of_wide 13 Try.f13 rfl rfl rfl rfl rfl rfl rfl ⟨rfl, rfl, rfl, rfl, rfl⟩ rfl rfl rfl rfl rfl (by kernel_rfl) Try.func13 (by kernel_rfl)
    (of_decide_eq_true (by kernel_rfl)) (by unfold Func.isWrapper; first | (rw [if_pos (by decide +kernel)]; kernel_rfl) | (rw [if_neg (by decide +kernel)]; exact ⟨rfl, rfl⟩))
    (fun os started H enc _ => lifted os started H enc)

/-- THE STATEMENT. -/
theorem proved : Rows.FrameOfSaid := over
#print axioms proved
end Go.Proofs.Ythkabhejfkekjaa.frameOf
