/-
  The law 'FrameTurned' returns true for every input, and each argument reads behind the call as it read before. No condition.
-/
import Derived.Test.YthkabhejfkekjaaRows
import Derived.WalkKit
import Derived.ProofKit
import Derived.OpenShut
import Derived.ShutString
import Derived.ChangeOld
import Derived.Below
import Derived.Test.YthkabhejfkekjaaOpen
import Derived.Test.YthkabhejfkekjaaFrameLaw3
import Derived.Test.YthkabhejfkekjaaFrameOpen
namespace Go.Proofs.Ythkabhejfkekjaa.frameTurned
open Go.ChangeShapes Go.WideShapes Go.ChangeAt Go.RowKit
open Go.ChangeMaps (open_string shut_string)
set_option linter.unusedVariables false

theorem own : ownKnob Try.prog.godebug = none := by kernel_rfl
theorem laidOut : laidOutB Try.prog = true := by kernel_rfl

theorem walk (cs0 : List Value) (x0 : Ty.El (.cons (.st (.cons (.int .u64) (.cons (.int .u64) (.cons (.int .i64) (.cons (.int .i64) (.cons .str .nil)))))) (.cons (.int .u16) (.cons (.sl 66 (.st (.cons (.int .u64) (.cons (.int .u64) (.cons (.int .i64) (.cons (.int .i64) (.cons .str .nil))))))) (.cons (.sl 66 (.st (.cons (.int .u64) (.cons (.int .u64) (.cons (.int .i64) (.cons (.int .i64) (.cons .str .nil))))))) .nil))))) (w : World) (h0 : Ty.Reads w (.cons (.st (.cons (.int .u64) (.cons (.int .u64) (.cons (.int .i64) (.cons (.int .i64) (.cons .str .nil)))))) (.cons (.int .u16) (.cons (.sl 66 (.st (.cons (.int .u64) (.cons (.int .u64) (.cons (.int .i64) (.cons (.int .i64) (.cons .str .nil))))))) (.cons (.sl 66 (.st (.cons (.int .u64) (.cons (.int .u64) (.cons (.int .i64) (.cons (.int .i64) (.cons .str .nil))))))) .nil)))) cs0 x0) :
    Calls Try.prog 15 #[.agg cs0.toArray] w fun e w' => e = .returned (.bool true) ∧ Below w.heap.size w w' := by
  obtain ⟨⟨nu, id, o, t, d, v⟩, at_, x, y, u⟩ := x0
  obtain ⟨_, _, rfl, ⟨_, _, rfl, ⟨rfl, w1⟩, _, _, rfl, ⟨rfl, w2⟩, _, _, rfl, ⟨rfl, w3⟩, _, _, rfl, ⟨rfl, w4⟩, _, _, rfl, ⟨rfl, w5⟩, rfl⟩, _, _, rfl, ⟨rfl, w6⟩, _, _, rfl, ⟨A, c, all, rfl, hr, he⟩, _, _, rfl, ⟨B, k, all2, rfl, hr2, he2⟩, rfl⟩ := h0
  dsimp only at w1 w2 w3 w4 w5 w6 hr he hr2 he2 ⊢
  obtain ⟨fs, hx⟩ := fr_opened hr he
  obtain ⟨gs, hy⟩ := fr_opened hr2 he2
  obtain ⟨nu, rfl, _⟩ := u64_opened w1
  obtain ⟨id, rfl, _⟩ := u64_opened w2
  obtain ⟨at_, rfl, hat⟩ := u16_opened w6
  obtain ⟨⟨l⟩⟩ := d
  exact frameturned_law nu id o t l at_ fs gs A B x.length c y.length k w hx hy w5 hat


set_option maxRecDepth 100000 in
theorem lifted (os : Os) (started : os.Started) (H : Type) (enc : TypeId × Value → H) :
    ReturnsInHanded {} Try.checked os 15 .any (Rows.frameTurnedSpec.pre6 enc Try.prog Try.f15 Rows.frameTurnedRow.domain false) (Rows.frameTurnedSpec.post enc Try.prog Try.f15 false true false false) := by
  refine returnsInHanded_of_change (C := Try.checked) own started (by kernel_rfl) Try.func15
    (ChangeSpec.witness6 (enc := enc) (C := Try.checked) false ⟨#[], #[.agg #[.int .u64 0, .int .u64 0, .int .i64 0, .int .i64 0, .string ByteArray.empty, .int .u16 0, .slice none 0 0, .slice none 0 0]], []⟩ 8 (by kernel_rfl) (by kernel_rfl) (by kernel_rfl) (by kernel_rfl)) ?_
  intro W base args ds gs before hval0 hW hcnd _
  have hval : ∀ (j : Nat) t v, Try.f15.params[j]? = some t → args[j]? = some v → Value.okWide Try.prog W .any base t v := hval0
  have hW' := hW
  obtain ⟨p, q, hA0, hV, rfl, hfz, hnd⟩ := hW
  have hA : DataW.TrodAll enc Try.prog W 0 (fun _ => true) true Try.f15.params.toList args.toList ds p := hA0
  rw [Try.params15] at hA hval
  obtain ⟨v0, vs0, d0, ds0, p0, q0, hargs, rfl, rfl, h0, r0⟩ := trodAll_cons hA
  obtain ⟨rfl, rfl, rfl⟩ := trodAll_nil r0
  obtain rfl : args = #[v0] := by cases args; simp_all
  obtain ⟨rfl, rfl⟩ := trodVars_none hV
  have k0 := h0
  have lt0 : ∀ x ∈ p0, x.block < W.heap.size := by obtain ⟨m, hm⟩ := k0; exact DataW.trod_lt m _ _ _ hm
  obtain ⟨cs0, x0, rfl, hh0⟩ := open_st (.cons (.st (.cons (.int .u64) (.cons (.int .u64) (.cons (.int .i64) (.cons (.int .i64) (.cons .str .nil)))))) (.cons (.int .u16) (.cons (.sl 66 (.st (.cons (.int .u64) (.cons (.int .u64) (.cons (.int .i64) (.cons (.int .i64) (.cons .str .nil))))))) (.cons (.sl 66 (.st (.cons (.int .u64) (.cons (.int .u64) (.cons (.int .i64) (.cons (.int .i64) (.cons .str .nil))))))) .nil)))) Try.underlying86 (Ty.fits_st Try.underlying86 (by kernel_rfl) (Ty.fits_cons rfl (by kernel_rfl) (Ty.fits_st Try.underlying66 (by kernel_rfl) (Ty.fits_cons rfl (by kernel_rfl) (Ty.fits_int Try.underlying24) (Ty.fits_cons rfl (by kernel_rfl) (Ty.fits_int Try.underlying24) (Ty.fits_cons rfl (by kernel_rfl) (Ty.fits_int Try.underlying3) (Ty.fits_cons rfl (by kernel_rfl) (Ty.fits_int Try.underlying3) (Ty.fits_cons rfl (by kernel_rfl) (Ty.fits_str Try.underlying9) Ty.fits_nil)))))) (Ty.fits_cons rfl (by kernel_rfl) (Ty.fits_int Try.underlying25) (Ty.fits_cons rfl (by kernel_rfl) (Ty.fits_sl Try.underlying82 (by kernel_rfl) (Ty.fits_st Try.underlying66 (by kernel_rfl) (Ty.fits_cons rfl (by kernel_rfl) (Ty.fits_int Try.underlying24) (Ty.fits_cons rfl (by kernel_rfl) (Ty.fits_int Try.underlying24) (Ty.fits_cons rfl (by kernel_rfl) (Ty.fits_int Try.underlying3) (Ty.fits_cons rfl (by kernel_rfl) (Ty.fits_int Try.underlying3) (Ty.fits_cons rfl (by kernel_rfl) (Ty.fits_str Try.underlying9) Ty.fits_nil))))))) (Ty.fits_cons rfl (by kernel_rfl) (Ty.fits_sl Try.underlying82 (by kernel_rfl) (Ty.fits_st Try.underlying66 (by kernel_rfl) (Ty.fits_cons rfl (by kernel_rfl) (Ty.fits_int Try.underlying24) (Ty.fits_cons rfl (by kernel_rfl) (Ty.fits_int Try.underlying24) (Ty.fits_cons rfl (by kernel_rfl) (Ty.fits_int Try.underlying3) (Ty.fits_cons rfl (by kernel_rfl) (Ty.fits_int Try.underlying3) (Ty.fits_cons rfl (by kernel_rfl) (Ty.fits_str Try.underlying9) Ty.fits_nil))))))) Ty.fits_nil))))) (hval 0 86 v0 rfl rfl) h0
  clear hA0 hval0
  refine (walk cs0 x0 W hh0).mono fun e W' ⟨he, bel⟩ => ?_
  subst he
  exact ⟨_, rfl, _, _, _, [], _, [], hW', trodAll_mk1 (shut_bool Try.underlying4 _), (trodAll_cons_mk (Below.trod laidOut (by kernel_rfl) (of_decide_eq_true (by kernel_rfl)) k0 bel lt0) trodAll_mk0), rfl, bel.frame _, fun h => by cases h⟩

theorem over : Rows.frameTurnedRow.holds Try.pinned (OpenSpec.ofChange Rows.frameTurnedSpec) :=
  OpenClaim.holds_of_wide 15 Try.f15 rfl rfl rfl rfl rfl rfl rfl ⟨rfl, rfl, rfl, rfl, rfl⟩ rfl rfl rfl rfl rfl (by kernel_rfl) Try.func15 (by kernel_rfl)
    (of_decide_eq_true (by kernel_rfl)) (by unfold Func.isWrapper; first | (rw [if_pos (by decide +kernel)]; kernel_rfl) | (rw [if_neg (by decide +kernel)]; exact ⟨rfl, rfl⟩))
    (fun os started H enc _ => lifted os started H enc)

/-- THE STATEMENT. -/
theorem proved : Rows.FrameTurnedSaid := over
#print axioms proved
end Go.Proofs.Ythkabhejfkekjaa.frameTurned
