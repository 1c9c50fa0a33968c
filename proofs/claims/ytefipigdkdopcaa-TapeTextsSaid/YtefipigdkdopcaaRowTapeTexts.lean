/-
  The law 'TapeTexts' returns true for every input, and each argument reads behind the call as it read before. No condition.
-/
import Derived.Test.YtefipigdkdopcaaRows
import Derived.WalkKit
import Derived.ProofKit
import Derived.OpenShut
import Derived.ShutString
import Derived.ChangeOld
import Derived.Below
import Derived.Test.YtefipigdkdopcaaOpen
import Derived.Test.YtefipigdkdopcaaTapLaw3
namespace Go.Proofs.Ytefipigdkdopcaa.tapeTexts
open Go.ChangeShapes Go.WideShapes Go.ChangeAt Go.RowKit
open Go.ChangeMaps (open_string shut_string)
set_option linter.unusedVariables false

theorem own : ownKnob Try.prog.godebug = none := by kernel_rfl
theorem laidOut : laidOutB Try.prog = true := by kernel_rfl

theorem walk (cs0 : List Value) (x0 : Ty.El (.cons (.st (.cons (.int .i64) (.cons (.int .i64) (.cons (.int .i64) .nil)))) (.cons (.sl 3 (.int .i64)) (.cons (.sl 130 (.st (.cons (.int .i64) (.cons (.int .i64) (.cons (.sl 5 (.int .u8)) .nil))))) (.cons (.sl 78 (.st (.cons (.int .i64) (.cons .str (.cons (.int .i64) (.cons (.int .u64) (.cons (.int .u64) .nil))))))) .nil))))) (cs1 : List Value) (x1 : Ty.El (.cons (.st (.cons (.int .i64) (.cons (.int .i64) (.cons (.int .i64) .nil)))) (.cons (.sl 3 (.int .i64)) (.cons (.sl 130 (.st (.cons (.int .i64) (.cons (.int .i64) (.cons (.sl 5 (.int .u8)) .nil))))) (.cons (.sl 78 (.st (.cons (.int .i64) (.cons .str (.cons (.int .i64) (.cons (.int .u64) (.cons (.int .u64) .nil))))))) .nil))))) (w : World) (h0 : Ty.Reads w (.cons (.st (.cons (.int .i64) (.cons (.int .i64) (.cons (.int .i64) .nil)))) (.cons (.sl 3 (.int .i64)) (.cons (.sl 130 (.st (.cons (.int .i64) (.cons (.int .i64) (.cons (.sl 5 (.int .u8)) .nil))))) (.cons (.sl 78 (.st (.cons (.int .i64) (.cons .str (.cons (.int .i64) (.cons (.int .u64) (.cons (.int .u64) .nil))))))) .nil)))) cs0 x0) (h1 : Ty.Reads w (.cons (.st (.cons (.int .i64) (.cons (.int .i64) (.cons (.int .i64) .nil)))) (.cons (.sl 3 (.int .i64)) (.cons (.sl 130 (.st (.cons (.int .i64) (.cons (.int .i64) (.cons (.sl 5 (.int .u8)) .nil))))) (.cons (.sl 78 (.st (.cons (.int .i64) (.cons .str (.cons (.int .i64) (.cons (.int .u64) (.cons (.int .u64) .nil))))))) .nil)))) cs1 x1) :
    Calls Try.prog 12 #[.agg cs0.toArray, .agg cs1.toArray] w fun e w' => e = .returned (.bool true) ∧ Below w.heap.size w w' := by
  obtain ⟨x, y, z, bl, fs, ss, B, b1, b2, F, f1, f2, S, s1, s2, e0, hx, ha⟩ := sc_opened (x := x0) h0
  obtain ⟨x', y', z', bl', fs', ss', B', b1', b2', F', f1', f2', S', s1', s2', e1, hy, hb⟩ := sc_opened (x := x1) h1
  rw [e0, e1]
  exact tapetexts_law x y z bl fs ss B b1 b2 F f1 f2 S s1 s2 x' y' z' bl' fs' ss' B' b1' b2' F' f1' f2' S' s1' s2' w ⟨hx, ha⟩ ⟨hy, hb⟩


set_option maxRecDepth 100000 in
theorem lifted (os : Os) (started : os.Started) (H : Type) (enc : TypeId × Value → H) :
    ReturnsInHanded {} Try.checked os 12 .any (Rows.tapeTextsSpec.pre6 enc Try.prog Try.f12 Rows.tapeTextsRow.domain false) (Rows.tapeTextsSpec.post enc Try.prog Try.f12 false true false false) := by
  refine returnsInHanded_of_change (C := Try.checked) own started (by kernel_rfl) Try.func12
    (ChangeSpec.witness6 (enc := enc) (C := Try.checked) false ⟨#[], #[.agg #[.int .i64 0, .int .i64 0, .int .i64 0, .slice none 0 0, .slice none 0 0, .slice none 0 0], .agg #[.int .i64 0, .int .i64 0, .int .i64 0, .slice none 0 0, .slice none 0 0, .slice none 0 0]], []⟩ 8 (by kernel_rfl) (by kernel_rfl) (by kernel_rfl) (by kernel_rfl)) ?_
  intro W base args ds gs before hval0 hW hcnd _
  have hval : ∀ (j : Nat) t v, Try.f12.params[j]? = some t → args[j]? = some v → Value.okWide Try.prog W .any base t v := hval0
  have hW' := hW
  obtain ⟨p, q, hA0, hV, rfl, hfz, hnd⟩ := hW
  have hA : DataW.TrodAll enc Try.prog W 0 (fun _ => true) true Try.f12.params.toList args.toList ds p := hA0
  rw [Try.params12] at hA hval
  obtain ⟨v0, vs0, d0, ds0, p0, q0, hargs, rfl, rfl, h0, r0⟩ := trodAll_cons hA
  obtain ⟨v1, vs1, d1, ds1, p1, q1, rfl, rfl, rfl, h1, r1⟩ := trodAll_cons r0
  obtain ⟨rfl, rfl, rfl⟩ := trodAll_nil r1
  obtain rfl : args = #[v0, v1] := by cases args; simp_all
  obtain ⟨rfl, rfl⟩ := trodVars_none hV
  have k0 := h0
  have lt0 : ∀ x ∈ p0, x.block < W.heap.size := by obtain ⟨m, hm⟩ := k0; exact DataW.trod_lt m _ _ _ hm
  obtain ⟨cs0, x0, rfl, hh0⟩ := open_st (.cons (.st (.cons (.int .i64) (.cons (.int .i64) (.cons (.int .i64) .nil)))) (.cons (.sl 3 (.int .i64)) (.cons (.sl 130 (.st (.cons (.int .i64) (.cons (.int .i64) (.cons (.sl 5 (.int .u8)) .nil))))) (.cons (.sl 78 (.st (.cons (.int .i64) (.cons .str (.cons (.int .i64) (.cons (.int .u64) (.cons (.int .u64) .nil))))))) .nil)))) Try.underlying69 (Ty.fits_st Try.underlying69 (by kernel_rfl) (Ty.fits_cons rfl (by kernel_rfl) (Ty.fits_st Try.underlying65 (by kernel_rfl) (Ty.fits_cons rfl (by kernel_rfl) (Ty.fits_int Try.underlying3) (Ty.fits_cons rfl (by kernel_rfl) (Ty.fits_int Try.underlying3) (Ty.fits_cons rfl (by kernel_rfl) (Ty.fits_int Try.underlying3) Ty.fits_nil)))) (Ty.fits_cons rfl (by kernel_rfl) (Ty.fits_sl Try.underlying45 (by kernel_rfl) (Ty.fits_int Try.underlying3)) (Ty.fits_cons rfl (by kernel_rfl) (Ty.fits_sl Try.underlying66 (by kernel_rfl) (Ty.fits_st Try.underlying130 (by kernel_rfl) (Ty.fits_cons rfl (by kernel_rfl) (Ty.fits_int Try.underlying3) (Ty.fits_cons rfl (by kernel_rfl) (Ty.fits_int Try.underlying3) (Ty.fits_cons rfl (by kernel_rfl) (Ty.fits_sl Try.underlying53 (by kernel_rfl) (Ty.fits_int Try.underlying5)) Ty.fits_nil))))) (Ty.fits_cons rfl (by kernel_rfl) (Ty.fits_sl Try.underlying67 (by kernel_rfl) (Ty.fits_st Try.underlying78 (by kernel_rfl) (Ty.fits_cons rfl (by kernel_rfl) (Ty.fits_int Try.underlying3) (Ty.fits_cons rfl (by kernel_rfl) (Ty.fits_str Try.underlying9) (Ty.fits_cons rfl (by kernel_rfl) (Ty.fits_int Try.underlying3) (Ty.fits_cons rfl (by kernel_rfl) (Ty.fits_int Try.underlying22) (Ty.fits_cons rfl (by kernel_rfl) (Ty.fits_int Try.underlying22) Ty.fits_nil))))))) Ty.fits_nil))))) (hval 0 69 v0 rfl rfl) h0
  have k1 := h1
  have lt1 : ∀ x ∈ p1, x.block < W.heap.size := by obtain ⟨m, hm⟩ := k1; exact DataW.trod_lt m _ _ _ hm
  obtain ⟨cs1, x1, rfl, hh1⟩ := open_st (.cons (.st (.cons (.int .i64) (.cons (.int .i64) (.cons (.int .i64) .nil)))) (.cons (.sl 3 (.int .i64)) (.cons (.sl 130 (.st (.cons (.int .i64) (.cons (.int .i64) (.cons (.sl 5 (.int .u8)) .nil))))) (.cons (.sl 78 (.st (.cons (.int .i64) (.cons .str (.cons (.int .i64) (.cons (.int .u64) (.cons (.int .u64) .nil))))))) .nil)))) Try.underlying69 (Ty.fits_st Try.underlying69 (by kernel_rfl) (Ty.fits_cons rfl (by kernel_rfl) (Ty.fits_st Try.underlying65 (by kernel_rfl) (Ty.fits_cons rfl (by kernel_rfl) (Ty.fits_int Try.underlying3) (Ty.fits_cons rfl (by kernel_rfl) (Ty.fits_int Try.underlying3) (Ty.fits_cons rfl (by kernel_rfl) (Ty.fits_int Try.underlying3) Ty.fits_nil)))) (Ty.fits_cons rfl (by kernel_rfl) (Ty.fits_sl Try.underlying45 (by kernel_rfl) (Ty.fits_int Try.underlying3)) (Ty.fits_cons rfl (by kernel_rfl) (Ty.fits_sl Try.underlying66 (by kernel_rfl) (Ty.fits_st Try.underlying130 (by kernel_rfl) (Ty.fits_cons rfl (by kernel_rfl) (Ty.fits_int Try.underlying3) (Ty.fits_cons rfl (by kernel_rfl) (Ty.fits_int Try.underlying3) (Ty.fits_cons rfl (by kernel_rfl) (Ty.fits_sl Try.underlying53 (by kernel_rfl) (Ty.fits_int Try.underlying5)) Ty.fits_nil))))) (Ty.fits_cons rfl (by kernel_rfl) (Ty.fits_sl Try.underlying67 (by kernel_rfl) (Ty.fits_st Try.underlying78 (by kernel_rfl) (Ty.fits_cons rfl (by kernel_rfl) (Ty.fits_int Try.underlying3) (Ty.fits_cons rfl (by kernel_rfl) (Ty.fits_str Try.underlying9) (Ty.fits_cons rfl (by kernel_rfl) (Ty.fits_int Try.underlying3) (Ty.fits_cons rfl (by kernel_rfl) (Ty.fits_int Try.underlying22) (Ty.fits_cons rfl (by kernel_rfl) (Ty.fits_int Try.underlying22) Ty.fits_nil))))))) Ty.fits_nil))))) (hval 1 69 v1 rfl rfl) h1
  clear hA0 hval0
  refine (walk cs0 x0 cs1 x1 W hh0 hh1).mono fun e W' ⟨he, bel⟩ => ?_
  subst he
  exact ⟨_, rfl, _, _, _, [], _, [], hW', trodAll_mk1 (shut_bool Try.underlying4 _), (trodAll_cons_mk (Below.trod laidOut (by kernel_rfl) (of_decide_eq_true (by kernel_rfl)) k0 bel lt0) (trodAll_cons_mk (Below.trod laidOut (by kernel_rfl) (of_decide_eq_true (by kernel_rfl)) k1 bel lt1) trodAll_mk0)), rfl, bel.frame _, fun h => by cases h⟩

theorem over : Rows.tapeTextsRow.holds Try.pinned (OpenSpec.ofChange Rows.tapeTextsSpec) :=
  OpenClaim.holds_of_wide 12 Try.f12 rfl rfl rfl rfl rfl rfl rfl ⟨rfl, rfl, rfl, rfl, rfl⟩ rfl rfl rfl rfl rfl (by kernel_rfl) Try.func12 (by kernel_rfl)
    (of_decide_eq_true (by kernel_rfl)) (by unfold Func.isWrapper; first | (rw [if_pos (by decide +kernel)]; kernel_rfl) | (rw [if_neg (by decide +kernel)]; exact ⟨rfl, rfl⟩))
    (fun os started H enc _ => lifted os started H enc)

/-- THE STATEMENT. -/
theorem proved : Rows.TapeTextsSaid := over
#print axioms proved
end Go.Proofs.Ytefipigdkdopcaa.tapeTexts
