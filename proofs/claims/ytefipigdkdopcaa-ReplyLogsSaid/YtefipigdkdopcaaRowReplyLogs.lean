/-
  The law 'ReplyLogs' returns true for every input, and each argument reads behind the call as it read before. No condition.
-/
import Derived.Test.YtefipigdkdopcaaRows
import Derived.WalkKit
import Derived.ProofKit
import Derived.OpenShut
import Derived.ShutString
import Derived.ChangeOld
import Derived.Below
import Derived.Test.YtefipigdkdopcaaOpen
import Derived.Test.YtefipigdkdopcaaRepLaw4
namespace Go.Proofs.Ytefipigdkdopcaa.replyLogs
open Go.ChangeShapes Go.WideShapes Go.ChangeAt Go.RowKit
open Go.ChangeMaps (open_string shut_string)
set_option linter.unusedVariables false

theorem own : ownKnob Try.prog.godebug = none := by kernel_rfl
theorem laidOut : laidOutB Try.prog = true := by kernel_rfl

theorem walk (a0 : Option Addr) (c0 : Nat) (all0 : List Value) (x0 : List (Ty.El (.st (.cons (.int .i64) (.cons (.int .u64) (.cons (.sl 100 (.st (.cons (.int .u64) (.cons (.int .u64) (.cons (.int .i64) (.cons (.int .i64) (.cons .str .nil))))))) (.cons (.sl 109 (.arr 2 22 (.int .u64))) (.cons (.sl 3 (.int .i64)) .nil)))))))) (w : World) (r0 : Rd w a0 x0.length c0 (Ty.size (.st (.cons (.int .i64) (.cons (.int .u64) (.cons (.sl 100 (.st (.cons (.int .u64) (.cons (.int .u64) (.cons (.int .i64) (.cons (.int .i64) (.cons .str .nil))))))) (.cons (.sl 109 (.arr 2 22 (.int .u64))) (.cons (.sl 3 (.int .i64)) .nil))))))) all0) (e0 : ∀ i (h : i < x0.length), Ty.Reads w (.st (.cons (.int .i64) (.cons (.int .u64) (.cons (.sl 100 (.st (.cons (.int .u64) (.cons (.int .u64) (.cons (.int .i64) (.cons (.int .i64) (.cons .str .nil))))))) (.cons (.sl 109 (.arr 2 22 (.int .u64))) (.cons (.sl 3 (.int .i64)) .nil)))))) ((all0.drop (i * (Ty.size (.st (.cons (.int .i64) (.cons (.int .u64) (.cons (.sl 100 (.st (.cons (.int .u64) (.cons (.int .u64) (.cons (.int .i64) (.cons (.int .i64) (.cons .str .nil))))))) (.cons (.sl 109 (.arr 2 22 (.int .u64))) (.cons (.sl 3 (.int .i64)) .nil))))))))).take (Ty.size (.st (.cons (.int .i64) (.cons (.int .u64) (.cons (.sl 100 (.st (.cons (.int .u64) (.cons (.int .u64) (.cons (.int .i64) (.cons (.int .i64) (.cons .str .nil))))))) (.cons (.sl 109 (.arr 2 22 (.int .u64))) (.cons (.sl 3 (.int .i64)) .nil)))))))) x0[i]) :
    Calls Try.prog 8 #[.slice a0 x0.length c0] w fun e w' => e = .returned (.bool true) ∧ Below w.heap.size w w' := by
  obtain ⟨l, hx, hr⟩ := rps_opened r0 e0
  exact replylogs_law l a0 x0.length c0 w hx hr


set_option maxRecDepth 100000 in
theorem lifted (os : Os) (started : os.Started) (H : Type) (enc : TypeId × Value → H) :
    ReturnsInHanded {} Try.checked os 8 .any (Rows.replyLogsSpec.pre6 enc Try.prog Try.f8 Rows.replyLogsRow.domain false) (Rows.replyLogsSpec.post enc Try.prog Try.f8 false true false false) := by
  refine returnsInHanded_of_change (C := Try.checked) own started (by kernel_rfl) Try.func8
    (ChangeSpec.witness6 (enc := enc) (C := Try.checked) false ⟨#[], #[.slice none 0 0], []⟩ 8 (by kernel_rfl) (by kernel_rfl) (by kernel_rfl) (by kernel_rfl)) ?_
  intro W base args ds gs before hval0 hW hcnd _
  have hval : ∀ (j : Nat) t v, Try.f8.params[j]? = some t → args[j]? = some v → Value.okWide Try.prog W .any base t v := hval0
  have hW' := hW
  obtain ⟨p, q, hA0, hV, rfl, hfz, hnd⟩ := hW
  have hA : DataW.TrodAll enc Try.prog W 0 (fun _ => true) true Try.f8.params.toList args.toList ds p := hA0
  rw [Try.params8] at hA hval
  obtain ⟨v0, vs0, d0, ds0, p0, q0, hargs, rfl, rfl, h0, r0⟩ := trodAll_cons hA
  obtain ⟨rfl, rfl, rfl⟩ := trodAll_nil r0
  obtain rfl : args = #[v0] := by cases args; simp_all
  obtain ⟨rfl, rfl⟩ := trodVars_none hV
  have k0 := h0
  have lt0 : ∀ x ∈ p0, x.block < W.heap.size := by obtain ⟨m, hm⟩ := k0; exact DataW.trod_lt m _ _ _ hm
  obtain ⟨a0, c0, all0, x0, rfl, r0x, e0⟩ := open_sl (.st (.cons (.int .i64) (.cons (.int .u64) (.cons (.sl 100 (.st (.cons (.int .u64) (.cons (.int .u64) (.cons (.int .i64) (.cons (.int .i64) (.cons .str .nil))))))) (.cons (.sl 109 (.arr 2 22 (.int .u64))) (.cons (.sl 3 (.int .i64)) .nil)))))) (Ty.fits_sl Try.underlying59 (by kernel_rfl) (Ty.fits_st Try.underlying47 (by kernel_rfl) (Ty.fits_cons rfl (by kernel_rfl) (Ty.fits_int Try.underlying25) (Ty.fits_cons rfl (by kernel_rfl) (Ty.fits_int Try.underlying22) (Ty.fits_cons rfl (by kernel_rfl) (Ty.fits_sl Try.underlying43 (by kernel_rfl) (Ty.fits_st Try.underlying100 (by kernel_rfl) (Ty.fits_cons rfl (by kernel_rfl) (Ty.fits_int Try.underlying22) (Ty.fits_cons rfl (by kernel_rfl) (Ty.fits_int Try.underlying22) (Ty.fits_cons rfl (by kernel_rfl) (Ty.fits_int Try.underlying3) (Ty.fits_cons rfl (by kernel_rfl) (Ty.fits_int Try.underlying3) (Ty.fits_cons rfl (by kernel_rfl) (Ty.fits_str Try.underlying9) Ty.fits_nil))))))) (Ty.fits_cons rfl (by kernel_rfl) (Ty.fits_sl Try.underlying44 (by kernel_rfl) (Ty.fits_arr Try.underlying109 (by kernel_rfl) (by kernel_rfl) (Ty.fits_int Try.underlying22))) (Ty.fits_cons rfl (by kernel_rfl) (Ty.fits_sl Try.underlying45 (by kernel_rfl) (Ty.fits_int Try.underlying3)) Ty.fits_nil))))))) (hval 0 59 v0 rfl rfl) h0
  clear hA0 hval0
  refine (walk a0 c0 all0 x0 W r0x e0).mono fun e W' ⟨he, bel⟩ => ?_
  subst he
  exact ⟨_, rfl, _, _, _, [], _, [], hW', trodAll_mk1 (shut_bool Try.underlying4 _), (trodAll_cons_mk (Below.trod laidOut (by kernel_rfl) (of_decide_eq_true (by kernel_rfl)) k0 bel lt0) trodAll_mk0), rfl, bel.frame _, fun h => by cases h⟩

theorem over : Rows.replyLogsRow.holds Try.pinned (OpenSpec.ofChange Rows.replyLogsSpec) :=
  OpenClaim.holds_of_wide 8 Try.f8 rfl rfl rfl rfl rfl rfl rfl ⟨rfl, rfl, rfl, rfl, rfl⟩ rfl rfl rfl rfl rfl (by kernel_rfl) Try.func8 (by kernel_rfl)
    (of_decide_eq_true (by kernel_rfl)) (by unfold Func.isWrapper; first | (rw [if_pos (by decide +kernel)]; kernel_rfl) | (rw [if_neg (by decide +kernel)]; exact ⟨rfl, rfl⟩))
    (fun os started H enc _ => lifted os started H enc)

/-- THE STATEMENT. -/
theorem proved : Rows.ReplyLogsSaid := over
#print axioms proved
end Go.Proofs.Ytefipigdkdopcaa.replyLogs
