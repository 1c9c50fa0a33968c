/-
  The law 'EidTexts' returns true for every input, and each argument reads behind the call as it read before; its tied card. Asked: what the library's variables hold (laid).
-/
import Derived.Test.YtieigjlbjiielaaDoorRows
import Derived.Test.YtieigjlbjiielaaDoorTie
import Derived.Test.YtieigjlbjiielaaDoorCards
import Derived.WalkKit
import Derived.ProofKit
import Derived.OpenShut
import Derived.ShutString
import Derived.Below
import Derived.Deep.DeepHandedRow
import Derived.Deep.DeepWitnessRowRef
import Derived.SizedLaws
import Derived.SevenTiedAt
import Derived.Test.YtieigjlbjiielaaDoorOpen
import Derived.Test.YtieigjlbjiielaaDoorLaidW
import Derived.Test.YtieigjlbjiielaaDoorLaidT
namespace Go.Proofs.YtieigjlbjiielaaDoor.eidTexts
open Go.ChangeShapes Go.WideShapes Go.ChangeAt Go.RowKit Go.Lib
open Go.ChangeMaps (open_string shut_string)
set_option linter.unusedVariables false

theorem own : ownKnob Tryd.prog.godebug = none := by kernel_rfl
theorem laidOut : laidOutB Tryd.prog = true := by kernel_rfl

theorem walk (cs0 : List Value) (x0 : Ty.El (.cons (.int .i64) (.cons .str (.cons (.int .u64) (.cons (.int .u64) .nil))))) (w : World) (h0 : Ty.Reads w (.cons (.int .i64) (.cons .str (.cons (.int .u64) (.cons (.int .u64) .nil)))) cs0 x0) (hLd : laidMet Tryd.prog Rows.eidTextsRow.laid w) (hS : w.ShapedOpen Tryd.prog) :
    Calls Tryd.prog 4 #[.agg cs0.toArray] w fun e w' => e = .returned (.bool true) ∧ Below w.heap.size w w' := by
  obtain ⟨sc, nm, nd, sv, u⟩ := x0
  obtain ⟨_, _, rfl, ⟨rfl, w1⟩, _, _, rfl, ⟨rfl, w2⟩, _, _, rfl, ⟨rfl, w3⟩, _, _, rfl, ⟨rfl, w4⟩, rfl⟩ := h0
  dsimp only at w1 w2 w3 w4 ⊢
  obtain ⟨nd, rfl, h3⟩ := u64_opened w3
  obtain ⟨sv, rfl, h4⟩ := u64_opened w4
  obtain ⟨⟨nm⟩⟩ := nm
  exact eidtexts_law sc nm nd sv w h3 h4 (lt_of_laid hLd hS)


theorem witness_row (os : Os) {H : Type} (enc : TypeId × Value → H) :
    (OpenSpec.ofChange Rows.eidTextsSpec).preRow enc Tryd.prog Tryd.f4 Rows.eidTextsRow.domain false Rows.eidTextsRow.laid ((laidWorld os).forCall (fun _ _ => 0) ⟨#[], #[.agg #[.int .i64 0, .string ⟨#[]⟩, .int .u64 0, .int .u64 0]], []⟩).memory #[.agg #[.int .i64 0, .string ⟨#[]⟩, .int .u64 0, .int .u64 0]] := by
  have hw : (DataW.whole enc Tryd.prog ((laidWorld os).forCall (fun _ _ => 0) ⟨#[], #[.agg #[.int .i64 0, .string ⟨#[]⟩, .int .u64 0, .int .u64 0]], []⟩).memory Tryd.f4.params.toList (OpenSpec.ofChange Rows.eidTextsSpec).vars false (#[.agg #[.int .i64 0, .string ⟨#[]⟩, .int .u64 0, .int .u64 0]] : Array Value).toList 8).map (fun x => (x.1, x.2.1)) =
      some ([.agg [.lit (.int .i64 0), .lit (.string []), .lit (.int .u64 0), .lit (.int .u64 0)]], []) := by kernel_rfl
  obtain ⟨⟨x1, x2, x3⟩, hx, hx1⟩ := Option.map_eq_some_iff.1 hw
  simp only [Prod.mk.injEq] at hx1
  obtain ⟨rfl, rfl⟩ := hx1
  exact OpenSpec.preRow_of_cond 8 hx (by kernel_rfl) (fun k hk => by cases hk) (by kernel_rfl) (laid_met os _)

set_option maxRecDepth 100000 in
set_option maxHeartbeats 2000000 in
theorem lifted (os : Os) (started : os.Started) (H : Type) (enc : TypeId × Value → H) (F : Stop.Interp) :
    ReturnsInHanded {} Tryd.checked os 4 .any ((OpenSpec.ofChange Rows.eidTextsSpec).preRow enc Tryd.prog Tryd.f4 Rows.eidTextsRow.domain false Rows.eidTextsRow.laid) (((OpenSpec.ofChange Rows.eidTextsSpec).at F).post enc Tryd.prog Tryd.f4 false true false false) := by
  refine returnsInHanded_of_row (C := Tryd.checked) (s := (OpenSpec.ofChange Rows.eidTextsSpec)) own started (by kernel_rfl) Tryd.func4
    (witness_row_atRef (enc := enc) (C := Tryd.checked) false (laidWorld os) #[.agg #[.int .i64 0, .string ⟨#[]⟩, .int .u64 0, .int .u64 0]] rfl (by kernel_rfl) (by kernel_rfl) (by kernel_rfl) (witness_row os enc)) ?_
  intro W base args ds gs before hval0 hW _ _ hsz0 hLd hSh _
  have hval : ∀ (j : Nat) t v, Tryd.f4.params[j]? = some t → args[j]? = some v → Value.okWide Tryd.prog W .any base t v := hval0
  have hW' := hW
  obtain ⟨p, q, hA0, hV0, rfl, _, _⟩ := hW
  have hA : DataW.TrodAll enc Tryd.prog W 0 (fun _ => true) true Tryd.f4.params.toList args.toList ds p := hA0
  rw [Tryd.params4] at hA hval
  obtain ⟨v0, vs0, d0, ds0, p0, q0, hargs, rfl, rfl, h0, r0⟩ := trodAll_cons hA
  obtain ⟨rfl, rfl, rfl⟩ := trodAll_nil r0
  obtain rfl : args = #[v0] := by cases args; simp_all
  obtain ⟨rfl, rfl⟩ := trodVars_none hV0
  have k0 := h0
  have lt0 : ∀ x ∈ p0, x.block < W.heap.size := by obtain ⟨m, hm⟩ := k0; exact DataW.trod_lt m _ _ _ hm
  obtain ⟨cs0, x0, rfl, hh0⟩ := open_st (.cons (.int .i64) (.cons .str (.cons (.int .u64) (.cons (.int .u64) .nil)))) Tryd.underlying40 (Ty.fits_st Tryd.underlying40 (by kernel_rfl) (Ty.fits_cons rfl (by kernel_rfl) (Ty.fits_int Tryd.underlying3) (Ty.fits_cons rfl (by kernel_rfl) (Ty.fits_str Tryd.underlying9) (Ty.fits_cons rfl (by kernel_rfl) (Ty.fits_int Tryd.underlying22) (Ty.fits_cons rfl (by kernel_rfl) (Ty.fits_int Tryd.underlying22) Ty.fits_nil))))) (hval 0 40 v0 rfl rfl) h0
  clear hA0 hval0
  refine (walk cs0 x0 W hh0 hLd hSh).mono fun e W' ⟨he, bel⟩ => ?_
  subst he
  exact ⟨_, rfl, _, _, _, [], _, [], hW', trodAll_mk1 (shut_bool Tryd.underlying4 _), (trodAll_cons_mk (Below.trod laidOut (by kernel_rfl) (of_decide_eq_true (by kernel_rfl)) k0 bel lt0) trodAll_mk0), rfl, bel.frame _, fun h => by cases h⟩

theorem over : Rows.EidTextsSaid :=
  OpenClaim.holds_of_cond 4 Tryd.f4 rfl rfl rfl rfl rfl rfl rfl ⟨rfl, rfl, rfl, rfl, rfl⟩ rfl rfl rfl rfl rfl (by kernel_rfl) Tryd.func4 (by kernel_rfl)
    (of_decide_eq_true (by kernel_rfl)) (by unfold Func.isWrapper; first | (rw [if_pos (by decide +kernel)]; kernel_rfl) | (rw [if_neg (of_decide_eq_false (by kernel_rfl))]; exact ⟨rfl, rfl⟩))
    (fun os started H enc _ F0 => by rw [OpenClaim.pre_eq_preRow]; exact lifted os started H enc F0)

theorem plainIn (j : Nat) (t : TypeId) (ht : (Tryd.f4.params)[j]? = some t) : Tryd.prog.wantsStandIn t = false := by
  rw [Tryd.params4] at ht
  match j, ht with
  | 0, ht => obtain rfl : 40 = t := by simpa using ht
             exact (show Tryd.prog.wantsStandIn 40 = false by kernel_rfl)
  | j + 1, ht => simp at ht

/-- THE TIED CARD. -/
theorem proved : Rows.EidTextsCardSaid :=
  Claim7.holds_tied_plain_at .later [] [.data, .pinned] true (true, "6ca0ed10f34cc7c749414e1685a93f254d6a8d401390befcacd67bcfd7b74abf") true
    over (fun _ h => by cases h) (by kernel_rfl) (fun _ h => by cases h) eidTexts_row_tie rfl ⟨rfl, rfl⟩ (by kernel_rfl) rfl
    (fun f fn hf hfn => by
      obtain rfl : f = 4 := Option.some.inj ((show Tryd.prog.funcNamed "wagtail/wagtaillaw07.EidTexts" = some 4 by kernel_rfl).symm.trans hf) |>.symm
      obtain rfl : fn = Tryd.f4 := (Option.some.inj (Tryd.func4.symm.trans hfn)).symm
      exact ⟨by kernel_rfl, plainIn⟩)
    (by kernel_rfl)
#print axioms proved
end Go.Proofs.YtieigjlbjiielaaDoor.eidTexts
