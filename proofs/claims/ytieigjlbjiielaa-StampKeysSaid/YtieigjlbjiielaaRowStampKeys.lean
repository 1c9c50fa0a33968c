/-
  The law 'StampKeys' returns true for every input, and each argument reads behind the call as it read before. No condition.
-/
import Derived.Test.YtieigjlbjiielaaRows
import Derived.WalkKit
import Derived.ProofKit
import Derived.OpenShut
import Derived.ShutString
import Derived.ChangeOld
import Derived.Below
import Derived.Test.YtieigjlbjiielaaOpen
import Derived.Test.YtieigjlbjiielaaStamp10
namespace Go.Proofs.Ytieigjlbjiielaa.stampKeys
open Go.ChangeShapes Go.WideShapes Go.ChangeAt Go.RowKit
open Go.ChangeMaps (open_string shut_string)
set_option linter.unusedVariables false

theorem own : ownKnob Try.prog.godebug = none := by kernel_rfl
theorem laidOut : laidOutB Try.prog = true := by kernel_rfl

theorem walk (cs0 : List Value) (x0 : Ty.El (.cons (.st (.cons (.int .i64) (.cons .str (.cons (.int .u64) (.cons (.int .u64) .nil))))) (.cons (.st (.cons (.int .i64) (.cons .str (.cons (.int .u64) (.cons (.int .u64) .nil))))) (.cons (.st (.cons (.int .u64) (.cons (.int .u64) .nil))) (.cons (.st (.cons (.int .u64) (.cons (.int .u64) .nil))) .nil))))) (w : World) (h0 : Ty.Reads w (.cons (.st (.cons (.int .i64) (.cons .str (.cons (.int .u64) (.cons (.int .u64) .nil))))) (.cons (.st (.cons (.int .i64) (.cons .str (.cons (.int .u64) (.cons (.int .u64) .nil))))) (.cons (.st (.cons (.int .u64) (.cons (.int .u64) .nil))) (.cons (.st (.cons (.int .u64) (.cons (.int .u64) .nil))) .nil)))) cs0 x0) :
    Calls Try.prog 4 #[.agg cs0.toArray] w fun e w' => e = .returned (.bool true) ∧ Below w.heap.size w w' := by
  obtain ⟨⟨sa, na, da, va, ua⟩, ⟨sb, nb, db, vb, ub⟩, ⟨s1, s2, us⟩, ⟨t1, t2, ut⟩, u⟩ := x0
  obtain ⟨_, _, rfl, ⟨_, _, rfl, ⟨rfl, w1⟩, _, _, rfl, ⟨rfl, w2⟩, _, _, rfl, ⟨rfl, w3⟩, _, _, rfl, ⟨rfl, w4⟩, rfl⟩, _, _, rfl, ⟨_, _, rfl, ⟨rfl, w5⟩, _, _, rfl, ⟨rfl, w6⟩, _, _, rfl, ⟨rfl, w7⟩, _, _, rfl, ⟨rfl, w8⟩, rfl⟩, _, _, rfl, ⟨_, _, rfl, ⟨rfl, w9⟩, _, _, rfl, ⟨rfl, w10⟩, rfl⟩, _, _, rfl, ⟨_, _, rfl, ⟨rfl, w11⟩, _, _, rfl, ⟨rfl, w12⟩, rfl⟩, rfl⟩ := h0
  dsimp only at w1 w2 w3 w4 w5 w6 w7 w8 w9 w10 w11 w12 ⊢
  obtain ⟨da, rfl, h3⟩ := u64_opened w3
  obtain ⟨va, rfl, h4⟩ := u64_opened w4
  obtain ⟨db, rfl, h7⟩ := u64_opened w7
  obtain ⟨vb, rfl, h8⟩ := u64_opened w8
  obtain ⟨s1, rfl, h9⟩ := u64_opened w9
  obtain ⟨s2, rfl, h10⟩ := u64_opened w10
  obtain ⟨t1, rfl, h11⟩ := u64_opened w11
  obtain ⟨t2, rfl, h12⟩ := u64_opened w12
  obtain ⟨⟨na⟩⟩ := na
  obtain ⟨⟨nb⟩⟩ := nb
  have b1 := bounds_i64 w1
  have b5 := bounds_i64 w5
  exact stampkeys_law sa na da va sb nb db vb s1 s2 t1 t2 w w2 w6 (by omega) (by omega) h3 h4 h7 h8 h9 h10 h11 h12


set_option maxRecDepth 100000 in
theorem lifted (os : Os) (started : os.Started) (H : Type) (enc : TypeId × Value → H) :
    ReturnsInHanded {} Try.checked os 4 .any (Rows.stampKeysSpec.pre6 enc Try.prog Try.f4 Rows.stampKeysRow.domain false) (Rows.stampKeysSpec.post enc Try.prog Try.f4 false true false false) := by
  refine returnsInHanded_of_change (C := Try.checked) own started (by kernel_rfl) Try.func4
    (ChangeSpec.witness6 (enc := enc) (C := Try.checked) false ⟨#[], #[.agg #[.int .i64 0, .string ByteArray.empty, .int .u64 0, .int .u64 0, .int .i64 0, .string ByteArray.empty, .int .u64 0, .int .u64 0, .int .u64 0, .int .u64 0, .int .u64 0, .int .u64 0]], []⟩ 8 (by kernel_rfl) (by kernel_rfl) (by kernel_rfl) (by kernel_rfl)) ?_
  intro W base args ds gs before hval0 hW hcnd _
  have hval : ∀ (j : Nat) t v, Try.f4.params[j]? = some t → args[j]? = some v → Value.okWide Try.prog W .any base t v := hval0
  have hW' := hW
  obtain ⟨p, q, hA0, hV, rfl, hfz, hnd⟩ := hW
  have hA : DataW.TrodAll enc Try.prog W 0 (fun _ => true) true Try.f4.params.toList args.toList ds p := hA0
  rw [Try.params4] at hA hval
  obtain ⟨v0, vs0, d0, ds0, p0, q0, hargs, rfl, rfl, h0, r0⟩ := trodAll_cons hA
  obtain ⟨rfl, rfl, rfl⟩ := trodAll_nil r0
  obtain rfl : args = #[v0] := by cases args; simp_all
  obtain ⟨rfl, rfl⟩ := trodVars_none hV
  have k0 := h0
  have lt0 : ∀ x ∈ p0, x.block < W.heap.size := by obtain ⟨m, hm⟩ := k0; exact DataW.trod_lt m _ _ _ hm
  obtain ⟨cs0, x0, rfl, hh0⟩ := open_st (.cons (.st (.cons (.int .i64) (.cons .str (.cons (.int .u64) (.cons (.int .u64) .nil))))) (.cons (.st (.cons (.int .i64) (.cons .str (.cons (.int .u64) (.cons (.int .u64) .nil))))) (.cons (.st (.cons (.int .u64) (.cons (.int .u64) .nil))) (.cons (.st (.cons (.int .u64) (.cons (.int .u64) .nil))) .nil)))) Try.underlying31 (Ty.fits_st Try.underlying31 (by kernel_rfl) (Ty.fits_cons rfl (by kernel_rfl) (Ty.fits_st Try.underlying29 (by kernel_rfl) (Ty.fits_cons rfl (by kernel_rfl) (Ty.fits_int Try.underlying3) (Ty.fits_cons rfl (by kernel_rfl) (Ty.fits_str Try.underlying9) (Ty.fits_cons rfl (by kernel_rfl) (Ty.fits_int Try.underlying22) (Ty.fits_cons rfl (by kernel_rfl) (Ty.fits_int Try.underlying22) Ty.fits_nil))))) (Ty.fits_cons rfl (by kernel_rfl) (Ty.fits_st Try.underlying29 (by kernel_rfl) (Ty.fits_cons rfl (by kernel_rfl) (Ty.fits_int Try.underlying3) (Ty.fits_cons rfl (by kernel_rfl) (Ty.fits_str Try.underlying9) (Ty.fits_cons rfl (by kernel_rfl) (Ty.fits_int Try.underlying22) (Ty.fits_cons rfl (by kernel_rfl) (Ty.fits_int Try.underlying22) Ty.fits_nil))))) (Ty.fits_cons rfl (by kernel_rfl) (Ty.fits_st Try.underlying24 (by kernel_rfl) (Ty.fits_cons rfl (by kernel_rfl) (Ty.fits_int Try.underlying22) (Ty.fits_cons rfl (by kernel_rfl) (Ty.fits_int Try.underlying22) Ty.fits_nil))) (Ty.fits_cons rfl (by kernel_rfl) (Ty.fits_st Try.underlying24 (by kernel_rfl) (Ty.fits_cons rfl (by kernel_rfl) (Ty.fits_int Try.underlying22) (Ty.fits_cons rfl (by kernel_rfl) (Ty.fits_int Try.underlying22) Ty.fits_nil))) Ty.fits_nil))))) (hval 0 31 v0 rfl rfl) h0
  clear hA0 hval0
  refine (walk cs0 x0 W hh0).mono fun e W' ⟨he, bel⟩ => ?_
  subst he
  exact ⟨_, rfl, _, _, _, [], _, [], hW', trodAll_mk1 (shut_bool Try.underlying4 _), (trodAll_cons_mk (Below.trod laidOut (by kernel_rfl) (of_decide_eq_true (by kernel_rfl)) k0 bel lt0) trodAll_mk0), rfl, bel.frame _, fun h => by cases h⟩

theorem over : Rows.stampKeysRow.holds Try.pinned (OpenSpec.ofChange Rows.stampKeysSpec) :=
  OpenClaim.holds_of_wide 4 Try.f4 rfl rfl rfl rfl rfl rfl rfl ⟨rfl, rfl, rfl, rfl, rfl⟩ rfl rfl rfl rfl rfl (by kernel_rfl) Try.func4 (by kernel_rfl)
    (of_decide_eq_true (by kernel_rfl)) (by unfold Func.isWrapper; first | (rw [if_pos (by decide +kernel)]; kernel_rfl) | (rw [if_neg (by decide +kernel)]; exact ⟨rfl, rfl⟩))
    (fun os started H enc _ => lifted os started H enc)

/-- THE STATEMENT. -/
theorem proved : Rows.StampKeysSaid := over
#print axioms proved
end Go.Proofs.Ytieigjlbjiielaa.stampKeys
