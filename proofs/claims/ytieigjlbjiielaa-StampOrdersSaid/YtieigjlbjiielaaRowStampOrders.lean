/-
  The law 'StampOrders' returns true for every input, and each argument reads behind the call as it read before. No condition.
-/
import Derived.Test.YtieigjlbjiielaaRows
import Derived.WalkKit
import Derived.ProofKit
import Derived.OpenShut
import Derived.ShutString
import Derived.ChangeOld
import Derived.Below
import Derived.Test.YtieigjlbjiielaaOpen
import Derived.Test.YtieigjlbjiielaaStamp6
namespace Go.Proofs.Ytieigjlbjiielaa.stampOrders
open Go.ChangeShapes Go.WideShapes Go.ChangeAt Go.RowKit
open Go.ChangeMaps (open_string shut_string)
set_option linter.unusedVariables false

theorem own : ownKnob Try.prog.godebug = none := by kernel_rfl
theorem laidOut : laidOutB Try.prog = true := by kernel_rfl

theorem walk (cs0 : List Value) (x0 : Ty.El (.cons (.int .u64) (.cons (.int .u64) .nil))) (cs1 : List Value) (x1 : Ty.El (.cons (.int .u64) (.cons (.int .u64) .nil))) (cs2 : List Value) (x2 : Ty.El (.cons (.int .u64) (.cons (.int .u64) .nil))) (w : World) (h0 : Ty.Reads w (.cons (.int .u64) (.cons (.int .u64) .nil)) cs0 x0) (h1 : Ty.Reads w (.cons (.int .u64) (.cons (.int .u64) .nil)) cs1 x1) (h2 : Ty.Reads w (.cons (.int .u64) (.cons (.int .u64) .nil)) cs2 x2) :
    Calls Try.prog 5 #[.agg cs0.toArray, .agg cs1.toArray, .agg cs2.toArray] w fun e w' => e = .returned (.bool true) ∧ Below w.heap.size w w' := by
  obtain ⟨t, q, u⟩ := x0
  obtain ⟨_, _, rfl, ⟨rfl, wt⟩, _, _, rfl, ⟨rfl, wq⟩, rfl⟩ := h0
  obtain ⟨t1, q1, u1⟩ := x1
  obtain ⟨_, _, rfl, ⟨rfl, wt1⟩, _, _, rfl, ⟨rfl, wq1⟩, rfl⟩ := h1
  obtain ⟨t2, q2, u2⟩ := x2
  obtain ⟨_, _, rfl, ⟨rfl, wt2⟩, _, _, rfl, ⟨rfl, wq2⟩, rfl⟩ := h2
  dsimp only at wt wq wt1 wq1 wt2 wq2 ⊢
  obtain ⟨t, rfl, ht⟩ := u64_opened wt
  obtain ⟨q, rfl, hq⟩ := u64_opened wq
  obtain ⟨t1, rfl, ht1⟩ := u64_opened wt1
  obtain ⟨q1, rfl, hq1⟩ := u64_opened wq1
  obtain ⟨t2, rfl, ht2⟩ := u64_opened wt2
  obtain ⟨q2, rfl, hq2⟩ := u64_opened wq2
  exact stamporders_law t q t1 q1 t2 q2 w


set_option maxRecDepth 100000 in
theorem lifted (os : Os) (started : os.Started) (H : Type) (enc : TypeId × Value → H) :
    ReturnsInHanded {} Try.checked os 5 .any (Rows.stampOrdersSpec.pre6 enc Try.prog Try.f5 Rows.stampOrdersRow.domain false) (Rows.stampOrdersSpec.post enc Try.prog Try.f5 false true false false) := by
  refine returnsInHanded_of_change (C := Try.checked) own started (by kernel_rfl) Try.func5
    (ChangeSpec.witness6 (enc := enc) (C := Try.checked) false ⟨#[], #[.agg #[.int .u64 0, .int .u64 0], .agg #[.int .u64 0, .int .u64 0], .agg #[.int .u64 0, .int .u64 0]], []⟩ 8 (by kernel_rfl) (by kernel_rfl) (by kernel_rfl) (by kernel_rfl)) ?_
  intro W base args ds gs before hval0 hW hcnd _
  have hval : ∀ (j : Nat) t v, Try.f5.params[j]? = some t → args[j]? = some v → Value.okWide Try.prog W .any base t v := hval0
  have hW' := hW
  obtain ⟨p, q, hA0, hV, rfl, hfz, hnd⟩ := hW
  have hA : DataW.TrodAll enc Try.prog W 0 (fun _ => true) true Try.f5.params.toList args.toList ds p := hA0
  rw [Try.params5] at hA hval
  obtain ⟨v0, vs0, d0, ds0, p0, q0, hargs, rfl, rfl, h0, r0⟩ := trodAll_cons hA
  obtain ⟨v1, vs1, d1, ds1, p1, q1, rfl, rfl, rfl, h1, r1⟩ := trodAll_cons r0
  obtain ⟨v2, vs2, d2, ds2, p2, q2, rfl, rfl, rfl, h2, r2⟩ := trodAll_cons r1
  obtain ⟨rfl, rfl, rfl⟩ := trodAll_nil r2
  obtain rfl : args = #[v0, v1, v2] := by cases args; simp_all
  obtain ⟨rfl, rfl⟩ := trodVars_none hV
  have k0 := h0
  have lt0 : ∀ x ∈ p0, x.block < W.heap.size := by obtain ⟨m, hm⟩ := k0; exact DataW.trod_lt m _ _ _ hm
  obtain ⟨cs0, x0, rfl, hh0⟩ := open_st (.cons (.int .u64) (.cons (.int .u64) .nil)) Try.underlying24 (Ty.fits_st Try.underlying24 (by kernel_rfl) (Ty.fits_cons rfl (by kernel_rfl) (Ty.fits_int Try.underlying22) (Ty.fits_cons rfl (by kernel_rfl) (Ty.fits_int Try.underlying22) Ty.fits_nil))) (hval 0 24 v0 rfl rfl) h0
  have k1 := h1
  have lt1 : ∀ x ∈ p1, x.block < W.heap.size := by obtain ⟨m, hm⟩ := k1; exact DataW.trod_lt m _ _ _ hm
  obtain ⟨cs1, x1, rfl, hh1⟩ := open_st (.cons (.int .u64) (.cons (.int .u64) .nil)) Try.underlying24 (Ty.fits_st Try.underlying24 (by kernel_rfl) (Ty.fits_cons rfl (by kernel_rfl) (Ty.fits_int Try.underlying22) (Ty.fits_cons rfl (by kernel_rfl) (Ty.fits_int Try.underlying22) Ty.fits_nil))) (hval 1 24 v1 rfl rfl) h1
  have k2 := h2
  have lt2 : ∀ x ∈ p2, x.block < W.heap.size := by obtain ⟨m, hm⟩ := k2; exact DataW.trod_lt m _ _ _ hm
  obtain ⟨cs2, x2, rfl, hh2⟩ := open_st (.cons (.int .u64) (.cons (.int .u64) .nil)) Try.underlying24 (Ty.fits_st Try.underlying24 (by kernel_rfl) (Ty.fits_cons rfl (by kernel_rfl) (Ty.fits_int Try.underlying22) (Ty.fits_cons rfl (by kernel_rfl) (Ty.fits_int Try.underlying22) Ty.fits_nil))) (hval 2 24 v2 rfl rfl) h2
  clear hA0 hval0
  refine (walk cs0 x0 cs1 x1 cs2 x2 W hh0 hh1 hh2).mono fun e W' ⟨he, bel⟩ => ?_
  subst he
  exact ⟨_, rfl, _, _, _, [], _, [], hW', trodAll_mk1 (shut_bool Try.underlying4 _), (trodAll_cons_mk (Below.trod laidOut (by kernel_rfl) (of_decide_eq_true (by kernel_rfl)) k0 bel lt0) (trodAll_cons_mk (Below.trod laidOut (by kernel_rfl) (of_decide_eq_true (by kernel_rfl)) k1 bel lt1) (trodAll_cons_mk (Below.trod laidOut (by kernel_rfl) (of_decide_eq_true (by kernel_rfl)) k2 bel lt2) trodAll_mk0))), rfl, bel.frame _, fun h => by cases h⟩

theorem over : Rows.stampOrdersRow.holds Try.pinned (OpenSpec.ofChange Rows.stampOrdersSpec) :=
  OpenClaim.holds_of_wide 5 Try.f5 rfl rfl rfl rfl rfl rfl rfl ⟨rfl, rfl, rfl, rfl, rfl⟩ rfl rfl rfl rfl rfl (by kernel_rfl) Try.func5 (by kernel_rfl)
    (of_decide_eq_true (by kernel_rfl)) (by unfold Func.isWrapper; first | (rw [if_pos (by decide +kernel)]; kernel_rfl) | (rw [if_neg (by decide +kernel)]; exact ⟨rfl, rfl⟩))
    (fun os started H enc _ => lifted os started H enc)

/-- THE STATEMENT. -/
theorem proved : Rows.StampOrdersSaid := over
#print axioms proved
end Go.Proofs.Ytieigjlbjiielaa.stampOrders
