/-
  The law 'MetaPuts' returns true for every input, and each argument reads behind the call as it read before. No condition.
-/
import Derived.Test.YthkabhejfkekjaaRows
import Derived.WalkKit
import Derived.ProofKit
import Derived.OpenShut
import Derived.ShutString
import Derived.ChangeOld
import Derived.Below
import Derived.Test.YthkabhejfkekjaaOpen
import Derived.Test.YthkabhejfkekjaaMetaLaw2
namespace Go.Proofs.Ythkabhejfkekjaa.metaPuts
open Go.ChangeShapes Go.WideShapes Go.ChangeAt Go.RowKit
open Go.ChangeMaps (open_string shut_string)
set_option linter.unusedVariables false

theorem own : ownKnob Try.prog.godebug = none := by kernel_rfl
theorem laidOut : laidOutB Try.prog = true := by kernel_rfl

theorem walk (cs0 : List Value) (x0 : Ty.El (.cons (.int .u64) (.cons (.int .u64) (.cons (.int .i64) (.cons (.int .i64) (.cons (.int .u64) (.cons .bool (.cons (.int .i64) (.cons (.sl 3 (.int .i64)) .nil))))))))) (cs1 : List Value) (x1 : Ty.El (.cons (.int .u64) (.cons (.int .u64) (.cons (.int .i64) (.cons (.int .i64) (.cons (.int .u64) (.cons .bool (.cons (.int .i64) (.cons (.sl 3 (.int .i64)) .nil))))))))) (w : World) (h0 : Ty.Reads w (.cons (.int .u64) (.cons (.int .u64) (.cons (.int .i64) (.cons (.int .i64) (.cons (.int .u64) (.cons .bool (.cons (.int .i64) (.cons (.sl 3 (.int .i64)) .nil)))))))) cs0 x0) (h1 : Ty.Reads w (.cons (.int .u64) (.cons (.int .u64) (.cons (.int .i64) (.cons (.int .i64) (.cons (.int .u64) (.cons .bool (.cons (.int .i64) (.cons (.sl 3 (.int .i64)) .nil)))))))) cs1 x1) :
    Calls Try.prog 16 #[.agg cs0.toArray, .agg cs1.toArray] w fun e w' => e = .returned (.bool true) ∧ Below w.heap.size w w' := by
  obtain ⟨id, fi, pr, le, en, pl, lp, x, u⟩ := x0
  obtain ⟨_, _, rfl, ⟨rfl, w1⟩, _, _, rfl, ⟨rfl, w2⟩, _, _, rfl, ⟨rfl, w3⟩, _, _, rfl, ⟨rfl, w4⟩, _, _, rfl, ⟨rfl, w5⟩, _, _, rfl, rfl, _, _, rfl, ⟨rfl, w7⟩, _, _, rfl, ⟨A, c, all, rfl, hr, he⟩, rfl⟩ := h0
  obtain ⟨id2, fi2, pr2, le2, en2, pl2, lp2, y, u2⟩ := x1
  obtain ⟨_, _, rfl, ⟨rfl, v1⟩, _, _, rfl, ⟨rfl, v2⟩, _, _, rfl, ⟨rfl, v3⟩, _, _, rfl, ⟨rfl, v4⟩, _, _, rfl, ⟨rfl, v5⟩, _, _, rfl, rfl, _, _, rfl, ⟨rfl, v7⟩, _, _, rfl, ⟨B, k, all2, rfl, hr2, he2⟩, rfl⟩ := h1
  dsimp only at w1 w2 w5 hr he v1 v2 v5 hr2 he2 ⊢
  obtain ⟨rfl, _⟩ := rd_ints hr he
  obtain ⟨rfl, _⟩ := rd_ints hr2 he2
  obtain ⟨id, rfl, _⟩ := u64_opened w1
  obtain ⟨fi, rfl, _⟩ := u64_opened w2
  obtain ⟨en, rfl, hen⟩ := u64_opened w5
  obtain ⟨id2, rfl, _⟩ := u64_opened v1
  obtain ⟨fi2, rfl, _⟩ := u64_opened v2
  obtain ⟨en2, rfl, _⟩ := u64_opened v5
  exact metaputs_law id fi pr le en pl lp x id2 fi2 pr2 le2 en2 pl2 lp2 y A B x.length c y.length k w hr hr2 hen


set_option maxRecDepth 100000 in
theorem lifted (os : Os) (started : os.Started) (H : Type) (enc : TypeId × Value → H) :
    ReturnsInHanded {} Try.checked os 16 .any (Rows.metaPutsSpec.pre6 enc Try.prog Try.f16 Rows.metaPutsRow.domain false) (Rows.metaPutsSpec.post enc Try.prog Try.f16 false true false false) := by
  refine returnsInHanded_of_change (C := Try.checked) own started (by kernel_rfl) Try.func16
    (ChangeSpec.witness6 (enc := enc) (C := Try.checked) false ⟨#[], #[.agg #[.int .u64 0, .int .u64 0, .int .i64 0, .int .i64 0, .int .u64 0, .bool false, .int .i64 0, .slice none 0 0], .agg #[.int .u64 0, .int .u64 0, .int .i64 0, .int .i64 0, .int .u64 0, .bool false, .int .i64 0, .slice none 0 0]], []⟩ 8 (by kernel_rfl) (by kernel_rfl) (by kernel_rfl) (by kernel_rfl)) ?_
  intro W base args ds gs before hval0 hW hcnd _
  have hval : ∀ (j : Nat) t v, Try.f16.params[j]? = some t → args[j]? = some v → Value.okWide Try.prog W .any base t v := hval0
  have hW' := hW
  obtain ⟨p, q, hA0, hV, rfl, hfz, hnd⟩ := hW
  have hA : DataW.TrodAll enc Try.prog W 0 (fun _ => true) true Try.f16.params.toList args.toList ds p := hA0
  rw [Try.params16] at hA hval
  obtain ⟨v0, vs0, d0, ds0, p0, q0, hargs, rfl, rfl, h0, r0⟩ := trodAll_cons hA
  obtain ⟨v1, vs1, d1, ds1, p1, q1, rfl, rfl, rfl, h1, r1⟩ := trodAll_cons r0
  obtain ⟨rfl, rfl, rfl⟩ := trodAll_nil r1
  obtain rfl : args = #[v0, v1] := by cases args; simp_all
  obtain ⟨rfl, rfl⟩ := trodVars_none hV
  have k0 := h0
  have lt0 : ∀ x ∈ p0, x.block < W.heap.size := by obtain ⟨m, hm⟩ := k0; exact DataW.trod_lt m _ _ _ hm
  obtain ⟨cs0, x0, rfl, hh0⟩ := open_st (.cons (.int .u64) (.cons (.int .u64) (.cons (.int .i64) (.cons (.int .i64) (.cons (.int .u64) (.cons .bool (.cons (.int .i64) (.cons (.sl 3 (.int .i64)) .nil)))))))) Try.underlying91 (Ty.fits_st Try.underlying91 (by kernel_rfl) (Ty.fits_cons rfl (by kernel_rfl) (Ty.fits_int Try.underlying24) (Ty.fits_cons rfl (by kernel_rfl) (Ty.fits_int Try.underlying24) (Ty.fits_cons rfl (by kernel_rfl) (Ty.fits_int Try.underlying3) (Ty.fits_cons rfl (by kernel_rfl) (Ty.fits_int Try.underlying3) (Ty.fits_cons rfl (by kernel_rfl) (Ty.fits_int Try.underlying24) (Ty.fits_cons rfl (by kernel_rfl) (Ty.fits_bool Try.underlying4) (Ty.fits_cons rfl (by kernel_rfl) (Ty.fits_int Try.underlying3) (Ty.fits_cons rfl (by kernel_rfl) (Ty.fits_sl Try.underlying89 (by kernel_rfl) (Ty.fits_int Try.underlying3)) Ty.fits_nil))))))))) (hval 0 91 v0 rfl rfl) h0
  have k1 := h1
  have lt1 : ∀ x ∈ p1, x.block < W.heap.size := by obtain ⟨m, hm⟩ := k1; exact DataW.trod_lt m _ _ _ hm
  obtain ⟨cs1, x1, rfl, hh1⟩ := open_st (.cons (.int .u64) (.cons (.int .u64) (.cons (.int .i64) (.cons (.int .i64) (.cons (.int .u64) (.cons .bool (.cons (.int .i64) (.cons (.sl 3 (.int .i64)) .nil)))))))) Try.underlying91 (Ty.fits_st Try.underlying91 (by kernel_rfl) (Ty.fits_cons rfl (by kernel_rfl) (Ty.fits_int Try.underlying24) (Ty.fits_cons rfl (by kernel_rfl) (Ty.fits_int Try.underlying24) (Ty.fits_cons rfl (by kernel_rfl) (Ty.fits_int Try.underlying3) (Ty.fits_cons rfl (by kernel_rfl) (Ty.fits_int Try.underlying3) (Ty.fits_cons rfl (by kernel_rfl) (Ty.fits_int Try.underlying24) (Ty.fits_cons rfl (by kernel_rfl) (Ty.fits_bool Try.underlying4) (Ty.fits_cons rfl (by kernel_rfl) (Ty.fits_int Try.underlying3) (Ty.fits_cons rfl (by kernel_rfl) (Ty.fits_sl Try.underlying89 (by kernel_rfl) (Ty.fits_int Try.underlying3)) Ty.fits_nil))))))))) (hval 1 91 v1 rfl rfl) h1
  clear hA0 hval0
  refine (walk cs0 x0 cs1 x1 W hh0 hh1).mono fun e W' ⟨he, bel⟩ => ?_
  subst he
  exact ⟨_, rfl, _, _, _, [], _, [], hW', trodAll_mk1 (shut_bool Try.underlying4 _), (trodAll_cons_mk (Below.trod laidOut (by kernel_rfl) (of_decide_eq_true (by kernel_rfl)) k0 bel lt0) (trodAll_cons_mk (Below.trod laidOut (by kernel_rfl) (of_decide_eq_true (by kernel_rfl)) k1 bel lt1) trodAll_mk0)), rfl, bel.frame _, fun h => by cases h⟩

theorem over : Rows.metaPutsRow.holds Try.pinned (OpenSpec.ofChange Rows.metaPutsSpec) :=
  OpenClaim.holds_of_wide 16 Try.f16 rfl rfl rfl rfl rfl rfl rfl ⟨rfl, rfl, rfl, rfl, rfl⟩ rfl rfl rfl rfl rfl (by kernel_rfl) Try.func16 (by kernel_rfl)
    (of_decide_eq_true (by kernel_rfl)) (by unfold Func.isWrapper; first | (rw [if_pos (by decide +kernel)]; kernel_rfl) | (rw [if_neg (by decide +kernel)]; exact ⟨rfl, rfl⟩))
    (fun os started H enc _ => lifted os started H enc)

/-- THE STATEMENT. -/
theorem proved : Rows.MetaPutsSaid := over
#print axioms proved
end Go.Proofs.Ythkabhejfkekjaa.metaPuts
