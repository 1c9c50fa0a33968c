/-
  The law 'HeadBegins' returns true for every input, and each argument reads behind the call as it read before. No condition.
-/
import Derived.Test.YthkabhejfkekjaaRows
import Derived.WalkKit
import Derived.ProofKit
import Derived.OpenShut
import Derived.ShutString
import Derived.ChangeOld
import Derived.Below
import Derived.Test.YthkabhejfkekjaaOpen
import Derived.Test.YthkabhejfkekjaaHeadLaw2
namespace Go.Proofs.Ythkabhejfkekjaa.headBegins
open Go.ChangeShapes Go.WideShapes Go.ChangeAt Go.RowKit
open Go.ChangeMaps (open_string shut_string)
set_option linter.unusedVariables false

theorem own : ownKnob Try.prog.godebug = none := by kernel_rfl
theorem laidOut : laidOutB Try.prog = true := by kernel_rfl

theorem walk (a0 : Option Addr) (c0 : Nat) (all0 : List Value) (x0 : List (Ty.El (.int .u8))) (a1 : Option Addr) (c1 : Nat) (all1 : List Value) (x1 : List (Ty.El (.int .u8))) (w : World) (r0 : Rd w a0 x0.length c0 (Ty.size (.int .u8)) all0) (e0 : ∀ i (h : i < x0.length), Ty.Reads w (.int .u8) ((all0.drop (i * (Ty.size (.int .u8)))).take (Ty.size (.int .u8))) x0[i]) (r1 : Rd w a1 x1.length c1 (Ty.size (.int .u8)) all1) (e1 : ∀ i (h : i < x1.length), Ty.Reads w (.int .u8) ((all1.drop (i * (Ty.size (.int .u8)))).take (Ty.size (.int .u8))) x1[i]) :
    Calls Try.prog 11 #[.slice a0 x0.length c0, .slice a1 x1.length c1] w fun e w' => e = .returned (.bool true) ∧ Below w.heap.size w w' := by
  obtain ⟨xs, hx⟩ := rdb_opened r0 e0
  obtain ⟨ys, hy⟩ := rdb_opened r1 e1
  exact headbegins_law xs ys a0 a1 x0.length c0 x1.length c1 w hx hy


set_option maxRecDepth 100000 in
theorem lifted (os : Os) (started : os.Started) (H : Type) (enc : TypeId × Value → H) :
    ReturnsInHanded {} Try.checked os 11 .any (Rows.headBeginsSpec.pre6 enc Try.prog Try.f11 Rows.headBeginsRow.domain false) (Rows.headBeginsSpec.post enc Try.prog Try.f11 false true false false) := by
  refine returnsInHanded_of_change (C := Try.checked) own started (by kernel_rfl) Try.func11
    (ChangeSpec.witness6 (enc := enc) (C := Try.checked) false ⟨#[], #[.slice none 0 0, .slice none 0 0], []⟩ 8 (by kernel_rfl) (by kernel_rfl) (by kernel_rfl) (by kernel_rfl)) ?_
  intro W base args ds gs before hval0 hW hcnd _
  have hval : ∀ (j : Nat) t v, Try.f11.params[j]? = some t → args[j]? = some v → Value.okWide Try.prog W .any base t v := hval0
  have hW' := hW
  obtain ⟨p, q, hA0, hV, rfl, hfz, hnd⟩ := hW
  have hA : DataW.TrodAll enc Try.prog W 0 (fun _ => true) true Try.f11.params.toList args.toList ds p := hA0
  rw [Try.params11] at hA hval
  obtain ⟨v0, vs0, d0, ds0, p0, q0, hargs, rfl, rfl, h0, r0⟩ := trodAll_cons hA
  obtain ⟨v1, vs1, d1, ds1, p1, q1, rfl, rfl, rfl, h1, r1⟩ := trodAll_cons r0
  obtain ⟨rfl, rfl, rfl⟩ := trodAll_nil r1
  obtain rfl : args = #[v0, v1] := by cases args; simp_all
  obtain ⟨rfl, rfl⟩ := trodVars_none hV
  have k0 := h0
  have lt0 : ∀ x ∈ p0, x.block < W.heap.size := by obtain ⟨m, hm⟩ := k0; exact DataW.trod_lt m _ _ _ hm
  obtain ⟨a0, c0, all0, x0, rfl, r0x, e0⟩ := open_sl (.int .u8) (Ty.fits_sl Try.underlying22 (by kernel_rfl) (Ty.fits_int Try.underlying5)) (hval 0 22 v0 rfl rfl) h0
  have k1 := h1
  have lt1 : ∀ x ∈ p1, x.block < W.heap.size := by obtain ⟨m, hm⟩ := k1; exact DataW.trod_lt m _ _ _ hm
  obtain ⟨a1, c1, all1, x1, rfl, r1x, e1⟩ := open_sl (.int .u8) (Ty.fits_sl Try.underlying22 (by kernel_rfl) (Ty.fits_int Try.underlying5)) (hval 1 22 v1 rfl rfl) h1
  clear hA0 hval0
  refine (walk a0 c0 all0 x0 a1 c1 all1 x1 W r0x e0 r1x e1).mono fun e W' ⟨he, bel⟩ => ?_
  subst he
  exact ⟨_, rfl, _, _, _, [], _, [], hW', trodAll_mk1 (shut_bool Try.underlying4 _), (trodAll_cons_mk (Below.trod laidOut (by kernel_rfl) (of_decide_eq_true (by kernel_rfl)) k0 bel lt0) (trodAll_cons_mk (Below.trod laidOut (by kernel_rfl) (of_decide_eq_true (by kernel_rfl)) k1 bel lt1) trodAll_mk0)), rfl, bel.frame _, fun h => by cases h⟩

theorem over : Rows.headBeginsRow.holds Try.pinned (OpenSpec.ofChange Rows.headBeginsSpec) :=
  OpenClaim.holds_of_wide 11 Try.f11 rfl rfl rfl rfl rfl rfl rfl ⟨rfl, rfl, rfl, rfl, rfl⟩ rfl rfl rfl rfl rfl (by kernel_rfl) Try.func11 (by kernel_rfl)
    (of_decide_eq_true (by kernel_rfl)) (by unfold Func.isWrapper; first | (rw [if_pos (by decide +kernel)]; kernel_rfl) | (rw [if_neg (by decide +kernel)]; exact ⟨rfl, rfl⟩))
    (fun os started H enc _ => lifted os started H enc)

/-- THE STATEMENT. -/
theorem proved : Rows.HeadBeginsSaid := over
#print axioms proved
end Go.Proofs.Ythkabhejfkekjaa.headBegins
