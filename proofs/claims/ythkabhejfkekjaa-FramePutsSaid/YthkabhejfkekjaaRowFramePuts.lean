/-
  The law 'FramePuts' returns true for every input, and each argument reads behind the call as it read before. No condition.
-/
import Derived.Test.YthkabhejfkekjaaRows
import Derived.WalkKit
import Derived.ProofKit
import Derived.OpenShut
import Derived.ShutString
import Derived.ChangeOld
import Derived.Below
import Derived.Test.YthkabhejfkekjaaOpen
import Derived.Test.YthkabhejfkekjaaFrameLaw2
namespace Go.Proofs.Ythkabhejfkekjaa.framePuts
open Go.ChangeShapes Go.WideShapes Go.ChangeAt Go.RowKit
open Go.ChangeMaps (open_string shut_string)
set_option linter.unusedVariables false

theorem own : ownKnob Try.prog.godebug = none := by kernel_rfl
theorem laidOut : laidOutB Try.prog = true := by kernel_rfl

theorem walk (cs0 : List Value) (x0 : Ty.El (.cons (.int .u64) (.cons (.int .u64) (.cons (.int .i64) (.cons (.int .i64) (.cons .str .nil)))))) (a1 : Option Addr) (c1 : Nat) (all1 : List Value) (x1 : List (Ty.El (.int .u8))) (w : World) (h0 : Ty.Reads w (.cons (.int .u64) (.cons (.int .u64) (.cons (.int .i64) (.cons (.int .i64) (.cons .str .nil))))) cs0 x0) (r1 : Rd w a1 x1.length c1 (Ty.size (.int .u8)) all1) (e1 : ∀ i (h : i < x1.length), Ty.Reads w (.int .u8) ((all1.drop (i * (Ty.size (.int .u8)))).take (Ty.size (.int .u8))) x1[i]) :
    Calls Try.prog 12 #[.agg cs0.toArray, .slice a1 x1.length c1] w fun e w' => e = .returned (.bool true) ∧ Below w.heap.size w w' := by
  obtain ⟨nu, id, o, t, d, u⟩ := x0
  obtain ⟨_, _, rfl, ⟨rfl, w1⟩, _, _, rfl, ⟨rfl, w2⟩, _, _, rfl, ⟨rfl, w3⟩, _, _, rfl, ⟨rfl, w4⟩, _, _, rfl, ⟨rfl, w5⟩, rfl⟩ := h0
  dsimp only at w1 w2 w3 w4 w5 ⊢
  obtain ⟨more, hx⟩ := rdb_opened r1 e1
  obtain ⟨nu, rfl, _⟩ := u64_opened w1
  obtain ⟨id, rfl, _⟩ := u64_opened w2
  obtain ⟨⟨l⟩⟩ := d
  exact frameputs_law nu id o t l more a1 x1.length c1 w hx w5


set_option maxRecDepth 100000 in
theorem lifted (os : Os) (started : os.Started) (H : Type) (enc : TypeId × Value → H) :
    ReturnsInHanded {} Try.checked os 12 .any (Rows.framePutsSpec.pre6 enc Try.prog Try.f12 Rows.framePutsRow.domain false) (Rows.framePutsSpec.post enc Try.prog Try.f12 false true false false) := by
  refine returnsInHanded_of_change (C := Try.checked) own started (by kernel_rfl) Try.func12
    (ChangeSpec.witness6 (enc := enc) (C := Try.checked) false ⟨#[], #[.agg #[.int .u64 0, .int .u64 0, .int .i64 0, .int .i64 0, .string ByteArray.empty], .slice none 0 0], []⟩ 8 (by kernel_rfl) (by kernel_rfl) (by kernel_rfl) (by kernel_rfl)) ?_
  intro W base args ds gs before hval0 hW hcnd _
  have hval : ∀ (j : Nat) t v, Try.f12.params[j]? = some t → args[j]? = some v → Value.okWide Try.prog W .any base t v := hval0
  have hW' := hW
  obtain ⟨p, q, hA0, hV, rfl, hfz, hnd⟩ := hW
  have hA : DataW.TrodAll enc Try.prog W 0 (fun _ => true) true Try.f12.params.toList args.toList ds p := hA0
  rw [Try.params12] at hA hval
  obtain ⟨v0, vs0, d0, ds0, p0, q0, hargs, rfl, rfl, h0, r0⟩ := trodAll_cons hA
  obtain ⟨v1, vs1, d1, ds1, p1, q1, rfl, rfl, rfl, h1, r1⟩ := trodAll_cons r0
  obtain ⟨rfl, rfl, rfl⟩ := trodAll_nil r1
  obtain rfl : args = #[v0, v1] := by cases args; simp_all
  obtain ⟨rfl, rfl⟩ := trodVars_none hV
  have k0 := h0
  have lt0 : ∀ x ∈ p0, x.block < W.heap.size := by obtain ⟨m, hm⟩ := k0; exact DataW.trod_lt m _ _ _ hm
  obtain ⟨cs0, x0, rfl, hh0⟩ := open_st (.cons (.int .u64) (.cons (.int .u64) (.cons (.int .i64) (.cons (.int .i64) (.cons .str .nil))))) Try.underlying66 (Ty.fits_st Try.underlying66 (by kernel_rfl) (Ty.fits_cons rfl (by kernel_rfl) (Ty.fits_int Try.underlying24) (Ty.fits_cons rfl (by kernel_rfl) (Ty.fits_int Try.underlying24) (Ty.fits_cons rfl (by kernel_rfl) (Ty.fits_int Try.underlying3) (Ty.fits_cons rfl (by kernel_rfl) (Ty.fits_int Try.underlying3) (Ty.fits_cons rfl (by kernel_rfl) (Ty.fits_str Try.underlying9) Ty.fits_nil)))))) (hval 0 66 v0 rfl rfl) h0
  have k1 := h1
  have lt1 : ∀ x ∈ p1, x.block < W.heap.size := by obtain ⟨m, hm⟩ := k1; exact DataW.trod_lt m _ _ _ hm
  obtain ⟨a1, c1, all1, x1, rfl, r1x, e1⟩ := open_sl (.int .u8) (Ty.fits_sl Try.underlying22 (by kernel_rfl) (Ty.fits_int Try.underlying5)) (hval 1 22 v1 rfl rfl) h1
  clear hA0 hval0
  refine (walk cs0 x0 a1 c1 all1 x1 W hh0 r1x e1).mono fun e W' ⟨he, bel⟩ => ?_
  subst he
  exact ⟨_, rfl, _, _, _, [], _, [], hW', trodAll_mk1 (shut_bool Try.underlying4 _), (trodAll_cons_mk (Below.trod laidOut (by kernel_rfl) (of_decide_eq_true (by kernel_rfl)) k0 bel lt0) (trodAll_cons_mk (Below.trod laidOut (by kernel_rfl) (of_decide_eq_true (by kernel_rfl)) k1 bel lt1) trodAll_mk0)), rfl, bel.frame _, fun h => by cases h⟩

theorem over : Rows.framePutsRow.holds Try.pinned (OpenSpec.ofChange Rows.framePutsSpec) :=
  OpenClaim.holds_of_wide 12 Try.f12 rfl rfl rfl rfl rfl rfl rfl ⟨rfl, rfl, rfl, rfl, rfl⟩ rfl rfl rfl rfl rfl (by kernel_rfl) Try.func12 (by kernel_rfl)
    (of_decide_eq_true (by kernel_rfl)) (by unfold Func.isWrapper; first | (rw [if_pos (by decide +kernel)]; kernel_rfl) | (rw [if_neg (by decide +kernel)]; exact ⟨rfl, rfl⟩))
    (fun os started H enc _ => lifted os started H enc)

/-- THE STATEMENT. -/
theorem proved : Rows.FramePutsSaid := over
#print axioms proved
end Go.Proofs.Ythkabhejfkekjaa.framePuts
