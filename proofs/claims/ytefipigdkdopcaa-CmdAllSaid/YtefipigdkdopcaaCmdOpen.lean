/- A row of commands that came in, as cells. No condition. -/
import Derived.Test.YtefipigdkdopcaaOpen
import Derived.Test.YtefipigdkdopcaaCmdLaw3
namespace Go.Proofs.Ytefipigdkdopcaa
open Go.RowKit
abbrev CxTy : Ty := .st (.cons (.int .i64) (.cons (.int .u64) (.cons (.int .u64) .nil)))
theorem cmx_flat (l : List Cx) : l.flatMap (fun f => cmx [f]) = cmx l := by
  induction l with
  | nil => rfl
  | cons f l ih => rw [List.flatMap_cons, ih]; rfl
theorem cx_opened {w : World} {A : Option Addr} {c : Nat} {all : List Value} {x : List CxTy.El} (h : Rd w A x.length c CxTy.size all) (hx : ∀ i (h : i < x.length), CxTy.Reads w ((all.drop (i * CxTy.size)).take CxTy.size) x[i]) :
    ∃ fs : List Cx, Rd w A x.length c 3 (cmx fs) ∧ ∀ c ∈ fs, c.a < 18446744073709551616 ∧ c.b < 18446744073709551616 := by
  have key : ∀ i, i < x.length → ∃ f : Cx, (all.drop (i * 3)).take 3 = cmx [f] ∧ f.a < 18446744073709551616 ∧ f.b < 18446744073709551616 := by
    intro i hi
    have h := hx i hi
    generalize x[i] = y at h
    obtain ⟨k, a, b, u⟩ := y
    obtain ⟨_, _, e, ⟨rfl, w1⟩, _, _, rfl, ⟨rfl, w2⟩, _, _, rfl, ⟨rfl, w3⟩, rfl⟩ := h
    dsimp only at w1 w2 w3 e
    obtain ⟨a, rfl, ha⟩ := u64_opened w2
    obtain ⟨b, rfl, hb⟩ := u64_opened w3
    exact ⟨⟨k, a, b⟩, e, ha, hb⟩
  obtain ⟨fs, hl, hr⟩ := list_of x.length (fun i f => (all.drop (i * 3)).take 3 = cmx [f] ∧ f.a < 18446744073709551616 ∧ f.b < 18446744073709551616) key
  have hlen : all.length = x.length * 3 := h.len
  have := flat_opened 3 (fun f => cmx [f]) fs all (by omega) (fun i hi => (hr i hi).1)
  rw [cmx_flat] at this
  refine ⟨fs, by rw [← this]; exact h, fun c hc => ?_⟩
  obtain ⟨i, hi, rfl⟩ := List.mem_iff_getElem.1 hc
  exact (hr i hi).2
end Go.Proofs.Ytefipigdkdopcaa
