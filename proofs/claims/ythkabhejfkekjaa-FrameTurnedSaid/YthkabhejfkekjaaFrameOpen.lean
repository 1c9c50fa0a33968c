/- A row of frames that came in, as cells. No condition. -/
import Derived.Test.YthkabhejfkekjaaOpen
import Derived.Test.YthkabhejfkekjaaFrameSame
namespace Go.Proofs.Ythkabhejfkekjaa
open Go.RowKit
abbrev FrTy : Ty := .st (.cons (.int .u64) (.cons (.int .u64) (.cons (.int .i64) (.cons (.int .i64) (.cons .str .nil)))))
theorem frCs_flat (l : List Fr) : l.flatMap (fun f => frCs [f]) = frCs l := by
  induction l with
  | nil => rfl
  | cons f l ih => rw [List.flatMap_cons, ih]; rfl
theorem fr_opened {w : World} {A : Option Addr} {c : Nat} {all : List Value} {x : List FrTy.El} (h : Rd w A x.length c FrTy.size all) (hx : ∀ i (h : i < x.length), FrTy.Reads w ((all.drop (i * FrTy.size)).take FrTy.size) x[i]) :
    ∃ fs : List Fr, Rd w A x.length c 5 (frCs fs) := by
  have key : ∀ i, i < x.length → ∃ f : Fr, (all.drop (i * 5)).take 5 = frCs [f] := by
    intro i hi
    have h := hx i hi
    generalize x[i] = y at h
    obtain ⟨a, b, o, t, d, u⟩ := y
    obtain ⟨_, _, e, ⟨rfl, w1⟩, _, _, rfl, ⟨rfl, w2⟩, _, _, rfl, ⟨rfl, w3⟩, _, _, rfl, ⟨rfl, w4⟩, _, _, rfl, ⟨rfl, w5⟩, rfl⟩ := h
    dsimp only at w1 w2 w3 w4 w5 e
    obtain ⟨a, rfl, _⟩ := u64_opened w1
    obtain ⟨b, rfl, _⟩ := u64_opened w2
    obtain ⟨⟨l⟩⟩ := d
    exact ⟨(a, b, o, t, l), e⟩
  obtain ⟨fs, hl, hr⟩ := list_of x.length (fun i f => (all.drop (i * 5)).take 5 = frCs [f]) key
  have hlen : all.length = x.length * 5 := h.len
  have := flat_opened 5 (fun f => frCs [f]) fs all (by omega) (fun i hi => hr i hi)
  rw [frCs_flat] at this
  exact ⟨fs, by rw [← this]; exact h⟩
end Go.Proofs.Ythkabhejfkekjaa
