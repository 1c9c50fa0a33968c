/- Plain facts on the text of a reply. No condition. -/
import Derived.Test.YtefipigdkdopcaaRep6
import Derived.Test.YtefipigdkdopcaaRep4
import Derived.Lib.Join
namespace Go.Proofs.Ytefipigdkdopcaa
open Go.RowKit

/-- A frame's bytes; the words of the parts of a reply. -/
def frB (f : Fr) : List UInt8 := frmP f.1 f.2.1 f.2.2.1.toNat f.2.2.2.1.toNat f.2.2.2.2
def frW (f : Fr) : List (List UInt8) := [[102, 114, 97, 109, 101], hexS (frB f)]
def prW (x : Nat × Nat) : List (List UInt8) := [[108, 111, 115, 116], digs x.1, digs x.2]
def inW (v : Int) : List (List UInt8) := [[99, 111, 117, 110, 116], digs v.toNat]
def restW (fs : List Fr) (ls : List (Nat × Nat)) (cs : List Int) : List (List UInt8) := fs.flatMap frW ++ ls.flatMap prW ++ cs.flatMap inW
def wordsT (e : Int) (n : Nat) (fs : List Fr) (ls : List (Nat × Nat)) (cs : List Int) : List (List UInt8) := [digs e.toNat, digs n] ++ restW fs ls cs
/-- The text of a reply. -/
def textR (e : Int) (n : Nat) (fs : List Fr) (ls : List (Nat × Nat)) (cs : List Int) : List UInt8 := Lib.join (wordsT e n fs ls cs) [32] ++ [10]

structure GoodR (e : Int) (n : Nat) (fs : List Fr) (ls : List (Nat × Nat)) (cs : List Int) : Prop where
  e0 : 0 ≤ e
  e1 : e ≤ 18
  hn : n ≤ 1099511627776
  hl : ∀ x ∈ ls, x.1 ≤ 1099511627776 ∧ x.2 ≤ 1099511627776
  hc : ∀ v ∈ cs, 0 ≤ v ∧ v ≤ 1099511627776
  nf : fs.length ≤ 256
  nl : ls.length ≤ 256
  nc : cs.length ≤ 256
  hf : ∀ f ∈ fs, may1 f = true

theorem chk_good {e : Int} {n : Nat} {fs : List Fr} {ls : List (Nat × Nat)} {cs : List Int} : chkR e n fs ls cs = 0 ↔ GoodR e n fs ls cs := by
  unfold chkR
  constructor
  · intro h
    split at h
    · cases h
    rename_i h1
    split at h
    · cases h
    rename_i h2
    split at h
    · rename_i h3
      rw [Bool.not_eq_false, Bool.and_eq_true, Bool.and_eq_true] at h1
      obtain ⟨⟨g1, g2⟩, g3⟩ := h1
      unfold num36 at g1
      rw [decide_eq_true_iff] at g1
      refine ⟨g1.1, g1.2.1, g1.2.2, fun x hx => ?_, fun v hv => ?_, by omega, by omega, by omega, fun f hf => List.all_eq_true.1 h3 f hf⟩
      · have := List.all_eq_true.1 g2 x hx
        unfold far36 at this
        rw [decide_eq_true_iff] at this
        omega
      · have := List.all_eq_true.1 g3 v hv
        unfold cnt36 at this
        rw [decide_eq_true_iff] at this
        exact this
    · cases h
  · intro g
    have g1 : num36 e n = true := by unfold num36; rw [decide_eq_true_iff]; exact ⟨g.e0, g.e1, g.hn⟩
    have g2 : ls.all far36 = true := List.all_eq_true.2 fun x hx => by
      have := g.hl x hx
      unfold far36; rw [decide_eq_true_iff]; omega
    have g3 : cs.all cnt36 = true := List.all_eq_true.2 fun x hx => by
      have := g.hc x hx
      unfold cnt36; rw [decide_eq_true_iff]; omega
    have h1 := g.nf
    have h2 := g.nl
    have h3 := g.nc
    rw [if_neg (by rw [g1, g2, g3]; simp), if_neg (by omega), if_pos (List.all_eq_true.2 g.hf)]

theorem may1_nat {f : Fr} (h : may1 f = true) : ∃ o t : Nat, f.2.2.1 = o ∧ f.2.2.2.1 = t ∧ MayF f.1 f.2.1 o t f.2.2.2.2.length := mayF_nat h
theorem may1_len {f : Fr} (h : may1 f = true) : f.2.2.2.2.length ≤ 100 := by
  obtain ⟨o, t, -, -, m⟩ := may1_nat h
  have := m.hl
  omega
theorem frB_length (f : Fr) : (frB f).length = 15 + f.2.2.2.2.length := frmP_length _ _ _ _ _
theorem digs_far {n : Nat} (h : n ≤ 1099511627776) : (digs n).length ≤ 13 := digs_length 12 n (by omega)

/-- Words' lengths and one more for each, added up. -/
def sumW (ws : List (List UInt8)) : Nat := (ws.map (fun p => p.length + 1)).sum
theorem sumW_append (a b : List (List UInt8)) : sumW (a ++ b) = sumW a + sumW b := by simp [sumW]
theorem sumW_flat {α : Type} (g : α → List (List UInt8)) (k : Nat) : ∀ l : List α, (∀ x ∈ l, sumW (g x) ≤ k) → sumW (l.flatMap g) ≤ l.length * k
  | [], _ => by simp [sumW]
  | x :: l, h => by
    rw [List.flatMap_cons, sumW_append, List.length_cons, Nat.succ_mul]
    have h1 := h x (by simp)
    have h2 := sumW_flat g k l (fun y hy => h y (by simp [hy]))
    omega
theorem joinTail_len (ws : List (List UInt8)) : (Lib.joinTail [32] ws).length = sumW ws := by
  unfold Lib.joinTail sumW
  induction ws with
  | nil => rfl
  | cons x l ih =>
    rw [List.map_cons, List.flatten_cons, List.length_append, ih]
    simp
theorem join_len (ws : List (List UInt8)) : (Lib.join ws [32]).length ≤ sumW ws := by
  cases ws with
  | nil => simp [Lib.join_nil]
  | cons x l =>
    rw [Lib.join_cons, List.length_append, joinTail_len]
    unfold sumW
    rw [List.map_cons, List.sum_cons]; omega
theorem words_bound {e : Int} {n : Nat} {fs : List Fr} {ls : List (Nat × Nat)} {cs : List Int} (g : GoodR e n fs ls cs) : sumW (wordsT e n fs ls cs) ≤ 90000 := by
  have d1 : (digs e.toNat).length ≤ 13 := digs_far (by have := g.e1; omega)
  have d2 := digs_far g.hn
  have s1 := sumW_flat frW 240 fs (fun f hf => by
    have h1 := may1_len (g.hf f hf)
    have h2 := frB_length f
    have h3 := hexS_length (frB f)
    unfold frW sumW
    simp only [List.map_cons, List.map_nil, List.sum_cons, List.sum_nil, List.length_cons, List.length_nil]
    omega)
  have s2 := sumW_flat prW 40 ls (fun x hx => by
    have h1 := digs_far (g.hl x hx).1
    have h2 := digs_far (g.hl x hx).2
    unfold prW sumW
    simp only [List.map_cons, List.map_nil, List.sum_cons, List.sum_nil, List.length_cons, List.length_nil]
    omega)
  have s3 := sumW_flat inW 40 cs (fun v hv => by
    have h1 := g.hc v hv
    have h2 := digs_far (n := v.toNat) (by omega)
    unfold inW sumW
    simp only [List.map_cons, List.map_nil, List.sum_cons, List.sum_nil, List.length_cons, List.length_nil]
    omega)
  have := g.nf
  have := g.nl
  have := g.nc
  unfold wordsT restW
  rw [sumW_append, sumW_append, sumW_append]
  have s0 : sumW [digs e.toNat, digs n] ≤ 28 := by
    unfold sumW
    simp only [List.map_cons, List.map_nil, List.sum_cons, List.sum_nil]
    omega
  omega
theorem textR_bound {e : Int} {n : Nat} {fs : List Fr} {ls : List (Nat × Nat)} {cs : List Int} (g : GoodR e n fs ls cs) : (textR e n fs ls cs).length ≤ 90001 := by
  unfold textR
  have h1 := join_len (wordsT e n fs ls cs)
  have h2 := words_bound g
  rw [List.length_append, List.length_singleton]; omega

theorem flat_take_succ {α β : Type} (g : α → List β) (l : List α) (j : Nat) (h : j < l.length) : (l.take (j + 1)).flatMap g = (l.take j).flatMap g ++ g l[j] := by
  rw [List.take_succ_eq_append_getElem h, List.flatMap_append]; simp
theorem flat_len {α β : Type} (g : α → List β) (k : Nat) (hg : ∀ x, (g x).length = k) : ∀ l : List α, (l.flatMap g).length = l.length * k
  | [] => by simp
  | x :: l => by rw [List.flatMap_cons, List.length_append, hg, flat_len g k hg l, List.length_cons, Nat.succ_mul]; omega
theorem strs_list (l : List (List UInt8)) : strs l = (l.map fun s => (⟨s.toArray⟩ : ByteArray)).map Value.string := by simp [strs]
end Go.Proofs.Ytefipigdkdopcaa
