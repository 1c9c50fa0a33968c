/- Plain facts on parts of joined texts. No condition. -/
import Derived.Test.YtefipigdkdopcaaText
namespace Go.Proofs.Ytefipigdkdopcaa
open Go.RowKit

def spFold (a b : UInt8) (few : Bool) (st : Sp) (l : List UInt8) : Sp := l.foldl (spStep a b few) st
theorem split2_fold (a b : UInt8) (few : Bool) (l : List UInt8) : split2 a b few l = spEnd (spFold a b few ⟨[], []⟩ l) := by
  unfold split2 spAt spFold
  rw [List.take_of_length_le (Nat.le_refl _)]
theorem spFold_append (a b : UInt8) (few : Bool) (st : Sp) (l m : List UInt8) : spFold a b few st (l ++ m) = spFold a b few (spFold a b few st l) m := by
  unfold spFold
  rw [List.foldl_append]
theorem spFold_free (a b : UInt8) (few : Bool) : ∀ (l : List UInt8) (st : Sp), (∀ c ∈ l, c ≠ a ∧ c ≠ b) → spFold a b few st l = ⟨st.out, st.part ++ l⟩
  | [], st, _ => by simp [spFold]
  | c :: r, st, h => by
    have e : spFold a b few st (c :: r) = spFold a b few (spStep a b few st c) r := rfl
    rw [e, spFold_free a b few r _ (fun d hd => h d (by simp [hd]))]
    unfold spStep
    rw [if_pos (h c (by simp))]
    simp
theorem spFold_out (a b : UInt8) (few : Bool) : ∀ (l : List UInt8) (st : Sp), spFold a b few st l = ⟨st.out ++ (spFold a b few ⟨[], st.part⟩ l).out, (spFold a b few ⟨[], st.part⟩ l).part⟩
  | [], st => by simp [spFold]
  | c :: r, st => by
    have e : ∀ st, spFold a b few st (c :: r) = spFold a b few (spStep a b few st c) r := fun _ => rfl
    rw [e, e, spFold_out a b few r (spStep a b few st c), spFold_out a b few r (spStep a b few ⟨[], st.part⟩ c)]
    unfold spStep
    split
    · simp
    · dsimp only
      split <;> simp
/-- A part, one of the bytes, and the rest. -/
theorem split2_cons (a b : UInt8) (few : Bool) (p : List UInt8) (c : UInt8) (rest : List UInt8) (hp : ∀ d ∈ p, d ≠ a ∧ d ≠ b) (hc : c = a ∨ c = b) :
    split2 a b few (p ++ c :: rest) = if p ≠ [] ∨ few = false then p :: split2 a b few rest else split2 a b few rest := by
  rw [split2_fold, spFold_append, spFold_free a b few p _ hp]
  have e : spFold a b few ⟨[], [] ++ p⟩ (c :: rest) = spFold a b few (spStep a b few ⟨[], [] ++ p⟩ c) rest := rfl
  dsimp only
  rw [e]
  have hs : spStep a b few ⟨[], [] ++ p⟩ c = ⟨if p ≠ [] ∨ few = false then [p] else [], []⟩ := by
    unfold spStep
    rw [if_neg (fun h => hc.elim h.1 h.2)]
    simp
  rw [hs, spFold_out, split2_fold]
  unfold spEnd
  dsimp only
  by_cases hpe : p ≠ [] ∨ few = false
  · rw [if_pos hpe, if_pos hpe]
    split <;> simp
  · rw [if_neg hpe, if_neg hpe]
    simp
theorem split2_one (a b : UInt8) (few : Bool) (p : List UInt8) (hp : ∀ d ∈ p, d ≠ a ∧ d ≠ b) (h0 : p ≠ []) : split2 a b few p = [p] := by
  rw [split2_fold, spFold_free a b few p _ hp]
  unfold spEnd
  rw [if_pos (by simpa using h0)]
  simp
theorem split2_nil (a b : UInt8) (few : Bool) : split2 a b few [] = [] := rfl
theorem digs_noblank (n : Nat) : ∀ d ∈ digs n, d ≠ 32 ∧ d ≠ 9 := by
  intro d hd
  have := digs_all n d hd
  unfold isD at this
  constructor <;> (rintro rfl; simp at this)
theorem digs_noline (n : Nat) : ∀ d ∈ digs n, d ≠ 10 ∧ d ≠ 10 := by
  intro d hd
  have := digs_all n d hd
  unfold isD at this
  constructor <;> (rintro rfl; simp at this)
theorem digs_ne (n : Nat) : digs n ≠ [] := by
  intro h
  have := digs_pos n
  rw [h] at this
  simp at this
theorem numF_digs {n : Nat} (h : n ≤ 1099511627776) : numF (digs n) = n ∧ numOk (digs n) = true := by
  have e : digs n = digI (n : Int) := (digI_nat n).symm
  have ho : numOk (digs n) = true := by
    rw [e, numOk_digI, decide_eq_true_iff]
    unfold farN
    omega
  exact ⟨by rw [numF_true ho, e, numV_digI], ho⟩
theorem numF_digI {n : Int} (h0 : -1099511627776 ≤ n) (h : n ≤ 1099511627776) : numF (digI n) = n ∧ numOk (digI n) = true := by
  have ho : numOk (digI n) = true := by
    rw [numOk_digI, decide_eq_true_iff]
    unfold farN
    omega
  exact ⟨by rw [numF_true ho, numV_digI], ho⟩
end Go.Proofs.Ytefipigdkdopcaa
