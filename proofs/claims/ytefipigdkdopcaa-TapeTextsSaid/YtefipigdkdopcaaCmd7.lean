/- Plain facts on commands' texts; what must come of layer 35 at any rate. No condition. -/
import Derived.Test.YtefipigdkdopcaaCmd6
import Derived.Test.YtefipigdkdopcaaTextB
namespace Go.Proofs.Ytefipigdkdopcaa
open Go.RowKit

theorem wordK_free {k : Int} (h : 1 ≤ k ∧ k ≤ 7) : (∀ d ∈ wordK k, (d ≠ 32 ∧ d ≠ 9) ∧ d ≠ 10) ∧ wordK k ≠ [] := by
  rcases (by omega : k = 1 ∨ k = 2 ∨ k = 3 ∨ k = 4 ∨ k = 5 ∨ k = 6 ∨ k = 7) with rfl | rfl | rfl | rfl | rfl | rfl | rfl <;> decide
/-- The words of a command's text. -/
theorem words_textK {k : Int} (h : 1 ≤ k ∧ k ≤ 7) (a b : Nat) : wordsL (textK k a b) = wordK k :: ([digs a, digs b].take (manyK k)) := by
  obtain ⟨hw, h0⟩ := wordK_free h
  have hw' : ∀ d ∈ wordK k, d ≠ 32 ∧ d ≠ 9 := fun d hd => (hw d hd).1
  have hm := manyK_le k
  unfold textK wordsL
  rcases (by omega : manyK k = 0 ∨ manyK k = 1 ∨ manyK k = 2) with e | e | e <;> rw [e]
  · show split2 32 9 true (wordK k) = _
    rw [split2_one _ _ _ _ hw' h0]
    rfl
  · show split2 32 9 true (wordK k ++ 32 :: digs a) = _
    rw [split2_cons _ _ _ _ _ _ hw' (.inl rfl), if_pos (.inl h0), split2_one _ _ _ _ (digs_noblank a) (digs_ne a)]
    rfl
  · show split2 32 9 true ((wordK k ++ 32 :: digs a) ++ 32 :: digs b) = _
    rw [List.append_assoc, List.cons_append, split2_cons _ _ _ _ _ _ hw' (.inl rfl), if_pos (.inl h0), split2_cons _ _ _ _ _ _ (digs_noblank a) (.inl rfl), if_pos (.inl (digs_ne a)), split2_one _ _ _ _ (digs_noblank b) (digs_ne b)]
    rfl
theorem check_zero {k : Int} {a b : Nat} (h : cmdCheck k a b = 0) : (1 ≤ k ∧ k ≤ 7) ∧ a ≤ 1099511627776 ∧ b ≤ 1099511627776 ∧ (manyK k < 1 → a = 0) ∧ (manyK k < 2 → b = 0) := by
  unfold cmdCheck at h
  split at h
  · cases h
  · rename_i hw
    split at h
    · cases h
    · rename_i hc
      refine ⟨?_, by omega, by omega, fun g => by omega, fun g => by omega⟩
      by_cases hk : 1 ≤ k ∧ k ≤ 7
      · exact hk
      · exact absurd ((wordK_nil k).2 hk) hw
/-- A command's text read is that command. -/
theorem parse_text {k : Nat} {a b : Nat} (h : cmdCheck (k : Nat) a b = 0) : parseC (textK (k : Nat) a b) = ⟨k, a, b, 0⟩ := by
  obtain ⟨hk, ha, hb, ha0, hb0⟩ := check_zero h
  have hkk : kindK (wordK (k : Nat)) = k := kindK_word (by omega)
  have hm := manyK_le (k : Nat)
  have hl : ([digs a, digs b].take (manyK (k : Nat))).length = manyK (k : Nat) := by simp; omega
  have e : parseC (textK (k : Nat) a b) = (match wordsL (textK (k : Nat) a b) with
    | [] => ⟨0, 0, 0, 17⟩
    | h :: r => if kindK h = 0 ∨ r.length ≠ manyK (kindK h : Nat) then ⟨0, 0, 0, 17⟩
      else if textK (kindK h : Nat) (numAt (h :: r) 1) (numAt (h :: r) 2) = textK (k : Nat) a b then ⟨kindK h, numAt (h :: r) 1, numAt (h :: r) 2, 0⟩ else ⟨0, 0, 0, 6⟩) := rfl
  rw [e, words_textK hk]
  dsimp only
  rw [hkk, if_neg (by rw [hl]; omega)]
  have n1 : numAt (wordK (k : Nat) :: [digs a, digs b].take (manyK (k : Nat))) 1 = a := by
    unfold numAt
    rw [List.length_cons, hl]
    by_cases g : manyK (k : Nat) < 1
    · rw [if_neg (by omega), ha0 g]
    · rw [if_pos (by omega)]
      have : (wordK (k : Nat) :: [digs a, digs b].take (manyK (k : Nat))).getD 1 [] = digs a := by
        rcases (by omega : manyK (k : Nat) = 1 ∨ manyK (k : Nat) = 2) with e | e <;> rw [e] <;> rfl
      rw [this, (numF_digs ha).1]
      omega
  have n2 : numAt (wordK (k : Nat) :: [digs a, digs b].take (manyK (k : Nat))) 2 = b := by
    unfold numAt
    rw [List.length_cons, hl]
    by_cases g : manyK (k : Nat) < 2
    · rw [if_neg (by omega), hb0 g]
    · rw [if_pos (by omega)]
      have : (wordK (k : Nat) :: [digs a, digs b].take (manyK (k : Nat))).getD 2 [] = digs b := by
        have e : manyK (k : Nat) = 2 := by omega
        rw [e]; rfl
      rw [this, (numF_digs hb).1]
      omega
  rw [n1, n2, if_pos rfl]
/-- What a text is, if it is one. -/
theorem parse_ok {s : List UInt8} (h : (parseC s).e = 0) : cmdCheck ((parseC s).k : Nat) (parseC s).a (parseC s).b = 0 ∧ textK ((parseC s).k : Nat) (parseC s).a (parseC s).b = s := by
  have e : parseC s = (match wordsL s with
    | [] => ⟨0, 0, 0, 17⟩
    | h :: r => if kindK h = 0 ∨ r.length ≠ manyK (kindK h : Nat) then ⟨0, 0, 0, 17⟩
      else if textK (kindK h : Nat) (numAt (h :: r) 1) (numAt (h :: r) 2) = s then ⟨kindK h, numAt (h :: r) 1, numAt (h :: r) 2, 0⟩ else ⟨0, 0, 0, 6⟩) := rfl
  cases hw : wordsL s with
  | nil => rw [hw] at e; dsimp only at e; rw [e] at h; cases h
  | cons h0 r =>
    rw [hw] at e
    dsimp only at e
    by_cases g : kindK h0 = 0 ∨ r.length ≠ manyK (kindK h0 : Nat)
    · rw [if_pos g] at e; rw [e] at h; cases h
    · rw [if_neg g] at e
      by_cases g2 : textK (kindK h0 : Nat) (numAt (h0 :: r) 1) (numAt (h0 :: r) 2) = s
      · rw [if_pos g2] at e
        rw [e]
        exact ⟨check_parsed h0 r (fun e => g (.inl e)) (Decidable.byContradiction fun e => g (.inr e)), g2⟩
      · rw [if_neg g2] at e; rw [e] at h; cases h
/-- Whether a text's error is the one of lines. -/
def lineB (s : List UInt8) : Bool := match wordsL s with
  | [] => true
  | h :: r => decide (kindK h = 0 ∨ r.length ≠ manyK (kindK h : Nat))
theorem parse_bad {s : List UInt8} (h : (parseC s).e ≠ 0) : parseC s = ⟨0, 0, 0, if lineB s = true then 17 else 6⟩ := by
  have e : parseC s = (match wordsL s with
    | [] => ⟨0, 0, 0, 17⟩
    | h :: r => if kindK h = 0 ∨ r.length ≠ manyK (kindK h : Nat) then ⟨0, 0, 0, 17⟩
      else if textK (kindK h : Nat) (numAt (h :: r) 1) (numAt (h :: r) 2) = s then ⟨kindK h, numAt (h :: r) 1, numAt (h :: r) 2, 0⟩ else ⟨0, 0, 0, 6⟩) := rfl
  unfold lineB
  cases hw : wordsL s with
  | nil => rw [hw] at e; exact e
  | cons h0 r =>
    rw [hw] at e
    dsimp only at e ⊢
    by_cases g : kindK h0 = 0 ∨ r.length ≠ manyK (kindK h0 : Nat)
    · rw [if_pos g] at e; rw [e, if_pos (by simpa using g)]
    · rw [if_neg g] at e
      by_cases g2 : textK (kindK h0 : Nat) (numAt (h0 :: r) 1) (numAt (h0 :: r) 2) = s
      · rw [if_pos g2] at e; rw [e] at h; exact absurd rfl h
      · rw [if_neg g2] at e; rw [e, if_neg (by simpa using g)]
theorem digs_one {n : Nat} (h : n < 10) : digs n = [UInt8.ofNat (48 + n)] := by rw [digs, if_pos h]
end Go.Proofs.Ytefipigdkdopcaa
