/- Plain facts: a rune's bytes taken by themselves, and encoded; escaped texts. No condition. -/
import Derived.Test.YtefipigdkdopcaaDoorRune7
import Derived.Test.YtefipigdkdopcaaDoorHex
namespace Go.Proofs.YtefipigdkdopcaaDoor
open Go.RowKit

theorem at8_take (q : List UInt8) (w j : Nat) : at8 (q.take w) j = if j < w then at8 q j else 0 := by
  unfold at8
  rw [List.getD_eq_getElem?_getD, List.getElem?_take]
  split
  · rw [List.getD_eq_getElem?_getD]
  · rfl
/-- A rune's bytes alone are that rune. -/
theorem decL_take (q : List UInt8) : decL (q.take (decL q).2) = decL q := by
  have e := decL_eq q
  have e2 := decL_eq (q.take (decL q).2)
  simp only [at8_take] at e2
  by_cases g0 : at8 q 0 < 128
  · rw [if_pos g0] at e
    rw [e] at e2 ⊢
    simp only [Nat.lt_add_one, if_pos, g0, Nat.zero_lt_one] at e2
    rw [e2]
  rw [if_neg g0] at e
  have brkCase : decL q = (65533, 1) → decL (q.take (decL q).2) = decL q := by
    intro hb
    rw [hb] at e2 ⊢
    simp only [Nat.zero_lt_one, if_true, if_neg (show ¬ (1 < 1) by omega), if_neg (show ¬ (2 < 1) by omega), if_neg (show ¬ (3 < 1) by omega)] at e2
    rw [e2, if_neg g0, if_neg (by omega), if_neg (by omega), if_neg (by omega)]
  by_cases g1 : 192 ≤ at8 q 0 ∧ at8 q 0 < 224 ∧ 128 ≤ at8 q 1 ∧ at8 q 1 < 192
  · rw [if_pos g1] at e
    split at e
    · rename_i hv
      rw [e] at e2 ⊢
      simp only [show 0 < 2 from by omega, show 1 < 2 from by omega, if_true] at e2
      rw [e2, if_neg g0, if_pos g1, if_pos hv]
    · exact brkCase e
  rw [if_neg g1] at e
  by_cases g2 : 224 ≤ at8 q 0 ∧ at8 q 0 < 240 ∧ (128 ≤ at8 q 1 ∧ at8 q 1 < 192) ∧ 128 ≤ at8 q 2 ∧ at8 q 2 < 192
  · rw [if_pos g2] at e
    split at e
    · rename_i hv
      rw [e] at e2 ⊢
      simp only [show 0 < 3 from by omega, show 1 < 3 from by omega, show 2 < 3 from by omega, if_true] at e2
      rw [e2, if_neg g0, if_neg (by omega), if_pos g2, if_pos hv]
    · exact brkCase e
  rw [if_neg g2] at e
  by_cases g3 : 240 ≤ at8 q 0 ∧ at8 q 0 < 248 ∧ (128 ≤ at8 q 1 ∧ at8 q 1 < 192) ∧ (128 ≤ at8 q 2 ∧ at8 q 2 < 192) ∧ 128 ≤ at8 q 3 ∧ at8 q 3 < 192
  · rw [if_pos g3] at e
    split at e
    · rename_i hv
      rw [e] at e2 ⊢
      simp only [show 0 < 4 from by omega, show 1 < 4 from by omega, show 2 < 4 from by omega, show 3 < 4 from by omega, if_true] at e2
      rw [e2, if_neg g0, if_neg (by omega), if_neg (by omega), if_pos g3, if_pos hv]
    · exact brkCase e
  rw [if_neg g3] at e
  exact brkCase e
/-- A part's value. -/
theorem part_val (xs : List UInt8) (i : Nat) : valR ((xs.drop i).take (widAt xs i)) = if brk (xs.drop i) then -1 else (runeAt xs i : Int) := by
  unfold valR widAt brk
  rw [decL_take]
  rfl
/-- A rune escaped. -/
def escOne (xs : List UInt8) (i : Nat) : List UInt8 :=
  if brk (xs.drop i) then [92, 120] ++ twoN (at8 xs i) ++ [46]
  else if plainB (runeAt xs i) = true ∧ runeAt xs i ≠ 92 then [UInt8.ofNat (runeAt xs i)]
  else [92] ++ twoN (runeAt xs i) ++ [46]
def escF (xs : List UInt8) (i : Nat) : List UInt8 :=
  if h : i < xs.length then escOne xs i ++ escF xs (i + widAt xs i) else []
termination_by xs.length - i
decreasing_by have := (wid_pos xs i h).1; omega
theorem escOne_len (xs : List UInt8) (i : Nat) (h : i < xs.length) : (escOne xs i).length ≤ 11 := by
  have hr := rune_le xs i h
  have h1 := (twoN_len (n := at8 xs i) (by have := at8_lt xs i; omega)).1
  have h2 := (twoN_len (n := runeAt xs i) (by omega)).1
  unfold escOne
  split
  · simp; omega
  · split
    · simp
    · simp; omega
theorem escF_len (xs : List UInt8) (i : Nat) : (escF xs i).length ≤ 11 * (xs.length - i) := by
  fun_induction escF xs i with
  | case1 i h ih => have := (wid_pos xs i h).1; have := escOne_len xs i h; rw [List.length_append]; omega
  | case2 i h => simp
/-- A plain rune is its byte. -/
theorem plain_part (xs : List UInt8) (i : Nat) (h : i < xs.length) (hp : plainB (runeAt xs i) = true) : (xs.drop i).take (widAt xs i) = [UInt8.ofNat (runeAt xs i)] ∧ ¬ brk (xs.drop i) := by
  unfold plainB at hp
  rw [decide_eq_true_iff] at hp
  rcases rune_at xs i h with ⟨h1, h2, h3⟩ | ⟨h1, h2, _⟩
  · refine ⟨?_, ?_⟩
    · rw [h3, take_one xs i h, h2]
      unfold at8
      simp
    · intro hb
      unfold brk at hb
      unfold runeAt at hp
      rw [hb] at hp
      omega
  · omega
/-- The byte that a part begins with. -/
theorem part_head (xs : List UInt8) (i : Nat) (h : i < xs.length) : at8 ((xs.drop i).take (widAt xs i)) 0 = at8 xs i ∧ 0 < ((xs.drop i).take (widAt xs i)).length ∧ ((xs.drop i).take (widAt xs i)).length ≤ 4 := by
  have hw := wid_pos xs i h
  have hw4 : widAt xs i ≤ 4 := by rcases rune_at xs i h with h | h <;> omega
  refine ⟨?_, ?_, ?_⟩
  · rw [at8_take, if_pos (by omega), at8_drop, Nat.add_zero]
  · rw [List.length_take, List.length_drop]; omega
  · rw [List.length_take]; omega
end Go.Proofs.YtefipigdkdopcaaDoor
