/- Plain facts on the runes of texts, as lists of bytes. No condition. -/
import Derived.Test.YtieigjlbjiielaaDoorText
import Derived.Laws.RangeAny
import Derived.Lib.OthersKept
namespace Go.Proofs.YtieigjlbjiielaaDoor
open Go.RowKit

theorem get_list (xs : List UInt8) (j : Nat) : (⟨xs.toArray⟩ : ByteArray).get! j = xs.getD j 0 := by
  show (xs.toArray)[j]! = _
  rw [List.getElem!_toArray, List.getElem!_eq_getElem?_getD, List.getD_eq_getElem?_getD]
  rfl
theorem size_list (xs : List UInt8) : (⟨xs.toArray⟩ : ByteArray).size = xs.length := by simp [ByteArray.size]
/-- The rune that a text begins with, and how many bytes it has. -/
def decL (xs : List UInt8) : Nat × Nat := Utf8.decode ⟨xs.toArray⟩ 0
theorem decode_drop (xs : List UInt8) (i : Nat) (h : i ≤ xs.length) : Utf8.decode ⟨xs.toArray⟩ i = decL (xs.drop i) := by
  have h1 : ∀ k, (xs.drop i).getD (0 + k) 0 = xs.getD (i + k) 0 := by
    intro k
    rw [List.getD_eq_getElem?_getD, List.getElem?_drop, List.getD_eq_getElem?_getD, Nat.zero_add]
  have h2 : ∀ k, (decide (0 + k < (xs.drop i).length)) = decide (i + k < xs.length) := by
    intro k
    rw [List.length_drop]
    rw [decide_eq_decide]; omega
  unfold decL
  simp only [Utf8.decode, get_list, size_list, h1, h2]
/-- Byte k of a text. -/
abbrev at8 (xs : List UInt8) (k : Nat) : Nat := (xs.getD k 0).toNat
theorem at8_lt (xs : List UInt8) (k : Nat) : at8 xs k < 256 := UInt8.toNat_lt _
theorem at8_out {xs : List UInt8} {k : Nat} (h : xs.length ≤ k) : at8 xs k = 0 := by
  unfold at8
  rw [List.getD_eq_getElem?_getD, List.getElem?_eq_none h]
  rfl
/-- The decoding, typed out. -/
theorem decL_eq (xs : List UInt8) : decL xs =
    if at8 xs 0 < 128 then (at8 xs 0, 1)
    else if 192 ≤ at8 xs 0 ∧ at8 xs 0 < 224 ∧ 128 ≤ at8 xs 1 ∧ at8 xs 1 < 192 then
      (if 128 ≤ (at8 xs 0 - 192) * 64 + (at8 xs 1 - 128) then ((at8 xs 0 - 192) * 64 + (at8 xs 1 - 128), 2) else (65533, 1))
    else if 224 ≤ at8 xs 0 ∧ at8 xs 0 < 240 ∧ (128 ≤ at8 xs 1 ∧ at8 xs 1 < 192) ∧ 128 ≤ at8 xs 2 ∧ at8 xs 2 < 192 then
      (if 2048 ≤ (at8 xs 0 - 224) * 4096 + (at8 xs 1 - 128) * 64 + (at8 xs 2 - 128) ∧ ¬ (55296 ≤ (at8 xs 0 - 224) * 4096 + (at8 xs 1 - 128) * 64 + (at8 xs 2 - 128) ∧ (at8 xs 0 - 224) * 4096 + (at8 xs 1 - 128) * 64 + (at8 xs 2 - 128) < 57344) then ((at8 xs 0 - 224) * 4096 + (at8 xs 1 - 128) * 64 + (at8 xs 2 - 128), 3) else (65533, 1))
    else if 240 ≤ at8 xs 0 ∧ at8 xs 0 < 248 ∧ (128 ≤ at8 xs 1 ∧ at8 xs 1 < 192) ∧ (128 ≤ at8 xs 2 ∧ at8 xs 2 < 192) ∧ 128 ≤ at8 xs 3 ∧ at8 xs 3 < 192 then
      (if 65536 ≤ (at8 xs 0 - 240) * 262144 + (at8 xs 1 - 128) * 4096 + (at8 xs 2 - 128) * 64 + (at8 xs 3 - 128) ∧ (at8 xs 0 - 240) * 262144 + (at8 xs 1 - 128) * 4096 + (at8 xs 2 - 128) * 64 + (at8 xs 3 - 128) ≤ 1114111 then ((at8 xs 0 - 240) * 262144 + (at8 xs 1 - 128) * 4096 + (at8 xs 2 - 128) * 64 + (at8 xs 3 - 128), 4) else (65533, 1))
    else (65533, 1) := by
  have hc : ∀ k, (decide (0 + k < xs.length) && at8 xs k / 64 == 2) = decide (128 ≤ at8 xs k ∧ at8 xs k < 192) := by
    intro k
    by_cases h : k < xs.length
    · rw [show decide (0 + k < xs.length) = true by simpa using h, Bool.true_and]
      rw [Bool.eq_iff_iff, beq_iff_eq, decide_eq_true_iff]
      omega
    · rw [show decide (0 + k < xs.length) = false by simpa using h, Bool.false_and, at8_out (by omega)]
      simp
  unfold decL
  simp only [Utf8.decode, get_list, size_list, Nat.zero_add] at hc ⊢
  simp only [hc]
  have b0 := at8_lt xs 0
  unfold at8 at *
  generalize (xs.getD 0 0).toNat = x0 at *
  generalize (xs.getD 1 0).toNat = x1 at *
  generalize (xs.getD 2 0).toNat = x2 at *
  generalize (xs.getD 3 0).toNat = x3 at *
  by_cases g0 : x0 < 128
  · rw [if_pos g0, if_pos g0]
  rw [if_neg g0, if_neg g0]
  have e1 : (x0 / 32 == 6) = decide (192 ≤ x0 ∧ x0 < 224) := by rw [Bool.eq_iff_iff, beq_iff_eq, decide_eq_true_iff]; omega
  have e2 : (x0 / 16 == 14) = decide (224 ≤ x0 ∧ x0 < 240) := by rw [Bool.eq_iff_iff, beq_iff_eq, decide_eq_true_iff]; omega
  have e3 : (x0 / 8 == 30) = decide (240 ≤ x0 ∧ x0 < 248) := by rw [Bool.eq_iff_iff, beq_iff_eq, decide_eq_true_iff]; omega
  rw [e1, e2, e3]
  by_cases g1 : 192 ≤ x0 ∧ x0 < 224 ∧ 128 ≤ x1 ∧ x1 < 192
  · rw [if_pos g1, if_pos (by simp; omega)]
    have : x0 % 32 * 64 + x1 % 64 = (x0 - 192) * 64 + (x1 - 128) := by omega
    rw [this]
    rfl
  rw [if_neg g1, if_neg (by simp; omega)]
  by_cases g2 : 224 ≤ x0 ∧ x0 < 240 ∧ (128 ≤ x1 ∧ x1 < 192) ∧ 128 ≤ x2 ∧ x2 < 192
  · rw [if_pos g2, if_pos (by simp; omega)]
    have : x0 % 16 * 4096 + x1 % 64 * 64 + x2 % 64 = (x0 - 224) * 4096 + (x1 - 128) * 64 + (x2 - 128) := by omega
    rw [this]
    generalize hv : (x0 - 224) * 4096 + (x1 - 128) * 64 + (x2 - 128) = v
    have hv2 : v < 65536 := by omega
    have hv3 : (decide (v ≥ 2048) && Utf8.valid (v : Int)) = decide (2048 ≤ v ∧ ¬ (55296 ≤ v ∧ v < 57344)) := by
      rw [Bool.eq_iff_iff]
      unfold Utf8.valid
      simp only [Bool.and_eq_true, Bool.or_eq_true, decide_eq_true_eq]
      omega
    rw [hv3]
    simp only [decide_eq_true_eq]
    rfl
  rw [if_neg g2, if_neg (by simp; omega)]
  by_cases g3 : 240 ≤ x0 ∧ x0 < 248 ∧ (128 ≤ x1 ∧ x1 < 192) ∧ (128 ≤ x2 ∧ x2 < 192) ∧ 128 ≤ x3 ∧ x3 < 192
  · rw [if_pos g3, if_pos (by simp; omega)]
    have : x0 % 8 * 262144 + x1 % 64 * 4096 + x2 % 64 * 64 + x3 % 64 = (x0 - 240) * 262144 + (x1 - 128) * 4096 + (x2 - 128) * 64 + (x3 - 128) := by omega
    rw [this]
    generalize hv : (x0 - 240) * 262144 + (x1 - 128) * 4096 + (x2 - 128) * 64 + (x3 - 128) = v
    have hv3 : (decide (v ≥ 65536) && Utf8.valid (v : Int)) = decide (65536 ≤ v ∧ v ≤ 1114111) := by
      rw [Bool.eq_iff_iff]
      unfold Utf8.valid
      simp only [Bool.and_eq_true, Bool.or_eq_true, decide_eq_true_eq]
      omega
    rw [hv3]
    simp only [decide_eq_true_eq]
    rfl
  rw [if_neg g3, if_neg (by simp; omega)]
  rfl
/-- Bytes of a rune: a byte below 128 stands alone; else no byte of it is below 128. -/
theorem decL_low {xs : List UInt8} (h : at8 xs 0 < 128) : decL xs = (at8 xs 0, 1) := by rw [decL_eq, if_pos h]
theorem decL_high {xs : List UInt8} (h : 128 ≤ at8 xs 0) : 128 ≤ (decL xs).1 ∧ (decL xs).1 ≤ 1114111 ∧ 1 ≤ (decL xs).2 ∧ (decL xs).2 ≤ 4 ∧ (decL xs).2 ≤ xs.length ∧ ∀ j, j < (decL xs).2 → 128 ≤ at8 xs j := by
  have hl : ∀ k, 0 < at8 xs k → k < xs.length := by
    intro k hk
    by_cases hkl : k < xs.length
    · exact hkl
    · rw [at8_out (by omega)] at hk; omega
  have h0 := hl 0 (by omega)
  rw [decL_eq, if_neg (by omega)]
  have one : ∀ j, j < 1 → 128 ≤ at8 xs j := by intro j hj; obtain rfl : j = 0 := (by omega); exact h
  split
  · rename_i g
    split
    · refine ⟨by omega, by simp only; omega, by simp, by simp, ?_, ?_⟩
      · have := hl 1 (by omega); show 2 ≤ xs.length; omega
      · intro j hj
        have : j < 2 := hj
        rcases (by omega : j = 0 ∨ j = 1) with rfl | rfl <;> omega
    · exact ⟨by simp, by simp, by simp, by simp, (show 1 ≤ xs.length by omega), one⟩
  split
  · rename_i g
    split
    · refine ⟨by omega, by simp only; omega, by simp, by simp, ?_, ?_⟩
      · have := hl 2 (by omega); show 3 ≤ xs.length; omega
      · intro j hj
        have : j < 3 := hj
        rcases (by omega : j = 0 ∨ j = 1 ∨ j = 2) with rfl | rfl | rfl <;> omega
    · exact ⟨by simp, by simp, by simp, by simp, (show 1 ≤ xs.length by omega), one⟩
  split
  · rename_i g
    split
    · refine ⟨by omega, by simp only; omega, by simp, by simp, ?_, ?_⟩
      · have := hl 3 (by omega); show 4 ≤ xs.length; omega
      · intro j hj
        have : j < 4 := hj
        rcases (by omega : j = 0 ∨ j = 1 ∨ j = 2 ∨ j = 3) with rfl | rfl | rfl | rfl <;> omega
    · exact ⟨by simp, by simp, by simp, by simp, (show 1 ≤ xs.length by omega), one⟩
  exact ⟨by simp, by simp, by simp, by simp, (show 1 ≤ xs.length by omega), one⟩
theorem at8_drop (xs : List UInt8) (i j : Nat) : at8 (xs.drop i) j = at8 xs (i + j) := by
  unfold at8
  rw [List.getD_eq_getElem?_getD, List.getElem?_drop, List.getD_eq_getElem?_getD]
/-- The step of a range over a text: from place i on. -/
def widAt (xs : List UInt8) (i : Nat) : Nat := (decL (xs.drop i)).2
def runeAt (xs : List UInt8) (i : Nat) : Nat := (decL (xs.drop i)).1
theorem rune_at (xs : List UInt8) (i : Nat) (h : i < xs.length) :
    (at8 xs i < 128 ∧ runeAt xs i = at8 xs i ∧ widAt xs i = 1) ∨
    (128 ≤ at8 xs i ∧ 128 ≤ runeAt xs i ∧ runeAt xs i ≤ 1114111 ∧ 1 ≤ widAt xs i ∧ widAt xs i ≤ 4 ∧ i + widAt xs i ≤ xs.length ∧ ∀ j, i ≤ j → j < i + widAt xs i → 128 ≤ at8 xs j) := by
  have e := at8_drop xs i 0
  rw [Nat.add_zero] at e
  by_cases hb : at8 xs i < 128
  · have := decL_low (xs := xs.drop i) (by rw [e]; exact hb)
    rw [e] at this
    exact .inl ⟨hb, by unfold runeAt; rw [this], by unfold widAt; rw [this]⟩
  · obtain ⟨h1, h2, h3, h4, h5, h6⟩ := decL_high (xs := xs.drop i) (by rw [e]; omega)
    rw [List.length_drop] at h5
    refine .inr ⟨by omega, h1, h2, h3, h4, by unfold widAt; omega, fun j hj1 hj2 => ?_⟩
    have := h6 (j - i) (by unfold widAt at hj2; omega)
    rw [at8_drop, show i + (j - i) = j by omega] at this
    exact this
theorem wid_pos (xs : List UInt8) (i : Nat) (h : i < xs.length) : 1 ≤ widAt xs i ∧ i + widAt xs i ≤ xs.length := by
  rcases rune_at xs i h with h1 | h1 <;> omega
/-- Words' parts over a rune. -/
theorem spAt_rune (a b : UInt8) (few : Bool) (ha : a.toNat < 128) (hb : b.toNat < 128) (s : List UInt8) (i : Nat) (h : i < s.length) :
    (runeAt s i = a.toNat ∨ runeAt s i = b.toNat → spAt a b few s (i + widAt s i) = ⟨if (spAt a b few s i).part ≠ [] ∨ few = false then (spAt a b few s i).out ++ [(spAt a b few s i).part] else (spAt a b few s i).out, []⟩ ∧ widAt s i = 1) ∧
    (runeAt s i ≠ a.toNat ∧ runeAt s i ≠ b.toNat → spAt a b few s (i + widAt s i) = ⟨(spAt a b few s i).out, (spAt a b few s i).part ++ (s.drop i).take (widAt s i)⟩) := by
  have ne : ∀ (c d : UInt8), c.toNat ≠ d.toNat → c ≠ d := fun c d hn e => hn (by rw [e])
  rcases rune_at s i h with ⟨h1, h2, h3⟩ | ⟨h1, h2, h3, h4, h5, h6, h7⟩
  · rw [h3, h2]
    constructor
    · intro hc
      refine ⟨?_, rfl⟩
      rw [spAt_succ a b few s i h]
      unfold spStep
      rw [if_neg]
      intro ⟨g1, g2⟩
      rcases hc with hc | hc
      · exact g1 (UInt8.toNat_inj.1 hc)
      · exact g2 (UInt8.toNat_inj.1 hc)
    · intro ⟨g1, g2⟩
      exact spAt_run a b few s i 1 (by omega) (fun j j1 j2 => by
        obtain rfl : j = i := by omega
        exact ⟨ne _ _ g1, ne _ _ g2⟩)
  · constructor
    · intro hc; omega
    · intro _
      exact spAt_run a b few s i (widAt s i) h6 (fun j j1 j2 => by
        have := h7 j j1 j2
        unfold at8 at this
        exact ⟨ne _ _ (by omega), ne _ _ (by omega)⟩)
end Go.Proofs.YtieigjlbjiielaaDoor
