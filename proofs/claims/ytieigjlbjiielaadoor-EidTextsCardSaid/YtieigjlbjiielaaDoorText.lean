/- Plain facts on digits, words and lines of texts, as lists of bytes. No condition. -/
import Derived.Test.YtieigjlbjiielaaDoorLib2
namespace Go.Proofs.YtieigjlbjiielaaDoor
open Go.RowKit

/-! A number's digits. -/
/-- The digits of n. -/
def digs (n : Nat) : List UInt8 := if n < 10 then [UInt8.ofNat (48 + n)] else digs (n / 10) ++ [UInt8.ofNat (48 + n % 10)]
decreasing_by omega
theorem digs_length : ∀ (k n : Nat), n < 10 ^ (k + 1) → (digs n).length ≤ k + 1
  | 0, n, h => by rw [digs, if_pos (by simpa using h)]; simp
  | k + 1, n, h => by
    rw [digs]
    split
    · simp
    · have := digs_length k (n / 10) (by rw [Nat.pow_succ] at h; omega)
      simp; omega
theorem digs_len {n : Nat} (h : n < 18446744073709551616) : (digs n).length ≤ 20 := digs_length 19 n (by omega)
theorem digs_pos (n : Nat) : 0 < (digs n).length := by rw [digs]; split <;> simp
/-- Is a byte a digit? -/
def isD (c : UInt8) : Prop := 48 ≤ c.toNat ∧ c.toNat ≤ 57
theorem digs_isD : ∀ (k n : Nat), n < 10 ^ (k + 1) → ∀ c ∈ digs n, isD c
  | 0, n, h, c, hc => by
    rw [digs, if_pos (by simpa using h)] at hc
    simp only [List.mem_singleton] at hc
    subst hc
    unfold isD
    rw [UInt8.toNat_ofNat']
    have : n < 10 := by simpa using h
    omega
  | k + 1, n, h, c, hc => by
    rw [digs] at hc
    split at hc
    · simp only [List.mem_singleton] at hc
      subst hc
      unfold isD
      rw [UInt8.toNat_ofNat']
      omega
    · rcases List.mem_append.1 hc with hc | hc
      · exact digs_isD k (n / 10) (by rw [Nat.pow_succ] at h; omega) c hc
      · simp only [List.mem_singleton] at hc
        subst hc
        unfold isD
        rw [UInt8.toNat_ofNat']
        omega
theorem digs_all (n : Nat) : ∀ c ∈ digs n, isD c := digs_isD n n (Nat.lt_of_lt_of_le Nat.lt_two_pow_self (Nat.le_trans (Nat.pow_le_pow_left (by omega : 2 ≤ 10) n) (Nat.pow_le_pow_right (by omega) (by omega))))
/-- What digits are worth. -/
def valD (l : List UInt8) : Nat := l.foldl (fun (n : Nat) c => 10 * n + (c.toNat - 48)) 0
theorem valD_snoc (l : List UInt8) (c : UInt8) : valD (l ++ [c]) = 10 * valD l + (c.toNat - 48) := by simp [valD]
theorem valD_digs (n : Nat) : valD (digs n) = n := by
  induction n using Nat.strongRecOn with
  | ind n ih =>
    rw [digs]
    split
    · simp only [valD, List.foldl_cons, List.foldl_nil, UInt8.toNat_ofNat']; omega
    · rw [valD_snoc, ih (n / 10) (by omega), UInt8.toNat_ofNat']; omega
theorem digs_inj {a b : Nat} (h : digs a = digs b) : a = b := by rw [← valD_digs a, ← valD_digs b, h]
theorem valD_mono (l : List UInt8) : ∀ k, k ≤ l.length → valD (l.take k) ≤ valD l := by
  have key : ∀ (m : List UInt8) (n : Nat), n ≤ m.foldl (fun (n : Nat) c => 10 * n + (c.toNat - 48)) n := by
    intro m
    induction m with
    | nil => intro n; exact Nat.le_refl _
    | cons c m ih =>
      intro n
      exact Nat.le_trans (by omega) (ih (10 * n + (c.toNat - 48)))
  intro k _
  have e : l = l.take k ++ l.drop k := (List.take_append_drop k l).symm
  conv => rhs; rw [e]
  unfold valD
  rw [List.foldl_append]
  exact key _ _
/-- The digits of a whole number. -/
def digI (n : Int) : List UInt8 := if n < 0 then 45 :: digs n.natAbs else digs n.natAbs
theorem digI_nat (n : Nat) : digI (n : Int) = digs n := by unfold digI; rw [if_neg (by omega)]; rfl
theorem digs_head_ne (n : Nat) (r : List UInt8) : digs n ≠ 45 :: r := by
  intro h
  have := digs_all n 45 (by rw [h]; simp)
  unfold isD at this
  simp at this
theorem digI_inj {a b : Int} (h : digI a = digI b) : a = b := by
  unfold digI at h
  split at h <;> split at h
  · have := digs_inj (List.cons.inj h).2; omega
  · exact absurd h.symm (digs_head_ne _ _)
  · exact absurd h (digs_head_ne _ _)
  · have := digs_inj h; omega
theorem digI_len {n : Int} (h0 : -9223372036854775808 ≤ n) (h1 : n ≤ 9223372036854775807) : (digI n).length ≤ 21 := by
  unfold digI
  have := digs_len (n := n.natAbs) (by omega)
  split <;> simp <;> omega
theorem digI_pos (n : Int) : 0 < (digI n).length := by
  unfold digI
  have := digs_pos n.natAbs
  split <;> simp <;> omega

/-- The bound of numbers in texts. -/
def farN : Nat := 1099511627776
/-- The part of a text behind a sign, and whether there is one. -/
def unsigned (s : List UInt8) : List UInt8 := if s.head? = some 45 then s.tail else s
/-- The number that a text is. -/
def numV (s : List UInt8) : Int := if s.head? = some 45 then -(valD (unsigned s) : Int) else (valD (unsigned s) : Int)
/-- Is a text a number's digits? -/
def numOk (s : List UInt8) : Bool := decide (-(farN : Int) ≤ numV s ∧ numV s ≤ farN ∧ digI (numV s) = s)
def numF (s : List UInt8) : Int := if numOk s then numV s else 0
theorem digI_head (n : Int) : ((digI n).head? = some 45 ↔ n < 0) ∧ valD (unsigned (digI n)) = n.natAbs := by
  by_cases h : n < 0
  · have e : digI n = 45 :: digs n.natAbs := by unfold digI; rw [if_pos h]
    rw [e]
    refine ⟨by simp [h], ?_⟩
    unfold unsigned
    rw [if_pos (by rfl)]
    exact valD_digs _
  · have e : digI n = digs n.natAbs := by unfold digI; rw [if_neg h]
    have hne : ¬ (digs n.natAbs).head? = some 45 := by
      intro hh
      cases hd : digs n.natAbs with
      | nil => rw [hd] at hh; simp at hh
      | cons a r => rw [hd] at hh; simp at hh; subst hh; exact digs_head_ne _ _ hd
    rw [e]
    refine ⟨⟨fun hh => absurd hh hne, fun hh => absurd hh h⟩, ?_⟩
    unfold unsigned
    rw [if_neg hne]
    exact valD_digs _
theorem numV_digI (n : Int) : numV (digI n) = n := by
  obtain ⟨h1, h2⟩ := digI_head n
  unfold numV
  rw [h2]
  by_cases h : n < 0
  · rw [if_pos (h1.2 h)]; omega
  · rw [if_neg (fun hh => h (h1.1 hh))]; omega
theorem numOk_digI (n : Int) : numOk (digI n) = decide (-(farN : Int) ≤ n ∧ n ≤ farN) := by
  unfold numOk
  rw [numV_digI]
  simp
theorem numOk_true {s : List UInt8} (h : numOk s = true) : digI (numV s) = s ∧ -(farN : Int) ≤ numV s ∧ numV s ≤ farN := by
  unfold numOk at h
  rw [decide_eq_true_iff] at h
  exact ⟨h.2.2, h.1, h.2.1⟩
theorem numF_true {s : List UInt8} (h : numOk s = true) : numF s = numV s := by unfold numF; rw [if_pos h]
theorem numF_false {s : List UInt8} (h : numOk s = false) : numF s = 0 := by unfold numF; rw [h]; rfl
theorem numF_bounds (s : List UInt8) : -(farN : Int) ≤ numF s ∧ numF s ≤ farN := by
  cases h : numOk s with
  | true => rw [numF_true h]; exact (numOk_true h).2
  | false => rw [numF_false h]; unfold farN; omega
/-- A text of a number: its part behind the sign is digits alone. -/
theorem numOk_digits {s : List UInt8} (h : numOk s = true) : ∀ c ∈ unsigned s, isD c := by
  have e := (numOk_true h).1
  rw [← e]
  intro c hc
  unfold unsigned at hc
  unfold digI at hc
  by_cases hn : numV s < 0
  · rw [if_pos hn, if_pos (by rfl)] at hc
    exact digs_all _ c hc
  · rw [if_neg hn] at hc
    split at hc
    · exact digs_all _ c (List.mem_of_mem_tail hc)
    · exact digs_all _ c hc
theorem numOk_small {s : List UInt8} (h : numOk s = true) : valD (unsigned s) ≤ farN := by
  have := (numOk_true h).2
  unfold numV at this
  split at this <;> omega

/-! Parts of a text between bytes a, b. -/
structure Sp where
  out : List (List UInt8)
  part : List UInt8
def spStep (a b : UInt8) (few : Bool) (st : Sp) (c : UInt8) : Sp :=
  if c ≠ a ∧ c ≠ b then ⟨st.out, st.part ++ [c]⟩ else ⟨if st.part ≠ [] ∨ few = false then st.out ++ [st.part] else st.out, []⟩
def spAt (a b : UInt8) (few : Bool) (s : List UInt8) (k : Nat) : Sp := (s.take k).foldl (spStep a b few) ⟨[], []⟩
def spEnd (st : Sp) : List (List UInt8) := if st.part ≠ [] then st.out ++ [st.part] else st.out
/-- The parts of a text. -/
def split2 (a b : UInt8) (few : Bool) (s : List UInt8) : List (List UInt8) := spEnd (spAt a b few s s.length)
theorem spAt_zero (a b : UInt8) (few : Bool) (s : List UInt8) : spAt a b few s 0 = ⟨[], []⟩ := by simp [spAt]
theorem spAt_succ (a b : UInt8) (few : Bool) (s : List UInt8) (k : Nat) (h : k < s.length) : spAt a b few s (k + 1) = spStep a b few (spAt a b few s k) (s.getD k 0) := by
  unfold spAt
  rw [List.take_succ_eq_append_getElem h, List.foldl_append, List.getD_eq_getElem?_getD, List.getElem?_eq_getElem h]
  rfl
theorem spAt_part (a b : UInt8) (few : Bool) (s : List UInt8) : ∀ k, k ≤ s.length → ∃ i, i ≤ k ∧ (spAt a b few s k).part = (s.drop i).take (k - i) ∧ (spAt a b few s k).out.length ≤ k
  | 0, _ => ⟨0, Nat.le_refl _, by rw [spAt_zero]; simp, by rw [spAt_zero]; simp⟩
  | k + 1, h => by
    obtain ⟨i, hi, hp, ho⟩ := spAt_part a b few s k (by omega)
    rw [spAt_succ a b few s k (by omega)]
    unfold spStep
    split
    · refine ⟨i, by omega, ?_, by simp; omega⟩
      dsimp only
      rw [hp, show k + 1 - i = (k - i) + 1 by omega, List.take_succ_eq_append_getElem (by rw [List.length_drop]; omega), List.getElem_drop]
      congr 2
      rw [List.getD_eq_getElem?_getD, List.getElem?_eq_getElem (by omega)]
      simp only [Option.getD_some]
      congr 1; omega
    · refine ⟨k + 1, Nat.le_refl _, by simp, ?_⟩
      dsimp only
      split
      · rw [List.length_append, List.length_singleton]; omega
      · omega
/-- Words are of neither byte; they aren't empty, if few. -/
theorem spAt_free (a b : UInt8) (few : Bool) (s : List UInt8) : ∀ k, k ≤ s.length → (∀ c ∈ (spAt a b few s k).part, c ≠ a ∧ c ≠ b) ∧ (∀ p ∈ (spAt a b few s k).out, (∀ c ∈ p, c ≠ a ∧ c ≠ b) ∧ (few = true → p ≠ []) ∧ p.length ≤ s.length) ∧ (spAt a b few s k).part.length ≤ k
  | 0, _ => by rw [spAt_zero]; simp
  | k + 1, h => by
    obtain ⟨h1, h2, h3⟩ := spAt_free a b few s k (by omega)
    rw [spAt_succ a b few s k (by omega)]
    unfold spStep
    split
    · rename_i hc
      refine ⟨fun c hm => ?_, h2, by simp; omega⟩
      rcases List.mem_append.1 hm with hm | hm
      · exact h1 c hm
      · simp only [List.mem_singleton] at hm; subst hm; exact hc
    · refine ⟨by simp, fun p hp => ?_, by simp⟩
      simp only at hp
      split at hp
      · rename_i hq
        rcases List.mem_append.1 hp with hp | hp
        · exact h2 p hp
        · simp only [List.mem_singleton] at hp
          subst hp
          refine ⟨h1, fun hf => ?_, by omega⟩
          rcases hq with hq | hq
          · exact hq
          · rw [hf] at hq; cases hq
      · exact h2 p hp
theorem split2_free (a b : UInt8) (few : Bool) (s : List UInt8) : ∀ p ∈ split2 a b few s, (∀ c ∈ p, c ≠ a ∧ c ≠ b) ∧ (few = true → p ≠ []) ∧ p.length ≤ s.length := by
  obtain ⟨h1, h2, h3⟩ := spAt_free a b few s s.length (Nat.le_refl _)
  intro p hp
  unfold split2 spEnd at hp
  split at hp
  · rename_i hq
    rcases List.mem_append.1 hp with hp | hp
    · exact h2 p hp
    · simp only [List.mem_singleton] at hp
      subst hp
      exact ⟨h1, fun _ => hq, by omega⟩
  · exact h2 p hp
/-- A run of bytes that are neither. -/
theorem spAt_run (a b : UInt8) (few : Bool) (s : List UInt8) (k : Nat) : ∀ m, k + m ≤ s.length → (∀ j, k ≤ j → j < k + m → s.getD j 0 ≠ a ∧ s.getD j 0 ≠ b) → spAt a b few s (k + m) = ⟨(spAt a b few s k).out, (spAt a b few s k).part ++ (s.drop k).take m⟩
  | 0, _, _ => by simp
  | m + 1, h, hc => by
    rw [← Nat.add_assoc, spAt_succ a b few s (k + m) (by omega), spAt_run a b few s k m (by omega) (fun j h1 h2 => hc j h1 (by omega))]
    unfold spStep
    rw [if_pos (hc (k + m) (by omega) (by omega))]
    dsimp only
    rw [List.take_succ_eq_append_getElem (show m < (s.drop k).length by rw [List.length_drop]; omega), List.getElem_drop, List.append_assoc, List.getD_eq_getElem?_getD, List.getElem?_eq_getElem (by omega)]
    rfl
end Go.Proofs.YtieigjlbjiielaaDoor
