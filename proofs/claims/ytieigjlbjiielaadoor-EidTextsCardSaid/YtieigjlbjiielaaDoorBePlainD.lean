/- Plain facts on big-endian numbers: bytes of a number, the number of bytes. No condition. -/
import Derived.Laws.BitsLemmas
namespace Go.Proofs.YtieigjlbjiielaaDoor

/-- How many bytes a width means. -/
def wid (k : Int) : Nat := (min (max k 0) 8).toNat
theorem wid_le (k : Int) : wid k ≤ 8 := by unfold wid; omega
theorem wid_eq {k : Int} (h0 : 0 ≤ k) (h8 : k ≤ 8) : (wid k : Int) = k := by unfold wid; omega
theorem wid_neg {k : Int} (h : k ≤ 0) : wid k = 0 := by unfold wid; omega
theorem wid_big {k : Int} (h : 8 ≤ k) : wid k = 8 := by unfold wid; omega

def putB : Nat → Nat → List UInt8
  | 0, _ => []
  | k + 1, n => UInt8.ofNat (n / 256 ^ k) :: putB k n
theorem putB_length (k n : Nat) : (putB k n).length = k := by
  induction k with
  | zero => rfl
  | succ k ih => simp [putB, ih]
theorem putB_getD (k n : Nat) : ∀ j, j < k → (putB k n).getD j 0 = UInt8.ofNat (n / 256 ^ (k - 1 - j)) := by
  induction k with
  | zero => intro j h; omega
  | succ k ih =>
    intro j h
    cases j with
    | zero => simp [putB]
    | succ j =>
      rw [putB, List.getD_cons_succ, ih j (by omega)]
      congr 3
      omega
theorem take_snoc0 (xs : List UInt8) (k : Nat) (h : k < xs.length) : xs.take (k + 1) = xs.take k ++ [xs.getD k 0] := by
  rw [List.take_succ_eq_append_getElem h, List.getD_eq_getElem?_getD, List.getElem?_eq_getElem h]; rfl
theorem putB_take (k n j : Nat) (h : j < k) : (putB k n).take (j + 1) = (putB k n).take j ++ [UInt8.ofNat (n / 256 ^ (k - 1 - j))] := by
  rw [take_snoc0 _ _ (by rw [putB_length]; exact h), putB_getD k n j h]
theorem putB_drop (m k n : Nat) : (putB (m + k) n).drop m = putB k n := by
  induction m with
  | zero => simp
  | succ m ih => rw [Nat.add_right_comm, putB, List.drop_succ_cons, ih]
theorem putB_cons (k n : Nat) : putB (k + 1) n = UInt8.ofNat (n / 256 ^ k) :: putB k n := rfl

/-- A number out of bytes. -/
def numN (f : Nat → Nat) : Nat → Nat
  | 0 => 0
  | k + 1 => numN f k * 256 + f k
theorem numN_lt {f : Nat → Nat} (hf : ∀ i, f i < 256) : ∀ k, numN f k < 256 ^ k
  | 0 => by simp [numN]
  | k + 1 => by
    have h1 := numN_lt hf k
    have h2 := hf k
    have e : (256 : Nat) ^ (k + 1) = 256 ^ k * 256 := Nat.pow_succ 256 k
    rw [numN, e]
    omega
theorem pow256_le {k : Nat} (h : k ≤ 8) : (256 : Nat) ^ k ≤ 18446744073709551616 := Nat.le_trans (Nat.pow_le_pow_right (by decide) h) (by decide)
theorem pow256_le7 {k : Nat} (h : k < 8) : (256 : Nat) ^ k ≤ 72057594037927936 := Nat.le_trans (Nat.pow_le_pow_right (by decide) (show k ≤ 7 by omega)) (by decide)
theorem numN_lt64 {f : Nat → Nat} (hf : ∀ i, f i < 256) {k : Nat} (h : k ≤ 8) : numN f k < 18446744073709551616 := Nat.lt_of_lt_of_le (numN_lt hf k) (pow256_le h)
theorem numN_lt56 {f : Nat → Nat} (hf : ∀ i, f i < 256) {k : Nat} (h : k < 8) : numN f k < 72057594037927936 := Nat.lt_of_lt_of_le (numN_lt hf k) (pow256_le7 h)
theorem numN_congr {f g : Nat → Nat} : ∀ k, (∀ i, i < k → f i = g i) → numN f k = numN g k
  | 0, _ => rfl
  | k + 1, h => by rw [numN, numN, numN_congr k (fun i hi => h i (by omega)), h k (by omega)]
/-- The number of a number's bytes. -/
theorem numN_putB (k n : Nat) : numN (fun i => ((putB k n).getD i 0).toNat) k = n % 256 ^ k := by
  have key : ∀ j, j ≤ k → numN (fun i => ((putB k n).getD i 0).toNat) j = n / 256 ^ (k - j) % 256 ^ j := by
    intro j
    induction j with
    | zero => intro _; simp [numN, Nat.mod_one]
    | succ j ih =>
      intro hj
      rw [numN, ih (by omega), putB_getD k n j (by omega), UInt8.toNat_ofNat']
      have e1 : k - j = (k - (j + 1)) + 1 := by omega
      have e2 : k - 1 - j = k - (j + 1) := by omega
      have e5 : (256 : Nat) ^ (j + 1) = 256 * 256 ^ j := by rw [Nat.pow_succ, Nat.mul_comm]
      rw [e1, e2, Nat.pow_succ 256 (k - (j + 1)), ← Nat.div_div_eq_div_mul, e5]
      generalize n / 256 ^ (k - (j + 1)) = a
      have e3 : a % (256 * 256 ^ j) = a % 256 + 256 * (a / 256 % 256 ^ j) := Nat.mod_mul
      show a / 256 % 256 ^ j * 256 + a % 256 = _
      omega
  have := key k (Nat.le_refl _)
  simpa using this

/-- The byte at a place; 0 where there is none. -/
def byteAt (xs : List UInt8) (i : Int) : Nat := if 0 ≤ i ∧ i < xs.length then (xs.getD i.toNat 0).toNat else 0
theorem byteAt_lt (xs : List UInt8) (i : Int) : byteAt xs i < 256 := by
  unfold byteAt
  split
  · exact (xs.getD i.toNat 0).toNat_lt
  · omega
def clampAt (xs : List UInt8) (at_ : Int) : Int := max (min at_ xs.length) (-8)
/-- What be.Get reads. -/
def getN (xs : List UInt8) (at_ k : Int) : Nat := numN (fun i => byteAt xs (clampAt xs at_ + i)) (wid k)
theorem getN_lt (xs : List UInt8) (at_ k : Int) : getN xs at_ k < 18446744073709551616 := numN_lt64 (fun i => byteAt_lt _ _) (wid_le k)
theorem byteAt_in {xs : List UInt8} {i : Nat} (h : i < xs.length) : byteAt xs i = (xs.getD i 0).toNat := by
  unfold byteAt
  rw [if_pos (by omega)]
  rfl
theorem byteAt_out {xs : List UInt8} {i : Int} (h : i < 0 ∨ (xs.length : Int) ≤ i) : byteAt xs i = 0 := by
  unfold byteAt
  rw [if_neg (by omega)]
theorem getN_in (xs : List UInt8) (at_ k : Nat) (h : at_ ≤ xs.length) (hk : k ≤ 8) : getN xs at_ k = numN (fun i => byteAt xs ((at_ : Int) + i)) k := by
  unfold getN
  have e1 : wid (k : Int) = k := by unfold wid; omega
  have e2 : clampAt xs at_ = at_ := by unfold clampAt; omega
  rw [e1, e2]
theorem getN_nil (at_ k : Int) : getN [] at_ k = 0 := by
  unfold getN
  have h : ∀ j, numN (fun i => byteAt [] (clampAt [] at_ + i)) j = 0 := by
    intro j
    induction j with
    | zero => rfl
    | succ j ih => rw [numN, ih, byteAt_out (by simp; omega)]
  exact h _
theorem getN_zero (xs : List UInt8) (at_ k : Int) (h : k ≤ 0) : getN xs at_ k = 0 := by
  unfold getN
  rw [wid_neg h]; rfl
theorem numN_split (f : Nat → Nat) (k j : Nat) : numN f (k + j) = numN f k * 256 ^ j + numN (fun i => f (k + i)) j := by
  induction j with
  | zero => simp [numN]
  | succ j ih =>
    rw [← Nat.add_assoc, numN, ih, numN, Nat.pow_succ, Nat.add_mul]
    rw [Nat.mul_assoc]
    omega

/-- A row of numbers, each of a width, one behind the other: the first j pairs. -/
def rowN (ps : List Nat) : Nat → List UInt8
  | 0 => []
  | j + 1 => rowN ps j ++ putB (min (ps.getD (2 * j) 0) 8) (ps.getD (2 * j + 1) 0)
theorem rowN_length_le (ps : List Nat) : ∀ j, (rowN ps j).length ≤ 8 * j
  | 0 => by simp [rowN]
  | j + 1 => by
    have := rowN_length_le ps j
    rw [rowN, List.length_append, putB_length]
    omega

theorem getN_behind (xs : List UInt8) (k : Int) (m : Nat) : getN (xs ++ putB (wid k) m) xs.length k = numN (fun i => ((putB (wid k) m).getD i 0).toNat) (wid k) := by
  unfold getN
  have e : clampAt (xs ++ putB (wid k) m) xs.length = xs.length := by unfold clampAt; rw [List.length_append]; omega
  rw [e]
  refine numN_congr _ (fun i hi => ?_)
  have h1 : xs.length + i < (xs ++ putB (wid k) m).length := by rw [List.length_append, putB_length]; omega
  rw [show ((xs.length : Int) + (i : Int)) = ((xs.length + i : Nat) : Int) by omega, byteAt_in h1]
  congr 1
  rw [List.getD_eq_getElem?_getD, List.getD_eq_getElem?_getD, List.getElem?_append_right (by omega)]
  congr 2; omega
theorem getN_tail (q m : Nat) (hq : q ≤ 8) : getN (putB 8 m) ((8 - q : Nat) : Int) q = numN (fun i => ((putB q m).getD i 0).toNat) q := by
  rw [getN_in _ _ _ (by rw [putB_length]; omega) hq]
  refine numN_congr _ (fun i hi => ?_)
  rw [show (((8 - q : Nat) : Int) + (i : Int)) = ((8 - q + i : Nat) : Int) by omega, byteAt_in (by rw [putB_length]; omega)]
  congr 1
  have e : putB 8 m = putB ((8 - q) + q) m := by congr 1; omega
  rw [e, ← putB_drop (8 - q) q m]
  simp [List.getD, List.getElem?_drop]
theorem belays_math (xs : List UInt8) (k : Int) (m : Nat) : getN (xs ++ putB (wid k) m) xs.length k = getN (putB 8 m) ((8 - wid k : Nat) : Int) (wid k) := by
  rw [getN_behind, getN_tail _ _ (wid_le k)]
end Go.Proofs.YtieigjlbjiielaaDoor
