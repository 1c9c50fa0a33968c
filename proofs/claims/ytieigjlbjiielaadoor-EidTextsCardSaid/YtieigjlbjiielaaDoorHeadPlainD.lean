/- Plain facts on heads. No condition. -/
import Derived.Test.YtieigjlbjiielaaDoorBePlainD
namespace Go.Proofs.YtieigjlbjiielaaDoor

/-- How many bytes a head's argument needs. -/
def wideN (n : Nat) : Nat := if n < 24 then 0 else if n < 256 then 1 else if n < 65536 then 2 else if n < 4294967296 then 4 else 8
theorem wideN_le (n : Nat) : wideN n ≤ 8 := by unfold wideN; (repeat' split) <;> omega
def infoN (k : Nat) : Nat := if k = 1 then 24 else if k = 2 then 25 else if k = 4 then 26 else 27
theorem wideN_cases {n : Nat} (h : 24 ≤ n) : wideN n = 1 ∧ n < 256 ∨ wideN n = 2 ∧ n < 65536 ∨ wideN n = 4 ∧ n < 4294967296 ∨ wideN n = 8 := by
  unfold wideN; (repeat' split) <;> omega
theorem wideN_few {n : Nat} (h : n < 24) : wideN n = 0 := by unfold wideN; rw [if_pos h]
/-- The bytes of a head. -/
def headB (m n : Nat) : List UInt8 := if n < 24 then [UInt8.ofNat (m * 32 + n)] else UInt8.ofNat (m * 32 + infoN (wideN n)) :: putB (wideN n) n
theorem headB_length (m n : Nat) : (headB m n).length = 1 + wideN n := by
  unfold headB
  split
  · rename_i h; rw [wideN_few h]; rfl
  · rw [List.length_cons, putB_length]; omega
/-- What a head's bytes tell: its kind, its argument, how many bytes, an error. -/
def hget (xs : List UInt8) : Nat × Nat × Nat × Nat :=
  if xs.length = 0 then (0, 0, 0, 5) else
  let b := (xs.getD 0 0).toNat
  if b % 32 < 24 then (b / 32, b % 32, 1, 0) else
  if 27 < b % 32 then (0, 0, 0, 6) else
  if xs.length < 1 + 2 ^ (b % 32 - 24) then (0, 0, 0, 5) else
  if wideN (getN xs 1 (2 ^ (b % 32 - 24) : Nat)) ≠ 2 ^ (b % 32 - 24) then (0, 0, 0, 6) else (b / 32, getN xs 1 (2 ^ (b % 32 - 24) : Nat), 1 + 2 ^ (b % 32 - 24), 0)

theorem getN_cons (x : UInt8) (k n : Nat) (hk : k ≤ 8) (more : List UInt8) (hn : n < 256 ^ k) : getN ((x :: putB k n) ++ more) 1 (k : Int) = n := by
  rw [show (1 : Int) = ((1 : Nat) : Int) from rfl, getN_in _ 1 k (by simp) hk]
  have e : numN (fun i => byteAt ((x :: putB k n) ++ more) (((1 : Nat) : Int) + i)) k = numN (fun i => ((putB k n).getD i 0).toNat) k := by
    refine numN_congr _ (fun i hi => ?_)
    rw [show (((1 : Nat) : Int) + (i : Int)) = ((1 + i : Nat) : Int) by omega, byteAt_in (by rw [List.length_append, List.length_cons, putB_length]; omega)]
    congr 1
    rw [List.getD_eq_getElem?_getD, List.getD_eq_getElem?_getD, List.cons_append, Nat.add_comm 1 i, List.getElem?_cons_succ, List.getElem?_append_left (by rw [putB_length]; exact hi)]
  rw [e, numN_putB, Nat.mod_eq_of_lt hn]

/-- A head that was laid is read. -/
theorem hget_put (m n : Nat) (hm : m < 8) (hn : n < 18446744073709551616) (more : List UInt8) : hget (headB m n ++ more) = (m, n, 1 + wideN n, 0) := by
  unfold hget
  rw [if_neg (by rw [List.length_append, headB_length]; omega)]
  by_cases h : n < 24
  · have e : ((headB m n ++ more).getD 0 0).toNat = m * 32 + n := by
      unfold headB; rw [if_pos h]; simp; omega
    simp only [e]
    rw [if_pos (by omega), wideN_few h]
    congr 1
    · omega
    · congr 1; omega
  · have e : ((headB m n ++ more).getD 0 0).toNat = m * 32 + infoN (wideN n) := by
      unfold headB; rw [if_neg h]
      simp
      have : infoN (wideN n) < 32 := by unfold infoN; (repeat' split) <;> omega
      omega
    have hl := headB_length m n
    have hi : infoN (wideN n) < 32 := by unfold infoN; (repeat' split) <;> omega
    simp only [e]
    have e2 : (m * 32 + infoN (wideN n)) % 32 = infoN (wideN n) := by omega
    have e3 : (m * 32 + infoN (wideN n)) / 32 = m := by omega
    rw [e2, e3]
    have e4 : 2 ^ (infoN (wideN n) - 24) = wideN n := by
      rcases wideN_cases (n := n) (by omega) with ⟨h, _⟩ | ⟨h, _⟩ | ⟨h, _⟩ | h <;> rw [h] <;> rfl
    have hnk : n < 256 ^ wideN n := by
      rcases wideN_cases (n := n) (by omega) with ⟨h, h2⟩ | ⟨h, h2⟩ | ⟨h, h2⟩ | h <;> rw [h] <;> omega
    have e5 : getN (headB m n ++ more) 1 (wideN n : Nat) = n := by
      unfold headB; rw [if_neg h]
      exact getN_cons _ _ _ (wideN_le n) _ hnk
    have h24 : ¬ infoN (wideN n) < 24 := by unfold infoN; (repeat' split) <;> omega
    have h27 : ¬ 27 < infoN (wideN n) := by unfold infoN; (repeat' split) <;> omega
    rw [if_neg h24, if_neg h27, e4, if_neg (by rw [List.length_append, hl]; omega), e5, if_neg (by simp)]

theorem putB_numN (f : Nat → Nat) (hf : ∀ i, f i < 256) (k : Nat) : ∀ j, j < k → (putB k (numN f k)).getD j 0 = UInt8.ofNat (f j) := by
  intro j hj
  rw [putB_getD _ _ _ hj]
  have e : numN f k = numN f (j + 1) * 256 ^ (k - 1 - j) + numN (fun i => f (j + 1 + i)) (k - 1 - j) := by
    have := numN_split f (j + 1) (k - 1 - j)
    rwa [show j + 1 + (k - 1 - j) = k by omega] at this
  have hlt := numN_lt (f := fun i => f (j + 1 + i)) (fun i => hf _) (k - 1 - j)
  have e2 : numN f k / 256 ^ (k - 1 - j) = numN f (j + 1) := by
    rw [e, Nat.mul_comm, Nat.mul_add_div (Nat.pos_of_ne_zero (by simp)), Nat.div_eq_of_lt hlt, Nat.add_zero]
  rw [e2, numN]
  apply UInt8.toNat.inj
  rw [UInt8.toNat_ofNat', UInt8.toNat_ofNat']
  omega

/-- What was read as a head is its bytes. -/
theorem hget_bytes (xs : List UInt8) (m n k : Nat) (h : hget xs = (m, n, k, 0)) : headB m n = xs.take k ∧ k ≤ xs.length ∧ m < 8 ∧ n < 18446744073709551616 := by
  unfold hget at h
  have hb := (xs.getD 0 0).toNat_lt
  split at h
  · simp at h
  · rename_i h0
    dsimp only at h
    have hx0 : UInt8.ofNat (xs.getD 0 0).toNat = xs.getD 0 0 := by simp
    split at h
    · rename_i h24
      simp only [Prod.mk.injEq] at h
      obtain ⟨rfl, rfl, rfl, -⟩ := h
      refine ⟨?_, by omega, by omega, by omega⟩
      unfold headB
      rw [if_pos h24, show (xs.getD 0 0).toNat / 32 * 32 + (xs.getD 0 0).toNat % 32 = (xs.getD 0 0).toNat by omega, hx0, take_snoc0 xs 0 (by omega)]
      rfl
    · rename_i h24
      split at h
      · simp at h
      · rename_i h27
        split at h
        · simp at h
        · rename_i hlen
          split at h
          · simp at h
          · rename_i hw
            simp only [Prod.mk.injEq] at h
            obtain ⟨rfl, rfl, rfl, -⟩ := h
            generalize hi : (xs.getD 0 0).toNat % 32 = i at *
            have hwd : wideN (getN xs 1 (2 ^ (i - 24) : Nat)) = 2 ^ (i - 24) := by simpa using hw
            have hk8 : 2 ^ (i - 24) ≤ 8 := by rw [← hwd]; exact wideN_le _
            have hinf : infoN (2 ^ (i - 24)) = i := by
              have : i = 24 ∨ i = 25 ∨ i = 26 ∨ i = 27 := by omega
              rcases this with rfl | rfl | rfl | rfl <;> rfl
            have hpos : 0 < 2 ^ (i - 24) := Nat.pos_of_ne_zero (by simp)
            have hn24 : ¬ getN xs 1 (2 ^ (i - 24) : Nat) < 24 := fun h => by rw [wideN_few h] at hwd; omega
            refine ⟨?_, by omega, by omega, getN_lt _ _ _⟩
            unfold headB
            rw [if_neg hn24, hwd, hinf, ← hi, show (xs.getD 0 0).toNat / 32 * 32 + (xs.getD 0 0).toNat % 32 = (xs.getD 0 0).toNat by omega, hx0, hi]
            rw [show (1 : Int) = ((1 : Nat) : Int) from rfl, getN_in _ 1 _ (by omega) hk8]
            generalize 2 ^ (i - 24) = q at *
            refine List.ext_getElem (by rw [List.length_cons, putB_length, List.length_take]; omega) fun j h1 h2 => ?_
            rw [List.getElem_take]
            cases j with
            | zero => rw [List.getElem_cons_zero, List.getD_eq_getElem?_getD, List.getElem?_eq_getElem (by omega)]; rfl
            | succ j =>
              rw [List.length_cons, putB_length] at h1
              rw [List.getElem_cons_succ]
              have := putB_numN (fun i => byteAt xs (((1 : Nat) : Int) + i)) (fun i => byteAt_lt _ _) q j (by omega)
              rw [List.getD_eq_getElem?_getD, List.getElem?_eq_getElem (by rw [putB_length]; omega), Option.getD_some] at this
              rw [this, show (((1 : Nat) : Int) + (j : Int)) = ((j + 1 : Nat) : Int) by omega, byteAt_in (by omega), List.getD_eq_getElem?_getD, List.getElem?_eq_getElem (by omega)]
              simp
end Go.Proofs.YtieigjlbjiielaaDoor
