/- Plain facts on a record's data: any data are the bytes of what is read out of them. No condition. -/
import Derived.Test.YthkabhejfkekjaaMeta6
import Derived.Test.YthkabhejfkekjaaHeadPlain
namespace Go.Proofs.Ythkabhejfkekjaa
open Go.RowKit

theorem putB_getN (xs : List UInt8) (off k : Nat) (hk : k ≤ 8) (h : off + k ≤ xs.length) : putB k (getN xs off k) = (xs.drop off).take k := by
  refine List.ext_getElem (by rw [putB_length, List.length_take, List.length_drop]; omega) fun i h1 h2 => ?_
  rw [putB_length] at h1
  have e := putB_numN (fun i => byteAt xs ((off : Int) + i)) (fun i => byteAt_lt _ _) k i h1
  rw [← getN_in xs off k (by omega) hk] at e
  rw [List.getD_eq_getElem?_getD, List.getElem?_eq_getElem (by rw [putB_length]; exact h1), Option.getD_some] at e
  rw [e, show ((off : Int) + (i : Int)) = ((off + i : Nat) : Int) by omega, byteAt_in (by omega)]
  rw [List.getElem_take, List.getElem_drop, List.getD_eq_getElem?_getD, List.getElem?_eq_getElem (by omega), Option.getD_some]
  simp
theorem cut_two (xs : List UInt8) (a b : Nat) : xs.drop a = (xs.drop a).take b ++ xs.drop (a + b) := by
  rw [← List.drop_drop, List.take_append_drop]
/-- The pages that data bear. -/
def pagesF (xs : List UInt8) (n : Nat) : List Nat := (List.range n).map fun (i : Nat) => getN xs ((21 + 2 * i : Nat) : Int) 2
theorem pagesF_length (xs : List UInt8) (n : Nat) : (pagesF xs n).length = n := by simp [pagesF]
theorem pagesF_getD (xs : List UInt8) (n i : Nat) (h : i < n) : (pagesF xs n).getD i 0 = getN xs ((21 + 2 * i : Nat) : Int) 2 := by
  simp [pagesF, List.getD_eq_getElem?_getD, h]
theorem pgB_of (xs : List UInt8) (n : Nat) (hl : xs.length = 21 + 2 * n) : ∀ j, j ≤ n → pgB (pagesF xs n) j = (xs.drop 21).take (2 * j)
  | 0, _ => by simp [pgB]
  | j + 1, hj => by
    have e := putB_getN xs (21 + 2 * j) 2 (by omega) (by omega)
    rw [show ((2 : Nat) : Int) = 2 from rfl] at e
    rw [pgB, pgB_of xs n hl j (by omega), pagesF_getD xs n j (by omega), e]
    rw [show 2 * (j + 1) = 2 * j + 2 by omega, List.take_add, List.drop_drop]
theorem rec_of (xs : List UInt8) (n : Nat) (hl : xs.length = 21 + 2 * n) (hn : getN xs 20 1 = n) :
    recB (getN xs 0 4) (getN xs 4 4) (getN xs 8 1) (getN xs 9 2) (getN xs 11 8) (getN xs 19 1) (pagesF xs n) = xs := by
  have p0 := putB_getN xs 0 4 (by omega) (by omega)
  have p1 := putB_getN xs 4 4 (by omega) (by omega)
  have p2 := putB_getN xs 8 1 (by omega) (by omega)
  have p3 := putB_getN xs 9 2 (by omega) (by omega)
  have p4 := putB_getN xs 11 8 (by omega) (by omega)
  have p5 := putB_getN xs 19 1 (by omega) (by omega)
  have p6 := putB_getN xs 20 1 (by omega) (by omega)
  have p7 := pgB_of xs n hl n (Nat.le_refl _)
  rw [List.take_of_length_le (by rw [List.length_drop]; omega)] at p7
  simp only [show ((4 : Nat) : Int) = 4 from rfl, show ((1 : Nat) : Int) = 1 from rfl, show ((2 : Nat) : Int) = 2 from rfl, show ((8 : Nat) : Int) = 8 from rfl, show ((0 : Nat) : Int) = 0 from rfl, show ((9 : Nat) : Int) = 9 from rfl, show ((11 : Nat) : Int) = 11 from rfl, show ((19 : Nat) : Int) = 19 from rfl, show ((20 : Nat) : Int) = 20 from rfl] at p0 p1 p2 p3 p4 p5 p6
  have hn' : putB 1 n = (xs.drop 20).take 1 := by rw [← hn]; exact p6
  unfold recB recH
  rw [pagesF_length, p0, p1, p2, p3, p4, p5, hn', p7]
  have c0 := cut_two xs 0 4
  have c1 := cut_two xs 4 4
  have c2 := cut_two xs 8 1
  have c3 := cut_two xs 9 2
  have c4 := cut_two xs 11 8
  have c5 := cut_two xs 19 1
  have c6 := cut_two xs 20 1
  simp only [Nat.reduceAdd] at c0 c1 c2 c3 c4 c5 c6
  simp only [List.append_assoc]
  rw [← c6, ← c5, ← c4, ← c3, ← c2, ← c1, ← c0, List.drop_zero]
end Go.Proofs.Ythkabhejfkekjaa
