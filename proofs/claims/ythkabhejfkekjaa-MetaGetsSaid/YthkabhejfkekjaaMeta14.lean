/- Plain facts: what a reader of a record's data reads is what stands at their places. No condition. -/
import Derived.Test.YthkabhejfkekjaaMeta11
import Derived.Test.YthkabhejfkekjaaMeta12
namespace Go.Proofs.Ythkabhejfkekjaa
open Go.RowKit

theorem getN_take2 (xs : List UInt8) (a m : Nat) (ha : a + m ≤ xs.length) (hm : m ≤ 8) : getN ((xs.drop a).take m) 0 m = getN xs a m := by
  rw [show (0 : Int) = ((0 : Nat) : Int) from rfl, getN_in _ _ _ (by omega) hm, getN_in _ _ _ (by omega) hm]
  refine numN_congr _ (fun i hi => ?_)
  have h1 : i < ((xs.drop a).take m).length := by rw [List.length_take, List.length_drop]; omega
  rw [show (((0 : Nat) : Int) + (i : Int)) = ((i : Nat) : Int) by omega, byteAt_in h1, show ((a : Int) + (i : Int)) = ((a + i : Nat) : Int) by omega, byteAt_in (by omega)]
  simp [List.getD, List.getElem?_take, hi, List.getElem?_drop]
/-- A reader's state at place a. -/
def StA (xs : List UInt8) (a : Nat) (q : List UInt8 × Bool) : Prop := (a ≤ xs.length ∧ q = (xs.drop a, false)) ∨ (xs.length < a ∧ q.2 = true)
theorem stA_step {xs : List UInt8} {a : Nat} {q : List UInt8 × Bool} (h : StA xs a q) (k : Nat) (h1 : 1 ≤ k) (h8 : k ≤ 8) : StA xs (a + k) (stp q k) := by
  have hw : nw (k : Int) = k := by unfold nw; rw [if_neg (by omega)]
  unfold stp rdLeft rdShort
  rw [hw]
  rcases h with ⟨ha, rfl⟩ | ⟨ha, hs⟩
  · by_cases hk : a + k ≤ xs.length
    · refine .inl ⟨hk, ?_⟩
      have e : decide ((k : Int) < 0 ∨ ((xs.drop a).length : Int) < k) = false := by rw [decide_eq_false_iff_not, List.length_drop]; omega
      simp only [e, Bool.false_or, Int.toNat_natCast, List.drop_drop]
      rfl
    · refine .inr ⟨by omega, ?_⟩
      have e : decide ((k : Int) < 0 ∨ ((xs.drop a).length : Int) < k) = true := by rw [decide_eq_true_iff, List.length_drop]; omega
      simp only [e, Bool.false_or]
  · refine .inr ⟨by omega, ?_⟩
    simp [hs]
theorem stA_num {xs : List UInt8} {a : Nat} {q : List UInt8 × Bool} (h : StA xs a q) (k : Nat) (h1 : 1 ≤ k) (h8 : k ≤ 8) (hl : a + k ≤ xs.length) : rdNum q.1 q.2 k = getN xs a k := by
  have hw : nw (k : Int) = k := by unfold nw; rw [if_neg (by omega)]
  rcases h with ⟨ha, rfl⟩ | ⟨ha, hs⟩
  · unfold rdNum rdOut rdShort
    rw [hw]
    have e : decide ((k : Int) < 0 ∨ ((xs.drop a).length : Int) < k) = false := by rw [decide_eq_false_iff_not, List.length_drop]; omega
    simp only [e, Bool.false_or, Int.toNat_natCast]
    rw [if_neg (by simp)]
    exact getN_take2 xs a k hl h8
  · omega
theorem stA_pages {xs : List UInt8} {a : Nat} {q : List UInt8 × Bool} (h : StA xs a q) : ∀ j, StA xs (a + 2 * j) (pgSt q j)
  | 0 => h
  | j + 1 => by
    have := stA_step (stA_pages h j) 2 (by omega) (by omega)
    rw [show a + 2 * j + 2 = a + 2 * (j + 1) by omega] at this
    exact this
theorem stA_pgVs {xs : List UInt8} {q : List UInt8 × Bool} (h : StA xs 21 q) (n : Nat) (hl : 21 + 2 * n ≤ xs.length) : pgVs q n = pagesF xs n := by
  unfold pgVs pagesF
  refine List.map_congr_left fun i hi => ?_
  have hi' := List.mem_range.1 hi
  exact stA_num (stA_pages h i) 2 (by omega) (by omega) (by omega)
theorem getN_byte (xs : List UInt8) (a : Nat) (h : a < xs.length) : getN xs a 1 = (xs.getD a 0).toNat := by
  have e := getN_in xs a 1 (by omega) (by omega)
  rw [show ((1 : Nat) : Int) = 1 from rfl] at e
  rw [e]
  show 0 * 256 + byteAt xs ((a : Int) + ((0 : Nat) : Int)) = _
  rw [show (a : Int) + ((0 : Nat) : Int) = ((a : Nat) : Int) by omega, byteAt_in h]
  omega
theorem getN_lt1 (xs : List UInt8) (at_ : Int) : getN xs at_ 1 < 256 := numN_lt (fun i => byteAt_lt _ _) 1
/-- What is wrong with data as a record. -/
def erF (xs : List UInt8) (lp : Int) : Nat :=
  if xs.length < 21 then 5 else if xs.length < 21 + 2 * (xs.getD 20 0).toNat then 5 else if 21 + 2 * (xs.getD 20 0).toNat < xs.length then 6
  else if mayM (getN xs 0 4) (getN xs 4 4) (xs.getD 8 0).toNat (getN xs 9 2) lp (ints (pagesF xs (xs.getD 20 0).toNat)) then (if 1 < (xs.getD 19 0).toNat then 6 else 0) else 6
def outF (e : Ending) (w' : World) (xs : List UInt8) (lp : Int) : Prop :=
  mgOut e w' (erF xs lp) (getN xs 0 4) (getN xs 4 4) (xs.getD 8 0).toNat (getN xs 9 2) (getN xs 11 8) ((((xs.getD 19 0).toNat : Nat) : Int) == 1) lp (pagesF xs (xs.getD 20 0).toNat)
theorem mgOut_bad {e : Ending} {w' : World} {er id fi pr le en : Nat} {pl : Bool} {lp : Int} {ps : List Nat} (h : mgOut e w' er id fi pr le en pl lp ps) (he : er ≠ 0) (id2 fi2 pr2 le2 en2 : Nat) (pl2 : Bool) (ps2 : List Nat) : mgOut e w' er id2 fi2 pr2 le2 en2 pl2 lp ps2 := by
  rcases h with h | ⟨h, _⟩
  · exact .inl h
  · exact absurd h he
theorem recB_pl {id fi pr le en p p2 : Nat} {ps : List Nat} (h : recB id fi pr le en p ps = recB id fi pr le en p2 ps) (h1 : p < 256) (h2 : p2 < 256) : p = p2 := by
  unfold recB recH at h
  simp only [List.append_assoc] at h
  have h := List.append_cancel_left (List.append_cancel_left (List.append_cancel_left (List.append_cancel_left (List.append_cancel_left h))))
  have hh := (List.append_inj h (by rw [putB_length, putB_length])).1
  have e1 := getN_mid [] [] 1 p (by omega) (by omega)
  have e2 := getN_mid [] [] 1 p2 (by omega) (by omega)
  rw [hh] at e1
  exact e1.symm.trans e2

theorem mget_all (xs : List UInt8) (lp : Int) (w : World) (hx1m : xs.length ≤ 1000) : Calls Try.prog 67 #[.string ⟨xs.toArray⟩, .int .i64 lp] w fun e w' => outF e w' xs lp ∧ Below w.heap.size w w' := by
  have s0 : StA xs 0 (xs, false) := .inl ⟨by omega, by simp⟩
  have s1 := stA_step s0 4 (by omega) (by omega)
  have s2 := stA_step s1 4 (by omega) (by omega)
  have s3 := stA_step s2 1 (by omega) (by omega)
  have s4 := stA_step s3 2 (by omega) (by omega)
  have s5 := stA_step s4 8 (by omega) (by omega)
  have s6 := stA_step s5 1 (by omega) (by omega)
  have s7 := stA_step s6 1 (by omega) (by omega)
  simp only [Nat.zero_add, Nat.reduceAdd] at s1 s2 s3 s4 s5 s6 s7
  simp only [show ((4 : Nat) : Int) = 4 from rfl, show ((1 : Nat) : Int) = 1 from rfl, show ((2 : Nat) : Int) = 2 from rfl, show ((8 : Nat) : Int) = 8 from rfl] at s1 s2 s3 s4 s5 s6 s7
  have key := mget_any xs lp w hx1m _ _ _ _ _ _ _ _ _ _ _ _ _ _ _ _ _ rfl rfl rfl rfl rfl rfl rfl rfl rfl rfl rfl rfl rfl rfl rfl rfl (Nat.le_of_lt_succ (getN_lt1 _ _)) rfl (getN_lt _ _ _)
  refine key.mono fun e w' h => ⟨?_, h.2⟩
  have h := h.1
  clear key
  generalize stp (xs, false) 4 = q1 at *
  generalize stp q1 4 = q2 at *
  generalize stp q2 1 = q3 at *
  generalize stp q3 2 = q4 at *
  generalize stp q4 8 = q5 at *
  generalize stp q5 1 = q6 at *
  generalize stp q6 1 = q7 at *
  unfold outF erF
  by_cases h21 : xs.length < 21
  · rw [if_pos h21]
    have hs : (pgSt q7 (rdNum q6.1 q6.2 1)).2 = true := by
      rcases stA_pages s7 (rdNum q6.1 q6.2 1) with ⟨g, _⟩ | ⟨_, g⟩
      · omega
      · exact g
    rw [if_pos hs] at h
    exact mgOut_bad h (by decide) _ _ _ _ _ _ _
  · rw [if_neg h21]
    have n0 := stA_num s0 4 (by omega) (by omega) (by omega)
    have n1 := stA_num s1 4 (by omega) (by omega) (by omega)
    have n2 := stA_num s2 1 (by omega) (by omega) (by omega)
    have n3 := stA_num s3 2 (by omega) (by omega) (by omega)
    have n4 := stA_num s4 8 (by omega) (by omega) (by omega)
    have n5 := stA_num s5 1 (by omega) (by omega) (by omega)
    have n6 := stA_num s6 1 (by omega) (by omega) (by omega)
    have g8 := getN_byte xs 8 (by omega)
    have g19 := getN_byte xs 19 (by omega)
    have g20 := getN_byte xs 20 (by omega)
    simp only [show ((4 : Nat) : Int) = 4 from rfl, show ((1 : Nat) : Int) = 1 from rfl, show ((2 : Nat) : Int) = 2 from rfl, show ((8 : Nat) : Int) = 8 from rfl, show ((0 : Nat) : Int) = 0 from rfl, show ((9 : Nat) : Int) = 9 from rfl, show ((11 : Nat) : Int) = 11 from rfl, show ((19 : Nat) : Int) = 19 from rfl, show ((20 : Nat) : Int) = 20 from rfl] at n0 n1 n2 n3 n4 n5 n6 g8 g19 g20
    rw [g8] at n2
    rw [g19] at n5
    rw [g20] at n6
    rw [n0, n1, n2, n3, n4, n5, n6] at h
    by_cases hs : xs.length < 21 + 2 * (xs.getD 20 0).toNat
    · rw [if_pos hs]
      have hs2 : (pgSt q7 (xs.getD 20 0).toNat).2 = true := by
        rcases stA_pages s7 (xs.getD 20 0).toNat with ⟨g, _⟩ | ⟨_, g⟩
        · omega
        · exact g
      rw [if_pos hs2] at h
      exact mgOut_bad h (by decide) _ _ _ _ _ _ _
    · rw [if_neg hs]
      have hq : pgSt q7 (xs.getD 20 0).toNat = (xs.drop (21 + 2 * (xs.getD 20 0).toNat), false) := by
        rcases stA_pages s7 (xs.getD 20 0).toNat with ⟨_, g⟩ | ⟨g, _⟩
        · exact g
        · omega
      rw [stA_pgVs s7 _ (by omega), hq] at h
      rw [if_neg (show ¬ (false = true) by decide)] at h
      by_cases hm : 21 + 2 * (xs.getD 20 0).toNat < xs.length
      · rw [if_pos hm]
        rw [if_neg (by
          intro e
          have := congrArg List.length e
          simp only [List.length_drop, List.length_nil] at this
          omega)] at h
        exact h
      · rw [if_neg hm]
        rw [if_pos (by exact List.drop_eq_nil_of_le (by omega))] at h
        have hrec := rec_of xs (xs.getD 20 0).toNat (by omega) g20
        rw [g8, g19] at hrec
        have hlt := (xs.getD 19 0).toNat_lt
        generalize (xs.getD 19 0).toNat = pn at *
        generalize pagesF xs (xs.getD 20 0).toNat = ps at *
        have hiff : recB (getN xs 0 4) (getN xs 4 4) (xs.getD 8 0).toNat (getN xs 9 2) (getN xs 11 8) (plN ((pn : Int) == 1)) ps = xs ↔ ¬ 1 < pn := by
          constructor
          · intro hh hp
            have hh := hh.trans hrec.symm
            have hpl : plN ((pn : Int) == 1) = 0 := by
              unfold plN
              rw [if_neg]
              intro hc
              rw [beq_iff_eq] at hc
              omega
            rw [hpl] at hh
            have := recB_pl hh (by decide) hlt
            omega
          · intro hp
            have hpl : plN ((pn : Int) == 1) = pn := by
              unfold plN
              by_cases hc : pn = 1
              · subst hc; rfl
              · rw [if_neg (by rw [beq_iff_eq]; omega)]; omega
            rw [hpl]; exact hrec
        by_cases hp : 1 < pn
        · rw [if_neg (fun hc => hiff.1 hc hp)] at h
          rw [if_pos hp]
          exact h
        · rw [if_pos (hiff.2 hp)] at h
          rw [if_neg hp]
          exact h
end Go.Proofs.Ythkabhejfkekjaa
