/- Contracts of meta.Super and meta.Counters. No condition but the length's bound. -/
import Derived.Test.YthkabhejfkekjaaMeta3
import Derived.Test.YthkabhejfkekjaaBeRd
import Derived.Test.YthkabhejfkekjaaFramePlain
namespace Go.Proofs.Ythkabhejfkekjaa
open Go.RowKit

set_option maxRecDepth 100000 in
set_option maxHeartbeats 2000000 in
theorem super_yes (id fr : Nat) (w : World) (h1 : id < 2147483648) (h2 : fr < 2147483648) :
    Calls Try.prog 70 #[.int .u64 id, .int .u64 fr] w fun e w' => e = .returned (.tuple #[.string ⟨(putB 4 id ++ putB 4 fr).toArray⟩, .int .i64 0]) ∧ Below w.heap.size w w' := by
  have k1 : decide ((2147483648 : Int) ≤ id) = false := by rw [decide_eq_false_iff_not]; omega
  have k2 : decide ((2147483648 : Int) ≤ fr) = false := by rw [decide_eq_false_iff_not]; omega
  have hu : RdU (w.alloc (.cells #[.int .u64 4, .int .u64 (id : Int), .int .u64 4, .int .u64 (fr : Int)] 24)) (some ⟨w.heap.size, 0, none⟩) 4 4 [4, id, 4, fr] := cells_rd' rfl (by decide)
  have hB := (one_cells w #[.int .u64 4, .int .u64 (id : Int), .int .u64 4, .int .u64 (fr : Int)] 24).1
  have KR := Lib.hid (row_any [4, id, 4, fr] _ 4 4 _ hu (by omega) (by
    intro i
    rcases Nat.lt_or_ge i 4 with hi | hi
    · rcases (by omega : i = 0 ∨ i = 1 ∨ i = 2 ∨ i = 3) with rfl | rfl | rfl | rfl <;> simp <;> omega
    · rw [List.getD_eq_getElem?_getD, List.getElem?_eq_none (by simpa using hi)]; decide))
  rw [show 4 / 2 = 2 from rfl, show rowN [4, id, 4, fr] 2 = putB 4 id ++ putB 4 fr by simp [rowN]] at KR
  generalize putB 4 id ++ putB 4 fr = sb at *
  clear h1 h2
  go_enter Try.func70, Try.ntmps70
  go_wp2_with fail
  refine KR.out.mono ?_
  rintro e w2 ⟨A2, n2, k2, rfl, hr, hb⟩
  have hks := run_string_of (P := Try.prog) 22 9 5 Try.underlying22 Try.underlying5 Try.underlying9 hr
  go_wp2_with fail
  go_ret2
  exact ⟨rfl, below_trans hB hb⟩
theorem super_no (id fr : Nat) (w : World) (h : 2147483648 ≤ id ∨ 2147483648 ≤ fr) :
    Calls Try.prog 70 #[.int .u64 id, .int .u64 fr] w fun e w' => e = .returned (.tuple #[.string ⟨#[]⟩, .int .i64 3]) ∧ w = w' := by
  rcases (by omega : 2147483648 ≤ id ∨ (id < 2147483648 ∧ 2147483648 ≤ fr)) with h1 | ⟨h1, h2⟩
  · have k1 : decide ((2147483648 : Int) ≤ id) = true := by rw [decide_eq_true_iff]; omega
    clear h h1
    go_enter Try.func70, Try.ntmps70
    go_wp2
    go_ret2
    exact ⟨rfl, rfl⟩
  · have k1 : decide ((2147483648 : Int) ≤ id) = false := by rw [decide_eq_false_iff_not]; omega
    have k2 : decide ((2147483648 : Int) ≤ fr) = true := by rw [decide_eq_true_iff]; omega
    clear h h1 h2
    go_enter Try.func70, Try.ntmps70
    go_wp2
    go_ret2
    exact ⟨rfl, rfl⟩

/-! A reader's steps -/
theorem rd_ok (xs : List UInt8) (k : Nat) (h1 : 1 ≤ k) (h8 : k ≤ 8) (h : k ≤ xs.length) : rdNum xs false k = getN xs 0 k ∧ rdLeft xs false (nw k) = xs.drop k ∧ rdShort xs false (nw k) = false := by
  have e : nw (k : Int) = k := by unfold nw; rw [if_neg (by omega)]
  have hs : rdShort xs false (k : Int) = false := by unfold rdShort; simp; omega
  refine ⟨?_, ?_, by rw [e, hs]⟩
  · unfold rdNum rdOut
    rw [e, hs, if_neg (by decide), Int.toNat_natCast]
    have := getN_congr (xs.take k) xs 0 k h8 (by rw [List.length_take]; omega) (by omega) (fun i _ hi => by
      simp [List.getD_eq_getElem?_getD, List.getElem?_take, show i < k by omega])
    simpa using this
  · unfold rdLeft
    rw [e, hs, if_neg (by decide), Int.toNat_natCast]
theorem rd_few (xs : List UInt8) (k : Nat) (h1 : 1 ≤ k) (h8 : k ≤ 8) (h : xs.length < k) : rdShort xs false (nw k) = true := by
  have e : nw (k : Int) = k := by unfold nw; rw [if_neg (by omega)]
  rw [e]; unfold rdShort; simp; omega
theorem rd_shut (xs : List UInt8) (k : Int) : rdShort xs true k = true := rfl
theorem getN_drop (xs : List UInt8) (a k : Nat) (hk : k ≤ 8) (h : a + k ≤ xs.length) : getN (xs.drop a) 0 k = getN xs a k := by
  have e0 := getN_in (xs.drop a) 0 k (by omega) hk
  have e1 := getN_in xs a k (by omega) hk
  rw [show ((0 : Nat) : Int) = 0 from rfl] at e0
  rw [e0, e1]
  refine numN_congr _ (fun i hi => ?_)
  rw [show ((0 : Int) + (i : Int)) = ((i : Nat) : Int) by omega, show ((a : Int) + (i : Int)) = ((a + i : Nat) : Int) by omega, byteAt_in (by rw [List.length_drop]; omega), byteAt_in (by omega)]
  simp [List.getD_eq_getElem?_getD]

/-- Counters out of data. -/
def cntF (xs : List UInt8) : Nat × Nat × Nat :=
  if xs.length = 0 then (0, 0, 0)
  else if xs.length < 8 then (0, 0, 5)
  else if 8 < xs.length ∨ 2147483648 ≤ getN xs 0 4 ∨ 2147483648 ≤ getN xs 4 4 then (0, 0, 6)
  else (getN xs 0 4, getN xs 4 4, 0)
theorem cntF_put (id fr : Nat) (h1 : id < 2147483648) (h2 : fr < 2147483648) : cntF (putB 4 id ++ putB 4 fr) = (id, fr, 0) := by
  have g1 := getN_mid [] (putB 4 fr) 4 id (by omega) (by omega)
  have g2 := getN_mid (putB 4 id) [] 4 fr (by omega) (by omega)
  rw [List.nil_append] at g1
  rw [List.append_nil, putB_length] at g2
  have g1' : getN (putB 4 id ++ putB 4 fr) 0 4 = id := g1
  have g2' : getN (putB 4 id ++ putB 4 fr) 4 4 = fr := g2
  have hl : (putB 4 id ++ putB 4 fr).length = 8 := by simp [putB_length]
  unfold cntF
  rw [hl, g1', g2', if_neg (by omega), if_neg (by omega), if_neg (by omega)]

set_option maxRecDepth 100000 in
set_option maxHeartbeats 4000000 in
theorem counters_any (a b er : Nat) (xs : List UInt8) (w : World) (hN : xs.length ≤ 1000000) (hc : cntF xs = (a, b, er)) :
    Calls Try.prog 71 #[.string ⟨xs.toArray⟩] w fun e w' => e = .returned (.tuple #[.int .u64 a, .int .u64 b, .int .i64 er]) ∧ Below w.heap.size w w' := by
  unfold cntF at hc
  split at hc
  · rename_i h0
    simp only [Prod.mk.injEq] at hc
    obtain ⟨rfl, rfl, rfl⟩ := hc
    obtain rfl : xs = [] := List.eq_nil_of_length_eq_zero h0
    go_enter Try.func71, Try.ntmps71
    go_wp2_with fail
    go_ret3
    exact ⟨rfl, Below.refl _ _⟩
  rename_i h0
  have hne : xs.isEmpty = false := by cases xs with | nil => exact absurd rfl h0 | cons _ _ => rfl
  have hcv := run_bytes_of xs w
  have hrd := rd_bytesOf w xs (by unfold maxLen; omega)
  have hB := bytesWorld_below w 5 ⟨xs.toArray⟩
  have HC : Hid (∀ v1 v2 l1 s1 l2 s2, v1 = rdNum xs false 4 → l1 = rdLeft xs false (nw 4) → s1 = rdShort xs false (nw 4) → v2 = rdNum l1 s1 4 → l2 = rdLeft l1 s1 (nw 4) → s2 = rdShort l1 s1 (nw 4) →
      (s2 = true ∧ a = 0 ∧ b = 0 ∧ er = 5) ∨ (s2 = false ∧ l2 ≠ [] ∧ a = 0 ∧ b = 0 ∧ er = 6) ∨ (s2 = false ∧ l2 = [] ∧ ((2147483648 ≤ v1 ∧ a = 0 ∧ b = 0 ∧ er = 6) ∨ (v1 < 2147483648 ∧ 2147483648 ≤ v2 ∧ a = 0 ∧ b = 0 ∧ er = 6) ∨ (v1 < 2147483648 ∧ v2 < 2147483648 ∧ a = v1 ∧ b = v2 ∧ er = 0)))) := by
    intro v1 v2 l1 s1 l2 s2 e1 e2 e3 e4 e5 e6
    split at hc
    · rename_i h1
      simp only [Prod.mk.injEq] at hc
      left
      refine ⟨?_, hc.1.symm, hc.2.1.symm, hc.2.2.symm⟩
      by_cases h4 : xs.length < 4
      · have q : rdShort xs false (nw 4) = true := rd_few xs 4 (by omega) (by omega) h4
        rw [e6, e3, q]; rfl
      · obtain ⟨q1, q2, q3⟩ := rd_ok xs 4 (by omega) (by omega) (by omega)
        have q2' : rdLeft xs false (nw 4) = xs.drop 4 := q2
        have q3' : rdShort xs false (nw 4) = false := q3
        have := rd_few (xs.drop 4) 4 (by omega) (by omega) (by rw [List.length_drop]; omega)
        rw [e6, e3, e2, q2', q3']; exact this
    · rename_i h1
      obtain ⟨q1, q2, q3⟩ := rd_ok xs 4 (by omega) (by omega) (by omega)
      have q1' : rdNum xs false 4 = getN xs 0 4 := q1
      have q2' : rdLeft xs false (nw 4) = xs.drop 4 := q2
      have q3' : rdShort xs false (nw 4) = false := q3
      rw [q1'] at e1
      rw [q2'] at e2
      rw [q3'] at e3
      subst e2 e3
      obtain ⟨r1, r2, r3⟩ := rd_ok (xs.drop 4) 4 (by omega) (by omega) (by rw [List.length_drop]; omega)
      have r1' : rdNum (xs.drop 4) false 4 = getN (xs.drop 4) 0 4 := r1
      have r2' : rdLeft (xs.drop 4) false (nw 4) = (xs.drop 4).drop 4 := r2
      have r3' : rdShort (xs.drop 4) false (nw 4) = false := r3
      have r4 : getN (xs.drop 4) 0 4 = getN xs 4 4 := getN_drop xs 4 4 (by omega) (by omega)
      rw [r1', r4] at e4
      rw [r2', List.drop_drop] at e5
      rw [r3'] at e6
      split at hc
      · rename_i h2
        simp only [Prod.mk.injEq] at hc
        by_cases h8 : 8 < xs.length
        · right; left
          refine ⟨e6, ?_, hc.1.symm, hc.2.1.symm, hc.2.2.symm⟩
          rw [e5]
          intro hh
          have := congrArg List.length hh
          rw [List.length_drop] at this
          simp at this; omega
        · right; right
          refine ⟨e6, by rw [e5]; exact List.drop_eq_nil_of_le (by omega), ?_⟩
          omega
      · rename_i h2
        simp only [Prod.mk.injEq] at hc
        right; right
        refine ⟨e6, by rw [e5]; exact List.drop_eq_nil_of_le (by omega), ?_⟩
        omega
  clear hc h0
  obtain ⟨v1, hv1⟩ : ∃ v, v = rdNum xs false 4 := ⟨_, rfl⟩
  obtain ⟨l1, hl1⟩ : ∃ v, v = rdLeft xs false (nw 4) := ⟨_, rfl⟩
  obtain ⟨s1, hs1⟩ : ∃ v, v = rdShort xs false (nw 4) := ⟨_, rfl⟩
  obtain ⟨v2, hv2⟩ : ∃ v, v = rdNum l1 s1 4 := ⟨_, rfl⟩
  obtain ⟨l2, hl2⟩ : ∃ v, v = rdLeft l1 s1 (nw 4) := ⟨_, rfl⟩
  obtain ⟨s2, hs2⟩ : ∃ v, v = rdShort l1 s1 (nw 4) := ⟨_, rfl⟩
  have hcase := HC.out v1 v2 l1 s1 l2 s2 hv1 hl1 hs1 hv2 hl2 hs2
  have K1 := fun g W hh => Lib.hid (rdN_any xs false 4 g W hh)
  have K2 := fun g W hh => Lib.hid (rdN_any l1 s1 4 g W hh)
  have K3 := fun g W hh => Lib.hid (rdEnd_any l2 s2 g W hh)
  rw [← hv1, ← hl1, ← hs1] at K1
  rw [← hv2, ← hl2, ← hs2] at K2
  clear HC hv1 hl1 hs1 hv2 hl2 hs2
  go_enter Try.func71, Try.ntmps71
  go_wp2_with fail
  refine (over_any _ _ _ _ _ hrd (by omega)).mono ?_
  rintro e w1 ⟨g, rfl, hg, hr, hb⟩
  replace hB := below_trans hB hb
  have hgw : w.heap.size ≤ g := Nat.le_trans (bytesWorld_below w 5 ⟨xs.toArray⟩).size hg
  clear hb hg hcv hrd
  go_wp2_with fail
  refine (K1 _ _ hr).out.mono ?_
  rintro e w2 ⟨rfl, hr2, hg2⟩
  replace hB := below_gbw hg2 hB hgw
  clear hg2 hr K1
  go_wp2_with fail
  refine (K2 _ _ hr2).out.mono ?_
  rintro e w3 ⟨rfl, hr3, hg3⟩
  replace hB := below_gbw hg3 hB hgw
  clear hg3 hr2 K2
  go_wp2_with fail
  refine (K3 _ _ hr3).out.mono ?_
  clear K3 hr3
  rcases hcase with ⟨rfl, rfl, rfl, rfl⟩ | ⟨rfl, hl, rfl, rfl, rfl⟩ | ⟨rfl, rfl, h3⟩
  · rw [if_pos rfl]
    rintro e w' ⟨rfl, rfl⟩
    go_wp2_with fail
    go_ret3
    exact ⟨rfl, hB⟩
  · rw [if_neg (by decide), if_neg hl]
    rintro e w' ⟨rfl, rfl⟩
    clear hl
    go_wp2_with fail
    go_ret3
    exact ⟨rfl, hB⟩
  · rw [if_neg (by decide), if_pos rfl]
    rintro e w' ⟨rfl, rfl⟩
    rcases h3 with ⟨h3, rfl, rfl, rfl⟩ | ⟨h3, h4, rfl, rfl, rfl⟩ | ⟨h3, h4, rfl, rfl, rfl⟩
    · have k1 : decide ((2147483648 : Int) ≤ v1) = true := by rw [decide_eq_true_iff]; omega
      clear h3
      go_wp2_with fail
      go_ret3
      exact ⟨rfl, hB⟩
    · have k1 : decide ((2147483648 : Int) ≤ v1) = false := by rw [decide_eq_false_iff_not]; omega
      have k2 : decide ((2147483648 : Int) ≤ v2) = true := by rw [decide_eq_true_iff]; omega
      clear h3 h4
      go_wp2_with fail
      go_ret3
      exact ⟨rfl, hB⟩
    · have k1 : decide ((2147483648 : Int) ≤ a) = false := by rw [decide_eq_false_iff_not]; omega
      have k2 : decide ((2147483648 : Int) ≤ b) = false := by rw [decide_eq_false_iff_not]; omega
      clear h3 h4
      go_wp2_with fail
      go_ret3
      exact ⟨rfl, hB⟩
end Go.Proofs.Ythkabhejfkekjaa
