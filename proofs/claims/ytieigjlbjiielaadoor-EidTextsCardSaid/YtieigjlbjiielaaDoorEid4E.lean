/- Contract of the reference's Right. No condition but the kinds' bounds. -/
import Derived.Test.YtieigjlbjiielaaDoorEid3E
namespace Go.Proofs.YtieigjlbjiielaaDoor
open Go.RowKit

def plainC (b : UInt8) : Bool := decide (32 < b.toNat ∧ b.toNat < 127)
theorem plainF_all (xs : List UInt8) (i : Nat) : plainF xs i = (xs.drop i).all plainC := by
  fun_induction plainF xs i with
  | case1 i h ih =>
    have e : xs.drop i = xs[i] :: xs.drop (i + 1) := List.drop_eq_getElem_cons h
    have h8 : at8 xs i = xs[i].toNat := by unfold at8; rw [List.getD_eq_getElem?_getD, List.getElem?_eq_getElem h]; rfl
    rw [e, List.all_cons]
    rcases rune_at xs i h with ⟨h1, h2, h3⟩ | ⟨h1, h2, h3, _⟩
    · rw [ih, h3]
      congr 1
      unfold plainB plainC
      rw [h2, h8]
    · have e1 : plainB (runeAt xs i) = false := by unfold plainB; rw [decide_eq_false_iff_not]; omega
      have e2 : plainC xs[i] = false := by unfold plainC; rw [decide_eq_false_iff_not, ← h8]; omega
      rw [e1, e2, Bool.false_and, Bool.false_and]
  | case2 i h => rw [List.drop_eq_nil_of_le (by omega)]; rfl
theorem pre_two (xs : List UInt8) (h : 3 ≤ xs.length) : Lib.hasPrefix xs [47, 47] = decide (xs.take 2 = [47, 47]) := by
  match xs, h with
  | a :: b :: c :: r, _ =>
    show (47 == a && (47 == b && true)) = decide ([a, b] = [47, 47])
    rw [Bool.eq_iff_iff]
    constructor
    · intro hh
      rw [Bool.and_eq_true, Bool.and_eq_true, beq_iff_eq, beq_iff_eq] at hh
      obtain ⟨rfl, rfl, -⟩ := hh
      rfl
    · intro hh
      have := of_decide_eq_true hh
      cases this
      rfl
theorem namedF_eq (xs : List UInt8) (h3 : 3 ≤ xs.length) (h64 : xs.length ≤ 64) : namedF xs = (decide (xs.take 2 = [47, 47]) && xs.all plainC) := by
  unfold namedF
  rw [decide_eq_true (show 3 ≤ xs.length ∧ xs.length ≤ 64 from ⟨h3, h64⟩), Bool.true_and, pre_two xs h3, plainF_all, List.drop_zero]
  have : (!xs.isEmpty) = true := by cases xs with | nil => simp at h3 | cons a r => rfl
  rw [this, Bool.and_true]
theorem namedF_few (xs : List UInt8) (h : xs.length < 3 ∨ 64 < xs.length) : namedF xs = false := by
  unfold namedF
  rw [decide_eq_false (show ¬ (3 ≤ xs.length ∧ xs.length ≤ 64) by omega), Bool.false_and]

set_option maxRecDepth 100000 in
set_option maxHeartbeats 1000000 in
theorem rright_any (sc : Int) (nm : List UInt8) (nd sv : Nat) (w : World) (hN : nm.length ≤ 1000) : Calls Tryd.prog 14 #[eidV sc nm nd sv] w fun e w' => e = .returned (.bool (rightE sc nm nd sv)) ∧ Below w.heap.size w w' := by
  obtain ⟨hB, c0, c1, c2, c3⟩ := eid_cells w sc nm nd sv
  have HR : Hid (rightE sc nm nd sv = if sc = 1 then decide (nd = 0 ∧ sv = 0) && (nm.isEmpty || namedF nm) else if sc = 2 then nm.isEmpty else false) := rfl
  by_cases h2 : sc = 2
  · rw [if_neg (by omega), if_pos h2] at HR
    subst h2
    cases nm with
    | nil =>
      go_enter Tryd.func14, Tryd.ntmps14
      go_wp2_with fail
      go_ret
      exact ⟨by rw [HR.out] <;> rfl, hB⟩
    | cons b r =>
      have hne : ((b :: r : List UInt8) == []) = false := rfl
      go_enter Tryd.func14, Tryd.ntmps14
      go_wp2_with fail
      go_ret
      exact ⟨by rw [HR.out] <;> rfl, hB⟩
  · have h2b : (sc == 2) = false := by rw [beq_eq_false_iff_ne]; exact h2
    by_cases h1 : sc = 1
    · rw [if_pos h1] at HR
      subst h1
      by_cases hz : nd = 0 ∧ sv = 0
      · obtain ⟨rfl, rfl⟩ := hz
        rw [decide_eq_true (show 0 = 0 ∧ 0 = 0 from ⟨rfl, rfl⟩), Bool.true_and] at HR
        by_cases hnil : nm = []
        · subst hnil
          go_enter Tryd.func14, Tryd.ntmps14
          go_wp2_with fail
          go_ret
          exact ⟨by rw [HR.out] <;> rfl, hB⟩
        · have hne : (nm == []) = false := by simpa using hnil
          have hie : nm.isEmpty = false := by cases nm with | nil => exact absurd rfl hnil | cons a r => rfl
          rw [hie, Bool.false_or] at HR
          clear hie hnil
          by_cases hfew : nm.length < 3 ∨ 64 < nm.length
          · rw [namedF_few nm hfew] at HR
            have hf2 : (nm.length : Int) < 3 ∨ (¬ (nm.length : Int) < 3 ∧ (64 : Int) < (nm.length : Int)) := by omega
            clear hfew
            rcases hf2 with g | ⟨g, g2⟩
            all_goals
              go_enter Tryd.func14, Tryd.ntmps14
              go_wp2_with fail
              go_ret
              exact ⟨by rw [HR.out] <;> rfl, hB⟩
          · rw [namedF_eq nm (by omega) (by omega)] at HR
            have g1 : ¬ (nm.length : Int) < 3 := by omega
            have g2 : ¬ (64 : Int) < (nm.length : Int) := by omega
            have g3 : (2 : Int) ≤ (nm.length : Int) := by omega
            have hsl : (⟨nm.toArray⟩ : ByteArray).extract 0 2 = ⟨(nm.take 2).toArray⟩ := by
              apply ByteArray.ext
              simp [ByteArray.extract, ByteArray.copySlice]
            by_cases ht : nm.take 2 = [47, 47]
            · rw [decide_eq_true ht, Bool.true_and] at HR
              rw [ht] at hsl
              have HA : Hid (∀ j, j < nm.length → nm.drop j = nm.getD j 0 :: nm.drop (j + 1)) := fun j hj => by
                rw [List.drop_eq_getElem_cons hj, List.getD_eq_getElem?_getD, List.getElem?_eq_getElem hj]; rfl
              have HI : Hid (∀ j, (∀ h : j < (⟨nm.toArray⟩ : ByteArray).size, ((⟨nm.toArray⟩ : ByteArray)[j]'h) = nm.getD j 0) ∧ (∀ h : j < nm.length, nm[j]'h = nm.getD j 0)) := fun j => ⟨fun h => index_list nm j h, fun h => by rw [List.getD_eq_getElem?_getD, List.getElem?_eq_getElem h]; rfl⟩
              clear ht hfew
              go_enter Tryd.func14, Tryd.ntmps14
              go_wp2_with fail
              go_loop [4] (fun i => ∃ j : Nat, i = .int .i64 j ∧ j ≤ nm.length ∧ Hid (nm.all plainC = (nm.drop j).all plainC)) (fun i => nm.length - (intOf i).toNat)
              case atStart => exact ⟨0, rfl, by omega, by show _ = _; rw [List.drop_zero]⟩
              case round =>
                obtain ⟨j, rfl, hj, HG⟩ := hrel
                by_cases hlt : j < nm.length
                · have hlt' : (j : Int) < (nm.length : Int) := by omega
                  obtain ⟨i1, i2⟩ := HI.out j
                  have HG2 : Hid (nm.all plainC = (plainC (nm.getD j 0) && (nm.drop (j + 1)).all plainC)) := by
                    show _ = _
                    rw [HG.out, HA.out j hlt, List.all_cons]
                  clear HG
                  generalize nm.getD j 0 = c at *
                  by_cases hc : plainC c = true
                  · rw [hc, Bool.true_and] at HG2
                    have hcc := hc
                    unfold plainC at hcc
                    rw [decide_eq_true_iff] at hcc
                    have k1 : ¬ ((c.toNat : Int) ≤ 32) := by omega
                    have k2 : ¬ ((127 : Int) ≤ (c.toNat : Int)) := by omega
                    clear hc hcc
                    go_wp2_with fail
                    go_round
                    case rel => exact ⟨j + 1, by go_num, by omega, HG2⟩
                    case measure => simp [intOf]; omega
                  · have hc2 : plainC c = false := by simpa using hc
                    rw [hc2, Bool.false_and] at HG2
                    have hcc := hc2
                    unfold plainC at hcc
                    rw [decide_eq_false_iff_not] at hcc
                    have k : (c.toNat : Int) ≤ 32 ∨ (¬ (c.toNat : Int) ≤ 32 ∧ (127 : Int) ≤ (c.toNat : Int)) := by omega
                    clear hc hc2 hcc
                    rcases k with k1 | ⟨k1, k2⟩
                    all_goals
                      go_wp2_with fail
                      go_ret
                      exact ⟨by rw [HR.out, HG2.out] <;> rfl, hB⟩
                · obtain rfl : j = nm.length := by omega
                  have HG2 : Hid (nm.all plainC = true) := by show _ = _; rw [HG.out, List.drop_eq_nil_of_le (Nat.le_refl _)]; rfl
                  clear HG
                  go_wp2_with fail
                  go_ret
                  exact ⟨by rw [HR.out, HG2.out] <;> rfl, hB⟩
            · rw [decide_eq_false ht, Bool.false_and] at HR
              have ht2 : (nm.take 2 == [47, 47]) = false := by simpa using ht
              clear ht hfew
              generalize nm.take 2 = tk at *
              go_enter Tryd.func14, Tryd.ntmps14
              go_wp2_with fail
              go_ret
              exact ⟨by rw [HR.out] <;> rfl, hB⟩
      · rw [decide_eq_false hz, Bool.false_and] at HR
        have hz2 : ¬ ((nd : Int) = 0) ∨ (nd = 0 ∧ ¬ ((sv : Int) = 0)) := by omega
        clear hz
        rcases hz2 with g | ⟨rfl, g⟩
        · have g2 : ((nd : Int) == 0) = false := by rw [beq_eq_false_iff_ne]; exact g
          have g3 : ((nd : Int) != 0) = true := by rw [bne_iff_ne]; exact g
          go_enter Tryd.func14, Tryd.ntmps14
          go_wp2_with fail
          go_ret
          exact ⟨by rw [HR.out] <;> rfl, hB⟩
        · have g2 : ((sv : Int) == 0) = false := by rw [beq_eq_false_iff_ne]; exact g
          have g3 : ((sv : Int) != 0) = true := by rw [bne_iff_ne]; exact g
          go_enter Tryd.func14, Tryd.ntmps14
          go_wp2_with fail
          go_ret
          exact ⟨by rw [HR.out] <;> rfl, hB⟩
    · rw [if_neg h1, if_neg h2] at HR
      have h1b : (sc == 1) = false := by rw [beq_eq_false_iff_ne]; exact h1
      have h1c : (sc != 1) = true := by rw [bne_iff_ne]; exact h1
      go_enter Tryd.func14, Tryd.ntmps14
      go_wp2_with fail
      go_ret
      exact ⟨by rw [HR.out] <;> rfl, hB⟩
end Go.Proofs.YtieigjlbjiielaaDoor
