/- Contracts of cmd.kind, of the reference's Line, of the closure that reads a command's numbers. No condition but the lengths' bounds. -/
import Derived.Test.YtefipigdkdopcaaR35b
namespace Go.Proofs.Ytefipigdkdopcaa
open Go.RowKit

/-- The kind of a word; 0: none. -/
def kindK (s : List UInt8) : Nat := if s = wordK 1 then 1 else if s = wordK 2 then 2 else if s = wordK 3 then 3 else if s = wordK 4 then 4 else if s = wordK 5 then 5 else if s = wordK 6 then 6 else if s = wordK 7 then 7 else 0
theorem kindK_le (s : List UInt8) : kindK s ≤ 7 := by unfold kindK; (repeat' split) <;> omega
theorem kindK_word {k : Nat} (h : 1 ≤ k ∧ k ≤ 7) : kindK (wordK k) = k := by
  rcases (by omega : k = 1 ∨ k = 2 ∨ k = 3 ∨ k = 4 ∨ k = 5 ∨ k = 6 ∨ k = 7) with rfl | rfl | rfl | rfl | rfl | rfl | rfl <;> decide
theorem kindK_of {s : List UInt8} (h : kindK s ≠ 0) : wordK (kindK s : Nat) = s ∧ 1 ≤ kindK s := by
  have key : ∀ k : Nat, kindK s = k → 1 ≤ k → wordK (k : Nat) = s := by
    intro k hk h1
    unfold kindK at hk
    repeat' split at hk
    all_goals first | (subst hk; rename_i e; exact e.symm) | omega
  exact ⟨key _ rfl (by omega), by omega⟩

set_option maxRecDepth 100000 in
theorem ckind_any (s : List UInt8) (w : World) : Calls Try.prog 56 #[.string ⟨s.toArray⟩] w fun e w' => e = .returned (.int .i64 (kindK s : Nat)) ∧ w = w' := by
  have HK : Hid (∀ k : Nat, 1 ≤ k → k ≤ 7 → wordK (k : Nat) = s → kindK s = k) := fun k h1 h2 h => by rw [← h]; exact kindK_word ⟨h1, h2⟩
  have H0 : Hid ((∀ k : Nat, 1 ≤ k → k ≤ 7 → wordK (k : Nat) ≠ s) → kindK s = 0) := fun h => by
    by_cases h0 : kindK s = 0
    · exact h0
    · have := kindK_of h0
      exact absurd this.1 (h _ this.2 (kindK_le s))
  go_enter Try.func56, Try.ntmps56
  go_wp2_with fail
  go_loop [3] (fun k => ∃ j : Nat, 1 ≤ j ∧ j ≤ 8 ∧ k = .int .i64 j ∧ (∀ i : Nat, 1 ≤ i → i < j → wordK (i : Nat) ≠ s)) (fun k => 8 - (intOf k).toNat)
  case atStart => exact ⟨1, by omega, by omega, rfl, fun i h1 h2 => by omega⟩
  case round =>
    obtain ⟨j, hj1, hj8, rfl, hn⟩ := hrel
    have HN := Lib.hid hn
    clear hn
    by_cases hlt : j ≤ 7
    · have KW := fun W => Lib.hid (cword_any (j : Nat) W)
      by_cases he : wordK (j : Nat) = s
      · have HR := Lib.hid (HK.out j hj1 hlt he)
        rw [he] at KW
        clear he HK H0
        go_wp2_with (refine (KW _).out.mono ?_; rintro e w' ⟨rfl, rfl⟩)
        go_ret
        exact ⟨by rw [HR.out]; rfl, rfl⟩
      · have HN2 : Hid (∀ i : Nat, 1 ≤ i → i < j + 1 → wordK (i : Nat) ≠ s) := fun i h1 h2 => by
          by_cases e : i = j
          · rw [e]; exact he
          · exact HN.out i h1 (by omega)
        have hbe : (wordK (j : Nat) == s) = false := by simpa using he
        clear he HN HK H0
        generalize wordK (j : Nat) = wd at *
        go_wp2_with (refine (KW _).out.mono ?_; rintro e w' ⟨rfl, rfl⟩)
        go_round
        case rel => exact ⟨j + 1, by omega, by omega, by go_num, HN2.out⟩
        case measure => simp [intOf]; omega
    · have HR := Lib.hid (H0.out (fun k h1 h2 => HN.out k h1 (by omega)))
      have hgt : (7 : Int) < (j : Int) := by omega
      clear HN HK H0
      go_wp2_with fail
      go_ret
      exact ⟨by rw [HR.out]; rfl, rfl⟩

/-- What the number behind a word is. -/
def numAt (l : List (List UInt8)) (i : Nat) : Nat := if i < l.length then (max (numF (l.getD i [])) 0).toNat else 0
theorem numAt_le (l : List (List UInt8)) (i : Nat) : numAt l i ≤ 1099511627776 := by
  unfold numAt
  split
  · have := (numF_bounds (l.getD i [])).2
    unfold farN at this
    omega
  · omega

set_option maxRecDepth 100000 in
theorem cnumber_any (l : List (List UInt8)) (i g : Nat) (A : Option Addr) (c : Nat) (w : World) (hh : w.heap[g]? = some (.cells #[.slice A l.length c] 91 (0, 0))) (hr : RdS w A l.length c l) (hl : ∀ p ∈ l, p.length ≤ 100000) (hi : i ≤ 10) (hn : l.length ≤ 1000000) :
    Calls Try.prog 57 #[.int .i64 i, .pointer (some ⟨g, 0, none⟩)] w fun e w' => e = .returned (.int .u64 (numAt l i : Nat)) ∧ Below w.heap.size w w' := by
  have c0 : w.cell? ⟨g, 0, none⟩ = some (.slice A l.length c) := cell_heap hh
  have hB := Below.refl w.heap.size w
  have HA : Hid (numAt l i = if i < l.length then (max (numF (l.getD i [])) 0).toNat else 0) := rfl
  by_cases h : i < l.length
  · rw [if_pos h] at HA
    obtain ⟨ad, rfl, hc⟩ := hr.sat i h
    have hp : l.getD i [] ∈ l := by rw [List.getD_eq_getElem?_getD, List.getElem?_eq_getElem h]; exact List.getElem_mem _
    have KN := fun W => Lib.hid (number_any (l.getD i []) W (hl _ hp))
    have hb := numF_bounds (l.getD i [])
    unfold farN at hb
    generalize l.getD i [] = s at *
    generalize numF s = z at *
    generalize numOk s = ok at *
    generalize hn' : l.length = n at *
    clear hn' hp hl
    have h' : (i : Int) < (n : Int) := by omega
    go_enter Try.func57, Try.ntmps57
    by_cases hz : 0 ≤ z
    · have HZ : Hid ((max z 0).toNat = z.toNat) := by show _ = _; rw [Int.max_eq_left hz]
      obtain ⟨m, rfl⟩ : ∃ m : Nat, z = m := ⟨z.toNat, by omega⟩
      have hw : IntKind.u64.wrap (m : Int) = m := by rw [wrap_u64]; omega
      go_wp2_with (refine (KN _).out.mono ?_; rintro e w1 ⟨rfl, hb1⟩)
      go_ret
      exact ⟨by rw [HA.out, HZ.out]; rfl, hb1⟩
    · have HZ : Hid ((max z 0).toNat = 0) := by show _ = _; rw [Int.max_eq_right (by omega)]; rfl
      have hz2 : z < 0 := by omega
      go_wp2_with (refine (KN _).out.mono ?_; rintro e w1 ⟨rfl, hb1⟩)
      go_ret
      exact ⟨by rw [HA.out, HZ.out]; show Ending.returned (.int .u64 (max z 0)) = _; rw [Int.max_eq_right (by omega)]; rfl, hb1⟩
  · rw [if_neg h] at HA
    generalize l.length = n at *
    have h' : (n : Int) ≤ (i : Int) := by omega
    go_enter Try.func57, Try.ntmps57
    go_wp2_with fail
    go_ret
    exact ⟨by rw [HA.out]; rfl, hB⟩
end Go.Proofs.Ytefipigdkdopcaa
