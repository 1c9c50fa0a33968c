/- Contracts of layer 35 (cmd): words, how many numbers, Check. No condition. -/
import Derived.Test.YtefipigdkdopcaaNumber
namespace Go.Proofs.Ytefipigdkdopcaa
open Go.RowKit

/-- A kind's word. -/
def wordK (k : Int) : List UInt8 :=
  if k = 1 then [112, 108, 97, 121] else if k = 2 then [112, 97, 117, 115, 101] else if k = 3 then [114, 101, 115, 117, 109, 101] else if k = 4 then [97, 103, 97, 105, 110] else if k = 5 then [114, 101, 108, 101, 97, 115, 101] else if k = 6 then [115, 116, 97, 116, 117, 115] else if k = 7 then [116, 105, 99, 107] else []
/-- How many numbers a kind has. -/
def manyK (k : Int) : Nat := if k = 4 then 2 else if k = 5 ∨ k = 7 then 1 else 0
theorem manyK_le (k : Int) : manyK k ≤ 2 := by unfold manyK; (repeat' split) <;> omega
theorem wordK_nil (k : Int) : wordK k = [] ↔ ¬ (1 ≤ k ∧ k ≤ 7) := by
  constructor
  · intro h hk
    rcases (by omega : k = 1 ∨ k = 2 ∨ k = 3 ∨ k = 4 ∨ k = 5 ∨ k = 6 ∨ k = 7) with rfl | rfl | rfl | rfl | rfl | rfl | rfl <;> simp [wordK] at h
  · intro h
    unfold wordK
    rw [if_neg (by omega), if_neg (by omega), if_neg (by omega), if_neg (by omega), if_neg (by omega), if_neg (by omega), if_neg (by omega)]
theorem wordK_length (k : Int) : (wordK k).length ≤ 7 := by
  unfold wordK
  (repeat' split) <;> simp
def cmdCheck (k : Int) (a b : Nat) : Nat :=
  if wordK k = [] then 2 else if 1099511627776 < a ∨ 1099511627776 < b ∨ (manyK k < 1 ∧ a ≠ 0) ∨ (manyK k < 2 ∧ b ≠ 0) then 3 else 0

set_option maxRecDepth 100000 in
theorem cword_any (k : Int) (w : World) : Calls Try.prog 51 #[.int .i64 k] w fun e w' => e = .returned (.string ⟨(wordK k).toArray⟩) ∧ w = w' := by
  by_cases hk : 1 ≤ k ∧ k ≤ 7
  · rcases (by omega : k = 1 ∨ k = 2 ∨ k = 3 ∨ k = 4 ∨ k = 5 ∨ k = 6 ∨ k = 7) with rfl | rfl | rfl | rfl | rfl | rfl | rfl
    all_goals
      clear hk
      go_enter Try.func51, Try.ntmps51
      go_wp2_with fail
      go_ret
      exact ⟨rfl, rfl⟩
  · have Hw := Lib.hid ((wordK_nil k).2 hk)
    have h1 : (k == 1) = false := by rw [beq_eq_false_iff_ne]; omega
    have h2 : (k == 2) = false := by rw [beq_eq_false_iff_ne]; omega
    have h3 : (k == 3) = false := by rw [beq_eq_false_iff_ne]; omega
    have h4 : (k == 4) = false := by rw [beq_eq_false_iff_ne]; omega
    have h5 : (k == 5) = false := by rw [beq_eq_false_iff_ne]; omega
    have h6 : (k == 6) = false := by rw [beq_eq_false_iff_ne]; omega
    have h7 : (k == 7) = false := by rw [beq_eq_false_iff_ne]; omega
    clear hk
    go_enter Try.func51, Try.ntmps51
    go_wp2_with fail
    go_ret
    exact ⟨by rw [Hw.out]; rfl, rfl⟩

set_option maxRecDepth 100000 in
theorem cmany_any (k : Int) (w : World) : Calls Try.prog 52 #[.int .i64 k] w fun e w' => e = .returned (.int .i64 (manyK k : Nat)) ∧ w = w' := by
  by_cases h : k = 4 ∨ k = 5 ∨ k = 7
  · rcases h with rfl | rfl | rfl
    all_goals
      go_enter Try.func52, Try.ntmps52
      go_wp2_with fail
      go_ret
      exact ⟨rfl, rfl⟩
  · have Hw : Hid (manyK k = 0) := by show _ = _; unfold manyK; rw [if_neg (by omega), if_neg (by omega)]
    have h4 : (k == 4) = false := by rw [beq_eq_false_iff_ne]; omega
    have h5 : (k == 5) = false := by rw [beq_eq_false_iff_ne]; omega
    have h7 : (k == 7) = false := by rw [beq_eq_false_iff_ne]; omega
    clear h
    go_enter Try.func52, Try.ntmps52
    go_wp2_with fail
    go_ret
    exact ⟨by rw [Hw.out]; rfl, rfl⟩

abbrev cmdV (k : Int) (a b : Nat) : Value := .agg #[.int .i64 k, .int .u64 (a : Int), .int .u64 (b : Int)]
set_option maxRecDepth 100000 in
set_option maxHeartbeats 1000000 in
theorem ccheck_any (k : Int) (a b : Nat) (w : World) : Calls Try.prog 16 #[cmdV k a b] w fun e w' => e = .returned (.int .i64 (cmdCheck k a b : Nat)) ∧ Below w.heap.size w w' := by
  obtain ⟨hB, hc⟩ := one_cells w #[.int .i64 k, .int .u64 (a : Int), .int .u64 (b : Int)] 24
  have c0 := hc 0 (.int .i64 k) rfl
  have c1 := hc 1 (.int .u64 (a : Int)) rfl
  have c2 := hc 2 (.int .u64 (b : Int)) rfl
  clear hc
  have HD : Hid (cmdCheck k a b = if wordK k = [] then 2 else if 1099511627776 < a ∨ 1099511627776 < b ∨ (manyK k < 1 ∧ a ≠ 0) ∨ (manyK k < 2 ∧ b ≠ 0) then 3 else 0) := rfl
  have KW := fun W => Lib.hid (cword_any k W)
  have KM := fun W => Lib.hid (cmany_any k W)
  have hm := manyK_le k
  generalize wordK k = wd at *
  generalize manyK k = m at *
  cases wd with
  | nil =>
    rw [if_pos rfl] at HD
    go_enter Try.func16, Try.ntmps16
    go_wp2_with (first
      | (go_at_call 52; refine (KM _).out.mono ?_; rintro e w' ⟨rfl, rfl⟩)
      | (go_at_call 51; refine (KW _).out.mono ?_; rintro e w' ⟨rfl, rfl⟩))
    go_ret
    exact ⟨by rw [HD.out]; rfl, hB⟩
  | cons x r =>
    rw [if_neg (by simp)] at HD
    have ha : a = 0 ∨ (((a : Int) == 0) = false ∧ ((a : Int) != 0) = true ∧ (0 : Int) < (a : Int)) := by
      rcases Nat.eq_zero_or_pos a with h | h
      · exact .inl h
      · exact .inr ⟨by rw [beq_eq_false_iff_ne]; omega, by rw [bne_iff_ne]; omega, by omega⟩
    have hb : b = 0 ∨ (((b : Int) == 0) = false ∧ ((b : Int) != 0) = true ∧ (0 : Int) < (b : Int)) := by
      rcases Nat.eq_zero_or_pos b with h | h
      · exact .inl h
      · exact .inr ⟨by rw [beq_eq_false_iff_ne]; omega, by rw [bne_iff_ne]; omega, by omega⟩
    rcases (by omega : m = 0 ∨ m = 1 ∨ m = 2) with rfl | rfl | rfl <;> rcases ha with rfl | ⟨ha1, ha2, ha3⟩ <;> rcases hb with rfl | ⟨hb1, hb2, hb3⟩
    all_goals
      clear hm
      go_enter Try.func16, Try.ntmps16
      go_wp2_with (first
        | (go_at_call 52; refine (KM _).out.mono ?_; rintro e w' ⟨rfl, rfl⟩)
        | (go_at_call 51; refine (KW _).out.mono ?_; rintro e w' ⟨rfl, rfl⟩))
      all_goals
        go_ret
        refine ⟨?_, hB⟩
        rw [HD.out]
        first
          | (rw [if_pos (by omega)]; rfl)
          | (rw [if_neg (by omega)]; rfl)
end Go.Proofs.Ytefipigdkdopcaa
