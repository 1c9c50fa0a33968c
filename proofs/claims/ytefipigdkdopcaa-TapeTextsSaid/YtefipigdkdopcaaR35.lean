/- Contracts of the references' Digits, and of layer 35's reference. No condition but the kinds' bounds. -/
import Derived.Test.YtefipigdkdopcaaCmd2
import Derived.Test.YtefipigdkdopcaaSplit
import Derived.Deep.RegionHeld
namespace Go.Proofs.Ytefipigdkdopcaa
open Go.RowKit

theorem dec_extract (d : Nat) (h : d < 10) : (⟨#[48, 49, 50, 51, 52, 53, 54, 55, 56, 57]⟩ : ByteArray).extract d (d + 1) = ⟨([UInt8.ofNat (48 + d)] : List UInt8).toArray⟩ := by
  rcases (by omega : d = 0 ∨ d = 1 ∨ d = 2 ∨ d = 3 ∨ d = 4 ∨ d = 5 ∨ d = 6 ∨ d = 7 ∨ d = 8 ∨ d = 9) with rfl | rfl | rfl | rfl | rfl | rfl | rfl | rfl | rfl | rfl <;> rfl

set_option maxRecDepth 100000 in
theorem digits7_step (m : Nat) : ∀ (n : Nat) (w : World), n < 10 ^ (m + 1) → n < 18446744073709551616 →
    Calls Try.prog 60 #[.int .u64 n] w fun e w' => e = .returned (.string ⟨(digs n).toArray⟩) ∧ w = w' := by
  induction m with
  | zero =>
    intro n w h1 h2
    have h : n < 10 := by simpa using h1
    have hx := dec_extract n h
    have HR : Hid (digs n = [UInt8.ofNat (48 + n)]) := by show _ = _; rw [digs, if_pos h]
    clear h1
    generalize UInt8.ofNat (48 + n) = b at *
    go_enter Try.func60, Try.ntmps60
    go_wp2_with fail
    go_ret
    exact ⟨by rw [HR.out]; rfl, rfl⟩
  | succ m ih =>
    intro n w h1 h2
    by_cases h : n < 10
    · have hx := dec_extract n h
      have HR : Hid (digs n = [UInt8.ofNat (48 + n)]) := by show _ = _; rw [digs, if_pos h]
      clear h1 ih
      generalize UInt8.ofNat (48 + n) = b at *
      go_enter Try.func60, Try.ntmps60
      go_wp2_with fail
      go_ret
      exact ⟨by rw [HR.out]; rfl, rfl⟩
    · have K1 := fun W => Lib.hid (ih (n / 10) W (by rw [Nat.pow_succ] at h1; omega) (by omega))
      have K2 := fun W => Lib.hid (ih (n % 10) W (by
        have : (10 : Nat) ≤ 10 ^ (m + 1) := by rw [Nat.pow_succ]; have := Nat.pow_le_pow_right (n := 10) (by omega) (Nat.zero_le m); rw [Nat.pow_zero] at this; omega
        omega) (by omega))
      have HR : Hid (digs n = digs (n / 10) ++ digs (n % 10)) := by
        show _ = _
        rw [digs.eq_def n, if_neg h, digs.eq_def (n % 10), if_pos (by omega)]
      have l1 := digs_len (n := n / 10) (by omega)
      have l2 := digs_len (n := n % 10) (by omega)
      clear ih h1
      generalize digs (n / 10) = p at *
      generalize digs (n % 10) = q at *
      have hl : ¬ (9223372036854775807 < p.length + q.length) := by omega
      go_enter Try.func60, Try.ntmps60
      go_wp2_with fail
      refine (K1 _).out.mono ?_
      rintro e w' ⟨rfl, rfl⟩
      go_wp2_with fail
      refine (K2 _).out.mono ?_
      rintro e w' ⟨rfl, rfl⟩
      go_wp2_with fail
      rw [cat_bytes]
      go_ret
      exact ⟨by rw [HR.out]; rfl, rfl⟩
theorem digits7_any (n : Nat) (w : World) (h : n < 18446744073709551616) :
    Calls Try.prog 60 #[.int .u64 n] w fun e w' => e = .returned (.string ⟨(digs n).toArray⟩) ∧ w = w' := digits7_step 19 n w (by omega) h

set_option maxRecDepth 100000 in
theorem r35many_no (k : Int) (w : World) (hk : ¬ (1 ≤ k ∧ k ≤ 7)) : Calls Try.prog 54 #[.int .i64 k] w fun e w' => e = .returned (.int .i64 (-1)) ∧ Below w.heap.size w w' := by
  have hB := Below.refl w.heap.size w
  by_cases h1 : k < 1
  · clear hk
    go_enter Try.func54, Try.ntmps54
    go_wp2_with fail
    go_ret
    exact ⟨rfl, hB⟩
  · have h2 : 7 < k := by omega
    clear hk
    go_enter Try.func54, Try.ntmps54
    go_wp2_with fail
    go_ret
    exact ⟨rfl, hB⟩
set_option maxRecDepth 100000 in
theorem r35many_any (k : Int) (w : World) (hk : 1 ≤ k ∧ k ≤ 7) : Calls Try.prog 54 #[.int .i64 k] w fun e w' => e = .returned (.int .i64 (manyK k : Nat)) ∧ Below w.heap.size w w' := by
  have hB : Below w.heap.size w (w.alloc (.cells #[.int .i64 0, .int .i64 0, .int .i64 0, .int .i64 0, .int .i64 2, .int .i64 1, .int .i64 0, .int .i64 1] 3)) := (Below.refl _ _).alloc (Nat.le_refl _) _
  rcases (by omega : k = 1 ∨ k = 2 ∨ k = 3 ∨ k = 4 ∨ k = 5 ∨ k = 6 ∨ k = 7) with rfl | rfl | rfl | rfl | rfl | rfl | rfl
  all_goals
    clear hk
    go_enter Try.func54, Try.ntmps54
    go_wp2_with fail
    go_ret
    exact ⟨rfl, hB⟩
set_option maxRecDepth 100000 in
theorem r35word_any (k : Int) (w : World) (hk : 1 ≤ k ∧ k ≤ 7) : Calls Try.prog 59 #[.int .i64 k] w fun e w' => e = .returned (.string ⟨(wordK k).toArray⟩) ∧ Below w.heap.size w w' := by
  have hB : Below w.heap.size w (w.alloc (.cells #[.string ⟨#[]⟩, .string ⟨(wordK 1).toArray⟩, .string ⟨(wordK 2).toArray⟩, .string ⟨(wordK 3).toArray⟩, .string ⟨(wordK 4).toArray⟩, .string ⟨(wordK 5).toArray⟩, .string ⟨(wordK 6).toArray⟩, .string ⟨(wordK 7).toArray⟩] 9)) := (Below.refl _ _).alloc (Nat.le_refl _) _
  rcases (by omega : k = 1 ∨ k = 2 ∨ k = 3 ∨ k = 4 ∨ k = 5 ∨ k = 6 ∨ k = 7) with rfl | rfl | rfl | rfl | rfl | rfl | rfl
  all_goals
    clear hk
    go_enter Try.func59, Try.ntmps59
    go_wp2_with fail
    go_ret
    exact ⟨rfl, hB⟩

set_option maxRecDepth 100000 in
set_option maxHeartbeats 1000000 in
theorem r35check_any (k : Int) (a b : Nat) (w : World) : Calls Try.prog 14 #[cmdV k a b] w fun e w' => e = .returned (.int .i64 (cmdCheck k a b : Nat)) ∧ Below w.heap.size w w' := by
  obtain ⟨hB, hc⟩ := one_cells w #[.int .i64 k, .int .u64 (a : Int), .int .u64 (b : Int)] 29
  have c0 := hc 0 (.int .i64 k) rfl
  have c1 := hc 1 (.int .u64 (a : Int)) rfl
  have c2 := hc 2 (.int .u64 (b : Int)) rfl
  clear hc
  by_cases hk : 1 ≤ k ∧ k ≤ 7
  · have HD : Hid (cmdCheck k a b = if 1099511627776 < a ∨ 1099511627776 < b ∨ (manyK k < 1 ∧ a ≠ 0) ∨ (manyK k < 2 ∧ b ≠ 0) then 3 else 0) := by
      show _ = _
      unfold cmdCheck
      rw [if_neg (fun h => (wordK_nil k).1 h hk)]
    have KM := fun W => Lib.hid (r35many_any k W hk)
    have hm := manyK_le k
    clear hk
    generalize manyK k = m at *
    have ha : a = 0 ∨ (((a : Int) == 0) = false ∧ ((a : Int) != 0) = true ∧ (0 : Int) < (a : Int)) := by
      rcases Nat.eq_zero_or_pos a with h | h
      · exact .inl h
      · exact .inr ⟨by rw [beq_eq_false_iff_ne]; omega, by rw [bne_iff_ne]; omega, by omega⟩
    have hb : b = 0 ∨ (((b : Int) == 0) = false ∧ ((b : Int) != 0) = true ∧ (0 : Int) < (b : Int)) := by
      rcases Nat.eq_zero_or_pos b with h | h
      · exact .inl h
      · exact .inr ⟨by rw [beq_eq_false_iff_ne]; omega, by rw [bne_iff_ne]; omega, by omega⟩
    rcases (by omega : m = 0 ∨ m = 1 ∨ m = 2) with rfl | rfl | rfl <;> rcases ha with rfl | ⟨ha1, ha2, ha3⟩ <;> rcases hb with rfl | ⟨hb1, hb2, hb3⟩
    all_goals
      clear hm
      go_enter Try.func14, Try.ntmps14
      go_wp2_with (refine (KM _).out.mono ?_; rintro e w1 ⟨rfl, hb1⟩; replace c1 := cell_below hb1 c1; replace c2 := cell_below hb1 c2; replace hB := below_trans hB hb1; clear hb1)
      all_goals
        go_ret
        refine ⟨?_, hB⟩
        rw [HD.out]
        first
          | (rw [if_pos (by omega)]; rfl)
          | (rw [if_neg (by omega)]; rfl)
  · have HD : Hid (cmdCheck k a b = 2) := by
      show _ = _
      unfold cmdCheck
      rw [if_pos ((wordK_nil k).2 hk)]
    have KM := fun W => Lib.hid (r35many_no k W hk)
    clear hk
    go_enter Try.func14, Try.ntmps14
    go_wp2_with (refine (KM _).out.mono ?_; rintro e w1 ⟨rfl, hb1⟩; replace hB := below_trans hB hb1; clear hb1)
    go_ret
    exact ⟨by rw [HD.out]; rfl, hB⟩

end Go.Proofs.Ytefipigdkdopcaa
