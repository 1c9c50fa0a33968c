/- Contract of the reference's Digits of any number. No condition but the kind's bounds. -/
import Derived.Test.YtefipigdkdopcaaNumber
namespace Go.Proofs.Ytefipigdkdopcaa
open Go.RowKit

theorem dec_extract4 (d : Nat) (h : d < 10) : (⟨#[48, 49, 50, 51, 52, 53, 54, 55, 56, 57]⟩ : ByteArray).extract d (d + 1) = ⟨([UInt8.ofNat (48 + d)] : List UInt8).toArray⟩ := by
  rcases (by omega : d = 0 ∨ d = 1 ∨ d = 2 ∨ d = 3 ∨ d = 4 ∨ d = 5 ∨ d = 6 ∨ d = 7 ∨ d = 8 ∨ d = 9) with rfl | rfl | rfl | rfl | rfl | rfl | rfl | rfl | rfl | rfl <;> rfl
theorem digs_split (n : Nat) (h : ¬ n < 10) : digs n = digs (n / 10) ++ digs (n % 10) := by
  rw [digs.eq_def n, if_neg h, digs.eq_def (n % 10), if_pos (by omega)]

set_option maxRecDepth 100000 in
theorem digits4_nat (m : Nat) : ∀ (n : Nat) (w : World), n < 10 ^ (m + 1) → n < 9223372036854775808 →
    Calls Try.prog 86 #[.int .i64 n] w fun e w' => e = .returned (.string ⟨(digs n).toArray⟩) ∧ w = w' := by
  induction m with
  | zero =>
    intro n w h1 h2
    have h : n < 10 := by simpa using h1
    have hx := dec_extract4 n h
    have HR : Hid (digs n = [UInt8.ofNat (48 + n)]) := by show _ = _; rw [digs, if_pos h]
    clear h1
    generalize UInt8.ofNat (48 + n) = b at *
    go_enter Try.func86, Try.ntmps86
    go_wp2_with fail
    go_ret
    exact ⟨by rw [HR.out]; rfl, rfl⟩
  | succ m ih =>
    intro n w h1 h2
    by_cases h : n < 10
    · have hx := dec_extract4 n h
      have HR : Hid (digs n = [UInt8.ofNat (48 + n)]) := by show _ = _; rw [digs, if_pos h]
      clear h1 ih
      generalize UInt8.ofNat (48 + n) = b at *
      go_enter Try.func86, Try.ntmps86
      go_wp2_with fail
      go_ret
      exact ⟨by rw [HR.out]; rfl, rfl⟩
    · have K1 := fun W => Lib.hid (ih (n / 10) W (by rw [Nat.pow_succ] at h1; omega) (by omega))
      have K2 := fun W => Lib.hid (ih (n % 10) W (by
        have : (10 : Nat) ≤ 10 ^ (m + 1) := by rw [Nat.pow_succ]; have := Nat.pow_le_pow_right (n := 10) (by omega) (Nat.zero_le m); rw [Nat.pow_zero] at this; omega
        omega) (by omega))
      have HR : Hid (digs n = digs (n / 10) ++ digs (n % 10)) := digs_split n h
      have l1 := digs_len (n := n / 10) (by omega)
      have l2 := digs_len (n := n % 10) (by omega)
      clear ih h1
      generalize digs (n / 10) = p at *
      generalize digs (n % 10) = q at *
      have hl : ¬ (9223372036854775807 < p.length + q.length) := by omega
      go_enter Try.func86, Try.ntmps86
      go_wp2_with fail
      refine (K1 _).out.mono ?_
      rintro e w' ⟨rfl, rfl⟩
      go_wp2_with fail
      refine (K2 _).out.mono ?_
      rintro e w' ⟨rfl, rfl⟩
      go_wp2_with fail
      rw [cat_bytes]
      go_ret
      exact ⟨by rw [HR.out]; rfl, rfl⟩
set_option maxRecDepth 100000 in
theorem digits4_neg (m : Nat) : ∀ (n : Nat) (w : World), 0 < n → n < 10 ^ (m + 1) → n ≤ 9223372036854775808 →
    Calls Try.prog 86 #[.int .i64 (-(n : Int))] w fun e w' => e = .returned (.string ⟨(45 :: digs n).toArray⟩) ∧ w = w' := by
  induction m with
  | zero =>
    intro n w h0 h1 h2
    have h : n < 10 := by simpa using h1
    have KN := fun W => Lib.hid (digits4_nat 0 n W h1 (by omega))
    have l1 := digs_len (n := n) (by omega)
    clear h1
    have hneg : -(n : Int) < 0 := by omega
    have hneg2 : -10 < -(n : Int) := by omega
    generalize digs n = p at *
    have hl : ¬ (9223372036854775807 < 1 + p.length) := by omega
    go_enter Try.func86, Try.ntmps86
    go_wp2_with fail
    refine (KN _).out.mono ?_
    rintro e w' ⟨rfl, rfl⟩
    go_wp2_with fail
    rw [cat_bytes]
    go_ret
    exact ⟨rfl, rfl⟩
  | succ m ih =>
    intro n w h0 h1 h2
    by_cases h : n < 10
    · have KN := fun W => Lib.hid (digits4_nat 0 n W (by simpa using h) (by omega))
      have l1 := digs_len (n := n) (by omega)
      clear h1 ih
      have hneg : -(n : Int) < 0 := by omega
      have hneg2 : -10 < -(n : Int) := by omega
      generalize digs n = p at *
      have hl : ¬ (9223372036854775807 < 1 + p.length) := by omega
      go_enter Try.func86, Try.ntmps86
      go_wp2_with fail
      refine (KN _).out.mono ?_
      rintro e w' ⟨rfl, rfl⟩
      go_wp2_with fail
      rw [cat_bytes]
      go_ret
      exact ⟨rfl, rfl⟩
    · have K1 := fun W => Lib.hid (ih (n / 10) W (by omega) (by rw [Nat.pow_succ] at h1; omega) (by omega))
      have K2 := fun W => Lib.hid (digits4_nat 0 (n % 10) W (by simpa using Nat.mod_lt n (by omega)) (by omega))
      have HR : Hid (digs n = digs (n / 10) ++ digs (n % 10)) := digs_split n h
      have l1 := digs_len (n := n / 10) (by omega)
      have l2 := digs_len (n := n % 10) (by omega)
      have ht : (-(n : Int)).tmod 10 = -((n % 10 : Nat) : Int) := by rw [Int.neg_tmod]; rfl
      have hd : (-(n : Int)).tdiv 10 = -((n / 10 : Nat) : Int) := by rw [Int.neg_tdiv]; rfl
      have hneg : -(n : Int) < 0 := by omega
      have hneg2 : ¬ (-10 < -(n : Int)) := by omega
      clear ih h1
      have hm : n % 10 < 10 := Nat.mod_lt n (by omega)
      have hk : n / 10 ≤ 922337203685477581 := by omega
      generalize digs (n / 10) = p at *
      generalize digs (n % 10) = q at *
      generalize n % 10 = u at *
      generalize n / 10 = v at *
      have hl : ¬ (9223372036854775807 < (45 :: p).length + q.length) := by rw [List.length_cons]; omega
      go_enter Try.func86, Try.ntmps86
      go_wp2_with fail
      refine (K1 _).out.mono ?_
      rintro e w' ⟨rfl, rfl⟩
      go_wp2_with fail
      refine (K2 _).out.mono ?_
      rintro e w' ⟨rfl, rfl⟩
      go_wp2_with fail
      rw [cat_bytes]
      go_ret
      exact ⟨by rw [HR.out]; rfl, rfl⟩
theorem digits4_any (n : Int) (w : World) (h0 : -9223372036854775808 ≤ n) (h1 : n ≤ 9223372036854775807) :
    Calls Try.prog 86 #[.int .i64 n] w fun e w' => e = .returned (.string ⟨(digI n).toArray⟩) ∧ w = w' := by
  unfold digI
  by_cases h : n < 0
  · rw [if_pos h]
    obtain ⟨k, rfl⟩ : ∃ k : Nat, n = -(k : Int) := ⟨n.natAbs, by omega⟩
    have e : (-(k : Int)).natAbs = k := by omega
    rw [e]
    exact digits4_neg 19 k w (by omega) (by omega) (by omega)
  · rw [if_neg h]
    obtain ⟨k, rfl⟩ : ∃ k : Nat, n = (k : Int) := ⟨n.natAbs, by omega⟩
    have e : ((k : Int)).natAbs = k := by omega
    rw [e]
    exact digits4_nat 19 k w (by omega) (by omega)
end Go.Proofs.Ytefipigdkdopcaa
