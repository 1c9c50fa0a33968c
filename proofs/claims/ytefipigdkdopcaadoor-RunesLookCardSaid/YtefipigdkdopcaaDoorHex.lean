/- Contracts of runes.digits, of the reference's Hex, two and Digits. No condition but the numbers' bounds. -/
import Derived.Test.YtefipigdkdopcaaDoorNumber
namespace Go.Proofs.YtefipigdkdopcaaDoor
open Go.RowKit

/-- A digit from 0 to f. -/
def hexC (d : Nat) : UInt8 := if d < 10 then UInt8.ofNat (48 + d) else UInt8.ofNat (87 + d)
def hexN (n : Nat) : List UInt8 := if n < 16 then [hexC n] else hexN (n / 16) ++ [hexC (n % 16)]
decreasing_by omega
/-- At least two digits. -/
def twoN (n : Nat) : List UInt8 := if n < 16 then [48, hexC n] else hexN n
theorem hexN_length : ∀ (k n : Nat), n < 16 ^ (k + 1) → (hexN n).length ≤ k + 1
  | 0, n, h => by rw [hexN, if_pos (by simpa using h)]; simp
  | k + 1, n, h => by
    rw [hexN]
    split
    · simp
    · have := hexN_length k (n / 16) (by rw [Nat.pow_succ] at h; omega)
      simp; omega
theorem hexN_len {n : Nat} (h : n < 4294967296) : (hexN n).length ≤ 8 := hexN_length 7 n (by omega)
theorem twoN_len {n : Nat} (h : n < 4294967296) : (twoN n).length ≤ 8 ∧ 2 ≤ (twoN n).length := by
  unfold twoN
  split
  · simp
  · have h1 := hexN_len h
    refine ⟨h1, ?_⟩
    rename_i g
    rw [hexN, if_neg g]
    have : 0 < (hexN (n / 16)).length := by rw [hexN]; split <;> simp
    simp; omega
theorem hex16_extract (d : Nat) (h : d < 16) : (⟨#[48, 49, 50, 51, 52, 53, 54, 55, 56, 57, 97, 98, 99, 100, 101, 102]⟩ : ByteArray).extract d (d + 1) = ⟨([hexC d] : List UInt8).toArray⟩ := by
  rcases (by omega : d = 0 ∨ d = 1 ∨ d = 2 ∨ d = 3 ∨ d = 4 ∨ d = 5 ∨ d = 6 ∨ d = 7 ∨ d = 8 ∨ d = 9 ∨ d = 10 ∨ d = 11 ∨ d = 12 ∨ d = 13 ∨ d = 14 ∨ d = 15) with rfl | rfl | rfl | rfl | rfl | rfl | rfl | rfl | rfl | rfl | rfl | rfl | rfl | rfl | rfl | rfl <;> rfl

set_option maxRecDepth 100000 in
theorem hex4_step (m : Nat) : ∀ (n : Nat) (w : World), n < 16 ^ (m + 1) → n < 4294967296 →
    Calls Tryd.prog 37 #[.int .i64 n] w fun e w' => e = .returned (.string ⟨(hexN n).toArray⟩) ∧ w = w' := by
  have small : ∀ (n : Nat) (w : World), n < 16 → Calls Tryd.prog 37 #[.int .i64 n] w fun e w' => e = .returned (.string ⟨(hexN n).toArray⟩) ∧ w = w' := by
    intro n w h
    have hx := hex16_extract n h
    have HR : Hid (hexN n = [hexC n]) := by show _ = _; rw [hexN, if_pos h]
    generalize hexC n = b at *
    go_enter Tryd.func37, Tryd.ntmps37
    go_wp2_with fail
    go_ret
    exact ⟨by rw [HR.out]; rfl, rfl⟩
  induction m with
  | zero => intro n w h1 h2; exact small n w (by simpa using h1)
  | succ m ih =>
    intro n w h1 h2
    by_cases h : n < 16
    · exact small n w h
    · have K1 := fun W => Lib.hid (ih (n / 16) W (by rw [Nat.pow_succ] at h1; omega) (by omega))
      have K2 := fun W => Lib.hid (small (n % 16) W (by omega))
      have HR : Hid (hexN n = hexN (n / 16) ++ hexN (n % 16)) := by
        show _ = _
        rw [hexN.eq_def n, if_neg h, hexN.eq_def (n % 16), if_pos (by omega)]
      have l1 := hexN_len (n := n / 16) (by omega)
      have l2 := hexN_len (n := n % 16) (by omega)
      clear ih h1 small
      generalize hexN (n / 16) = p at *
      generalize hexN (n % 16) = q at *
      have hl : ¬ (9223372036854775807 < p.length + q.length) := by omega
      go_enter Tryd.func37, Tryd.ntmps37
      go_wp2_with fail
      refine (K1 _).out.mono ?_
      rintro e w' ⟨rfl, rfl⟩
      go_wp2_with fail
      refine (K2 _).out.mono ?_
      rintro e w' ⟨rfl, rfl⟩
      go_wp2_with fail
      rw [cat_bytes]
      go_ret
      exact ⟨by rw [HR.out]; rfl, rfl⟩
theorem hex4_any (n : Nat) (w : World) (h : n < 4294967296) :
    Calls Tryd.prog 37 #[.int .i64 n] w fun e w' => e = .returned (.string ⟨(hexN n).toArray⟩) ∧ w = w' := hex4_step 7 n w (by omega) h

set_option maxRecDepth 100000 in
theorem two4_any (n : Nat) (w : World) (h : n < 4294967296) :
    Calls Tryd.prog 29 #[.int .i64 n] w fun e w' => e = .returned (.string ⟨(twoN n).toArray⟩) ∧ w = w' := by
  have KH := fun W => Lib.hid (hex4_any n W h)
  have hl := hexN_len h
  by_cases h16 : n < 16
  · have HR : Hid (twoN n = [48] ++ hexN n) := by show _ = _; unfold twoN; rw [if_pos h16, hexN, if_pos h16]; rfl
    have h16' : (n : Int) < 16 := by omega
    generalize hexN n = p at *
    have hlim : ¬ (9223372036854775807 < 1 + p.length) := by omega
    go_enter Tryd.func29, Tryd.ntmps29
    go_wp2_with (refine (KH _).out.mono ?_; rintro e w' ⟨rfl, rfl⟩)
    go_ret
    exact ⟨by rw [HR.out, ← cat_bytes]; rfl, rfl⟩
  · have HR : Hid (twoN n = hexN n) := by show _ = _; unfold twoN; rw [if_neg h16]
    have h16' : ¬ (n : Int) < 16 := by omega
    generalize hexN n = p at *
    go_enter Tryd.func29, Tryd.ntmps29
    go_wp2_with (refine (KH _).out.mono ?_; rintro e w' ⟨rfl, rfl⟩)
    go_ret
    exact ⟨by rw [HR.out]; rfl, rfl⟩

/-- What holds while digits are laid: m is left, q is laid, s is to come. -/
def twoI (s : List UInt8) (m : Nat) (q : List UInt8) : Prop :=
  (m = 0 ∧ ((q = [] ∧ s = [48, 48]) ∨ (q.length = 1 ∧ s = 48 :: q) ∨ (2 ≤ q.length ∧ s = q))) ∨ (0 < m ∧ m < 16 ∧ q = [] ∧ s = 48 :: hexN m) ∨ (0 < m ∧ (16 ≤ m ∨ q ≠ []) ∧ s = hexN m ++ q)
theorem twoI_start (n : Nat) : twoI (twoN n) n [] := by
  unfold twoI twoN
  by_cases h0 : n = 0
  · subst h0; exact .inl ⟨rfl, .inl ⟨rfl, rfl⟩⟩
  · by_cases h16 : n < 16
    · exact .inr (.inl ⟨by omega, h16, rfl, by rw [if_pos h16, hexN, if_pos h16]⟩)
    · exact .inr (.inr ⟨by omega, .inl (by omega), by rw [if_neg h16]; simp⟩)
theorem twoI_step {s : List UInt8} {m : Nat} {q : List UInt8} (h : twoI s m q) (hg : 0 < m ∨ q.length < 2) : twoI s (m / 16) (hexC (m % 16) :: q) ∧ q.length + 1 ≤ s.length := by
  rcases h with ⟨rfl, h⟩ | ⟨h1, h2, rfl, rfl⟩ | ⟨h1, h2, rfl⟩
  · rcases h with ⟨rfl, rfl⟩ | ⟨h3, rfl⟩ | ⟨h3, rfl⟩
    · exact ⟨.inl ⟨rfl, .inr (.inl ⟨rfl, rfl⟩)⟩, by simp⟩
    · exact ⟨.inl ⟨rfl, .inr (.inr ⟨by rw [List.length_cons]; omega, rfl⟩)⟩, by simp⟩
    · omega
  · rw [show m / 16 = 0 by omega, show m % 16 = m by omega]
    refine ⟨.inl ⟨rfl, .inr (.inl ⟨rfl, ?_⟩)⟩, by simp⟩
    rw [hexN, if_pos h2]
  · by_cases h16 : m < 16
    · rw [show m / 16 = 0 by omega, show m % 16 = m by omega, hexN, if_pos h16]
      have hq : q ≠ [] := h2.elim (fun h => by omega) id
      have : 0 < q.length := List.length_pos_iff.2 hq
      exact ⟨.inl ⟨rfl, .inr (.inr ⟨by rw [List.length_cons]; omega, rfl⟩)⟩, by rw [List.length_append, List.length_singleton]; omega⟩
    · have e : hexN m = hexN (m / 16) ++ [hexC (m % 16)] := by rw [hexN.eq_def m, if_neg h16]
      rw [e]
      exact ⟨.inr (.inr ⟨by omega, .inr (by simp), by simp⟩), by simp⟩
theorem twoI_end {s : List UInt8} {q : List UInt8} (h : twoI s 0 q) (hg : 2 ≤ q.length) : s = q := by
  rcases h with ⟨_, h⟩ | ⟨h1, _⟩ | ⟨h1, _⟩
  · rcases h with ⟨rfl, _⟩ | ⟨h3, _⟩ | ⟨h3, h4⟩
    · simp at hg
    · omega
    · exact h4
  · omega
  · omega
def strSize : Value → Nat
  | .string b => b.size
  | _ => 0

set_option maxRecDepth 100000 in
theorem rdig_any (n : Nat) (w : World) (hn : n < 2147483648) :
    Calls Tryd.prog 25 #[.int .i32 n, .int .i64 2] w fun e w' => e = .returned (.string ⟨(twoN n).toArray⟩) ∧ w = w' := by
  obtain ⟨s, Hs⟩ : ∃ s, Hid (twoN n = s) := ⟨_, rfl⟩
  have hsl : s.length ≤ 8 := by rw [← Hs.out]; exact (twoN_len (by omega)).1
  have HSt : Hid (twoI s n []) := by rw [← Hs.out]; exact twoI_start n
  rw [Hs.out]
  clear Hs
  go_enter Tryd.func25, Tryd.ntmps25
  go_wp2_with fail
  go_loop [0, 5] (fun x t => ∃ (m : Nat) (q : List UInt8), x = .int .i32 m ∧ t = .string ⟨q.toArray⟩ ∧ m < 2147483648 ∧ q.length ≤ 8 ∧ Hid (twoI s m q)) (fun x t => (intOf x).toNat + (2 - strSize t))
  case atStart => exact ⟨n, [], rfl, rfl, hn, by simp, HSt⟩
  case round =>
    obtain ⟨m, q, rfl, rfl, hm, hq, HQ⟩ := hrel
    clear HSt
    have hx := hex16_extract (m % 16) (by omega)
    by_cases hg : 0 < m ∨ q.length < 2
    · have HS := Lib.hid (twoI_step HQ.out hg).1
      have hq1 : q.length + 1 ≤ 8 := by have := (twoI_step HQ.out hg).2; omega
      clear HQ
      have hlim : ¬ (9223372036854775807 < 1 + q.length) := by omega
      have hq2 : ((q.length : Nat) : Int) ≤ 8 := by omega
      generalize hexC (m % 16) = b at *
      by_cases h0 : 0 < m
      · have h0' : (0 : Int) < (m : Int) := by omega
        go_wp2_with fail
        rw [cat_bytes]
        go_round
        case rel => exact ⟨m / 16, b :: q, by go_num, by simp, by omega, by simp; omega, HS⟩
        case measure => simp [intOf, strSize, ByteArray.size]; omega
      · have h0' : ¬ (0 : Int) < (m : Int) := by omega
        have hlt : (q.length : Int) < 2 := by omega
        have hm0 : m = 0 := by omega
        subst hm0
        go_wp2_with fail
        rw [cat_bytes]
        go_round
        case rel => exact ⟨0, b :: q, rfl, by simp, by omega, by simp; omega, HS⟩
        case measure => simp [intOf, strSize, ByteArray.size]; omega
    · obtain rfl : m = 0 := by omega
      have HE := Lib.hid (twoI_end HQ.out (by omega))
      have hlt : ¬ (q.length : Int) < 2 := by omega
      clear HQ hx
      go_wp2_with fail
      go_ret
      exact ⟨by rw [HE.out]; rfl, rfl⟩
end Go.Proofs.YtefipigdkdopcaaDoor
