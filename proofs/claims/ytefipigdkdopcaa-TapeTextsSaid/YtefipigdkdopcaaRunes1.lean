/- Contract of runes.Digits. No condition but the number's kind. -/
import Derived.Test.YtefipigdkdopcaaText
namespace Go.Proofs.Ytefipigdkdopcaa
open Go.RowKit

theorem hex_extract (d : Nat) (h : d < 10) : (⟨#[48, 49, 50, 51, 52, 53, 54, 55, 56, 57, 97, 98, 99, 100, 101, 102]⟩ : ByteArray).extract d (d + 1) = ⟨([UInt8.ofNat (48 + d)] : List UInt8).toArray⟩ := by
  rcases (by omega : d = 0 ∨ d = 1 ∨ d = 2 ∨ d = 3 ∨ d = 4 ∨ d = 5 ∨ d = 6 ∨ d = 7 ∨ d = 8 ∨ d = 9) with rfl | rfl | rfl | rfl | rfl | rfl | rfl | rfl | rfl | rfl <;> rfl

set_option maxRecDepth 100000 in
theorem rdigits_nat (n : Nat) (w : World) (hn : n < 9223372036854775808) :
    Calls Try.prog 53 #[.int .i64 n] w fun e w' => e = .returned (.string ⟨(digs n).toArray⟩) ∧ w = w' := by
  have HD : Hid (∃ s, s = digs n) := ⟨_, rfl⟩
  obtain ⟨s, Hs⟩ := HD.out
  have HS : Hid (digs n = s ∧ s.length ≤ 20) := ⟨Hs.symm, by rw [Hs]; exact digs_len (by omega)⟩
  rw [← Hs]
  clear Hs HD
  go_enter Try.func53, Try.ntmps53
  go_wp2_with fail
  go_loop [0, 3, 5] (fun x t _ => ∃ (m : Nat) (q : List UInt8), x = .int .i64 m ∧ t = .string ⟨q.toArray⟩ ∧ m < 9223372036854775808 ∧ digs m ++ q = s) (fun x _ _ => (intOf x).toNat)
  case atStart => exact ⟨n, [], rfl, rfl, hn, by rw [HS.out.1]; simp⟩
  case round =>
    obtain ⟨m, q, rfl, rfl, hm, hq⟩ := hrel
    have HQ := Lib.hid hq
    clear hq
    have hsl := HS.out.2
    have hql : q.length ≤ 20 := by rw [← HQ.out, List.length_append] at hsl; omega
    clear hsl
    have hlim : ¬ (9223372036854775807 < 1 + q.length) := by omega
    have hx := hex_extract (m % 10) (by omega)
    have HB : Hid (∃ b, b = UInt8.ofNat (48 + m % 10)) := ⟨_, rfl⟩
    obtain ⟨b, Hb⟩ := HB.out
    rw [← Hb] at hx
    by_cases h : 9 < m
    · have HR : Hid (digs (m / 10) ++ ([b] ++ q) = s) := by
        show _ = _
        rw [← HQ.out, digs.eq_def m, if_neg (by omega), ← Hb]; simp
      clear Hb HB
      go_wp2_with fail
      rw [cat_bytes]
      go_round
      case rel => exact ⟨m / 10, [b] ++ q, by go_num, rfl, by omega, HR.out⟩
      case measure => simp [intOf]; omega
    · have HR : Hid ([b] ++ q = s) := by
        show _ = _
        rw [← HQ.out, digs.eq_def m, if_pos (by omega), Hb]
        congr 3; omega
      clear Hb HB
      go_wp2_with fail
      rw [cat_bytes]
      go_ret
      exact ⟨by rw [← HR.out]; simp, rfl⟩

set_option maxRecDepth 100000 in
theorem rdigits_neg (n : Nat) (w : World) (hn : n ≤ 9223372036854775808) (hp : 0 < n) :
    Calls Try.prog 53 #[.int .i64 (-(n : Int))] w fun e w' => e = .returned (.string ⟨(45 :: digs n).toArray⟩) ∧ w = w' := by
  have HD : Hid (∃ s, s = digs n) := ⟨_, rfl⟩
  obtain ⟨s, Hs⟩ := HD.out
  have HS : Hid (digs n = s ∧ s.length ≤ 20) := ⟨Hs.symm, by rw [Hs]; exact digs_len (by omega)⟩
  rw [← Hs]
  clear Hs HD
  have hneg : -(n : Int) < 0 := by omega
  go_enter Try.func53, Try.ntmps53
  go_wp2_with fail
  go_loop [0, 3, 5] (fun x t _ => ∃ (m : Nat) (q : List UInt8), x = .int .i64 (-(m : Int)) ∧ t = .string ⟨q.toArray⟩ ∧ m ≤ 9223372036854775808 ∧ digs m ++ q = s) (fun x _ _ => (intOf x).natAbs)
  case atStart => exact ⟨n, [], rfl, rfl, hn, by rw [HS.out.1]; simp⟩
  case round =>
    obtain ⟨m, q, rfl, rfl, hm, hq⟩ := hrel
    have HQ := Lib.hid hq
    clear hq
    have hsl := HS.out.2
    have hql : q.length ≤ 20 := by rw [← HQ.out, List.length_append] at hsl; omega
    clear hsl
    have hlim : ¬ (9223372036854775807 < 1 + q.length) := by omega
    have hlim2 : ¬ (9223372036854775807 < 1 + s.length) := by have := HS.out.2; omega
    have hx := hex_extract (m % 10) (by omega)
    have HB : Hid (∃ b, b = UInt8.ofNat (48 + m % 10)) := ⟨_, rfl⟩
    obtain ⟨b, Hb⟩ := HB.out
    rw [← Hb] at hx
    have ht : (-(m : Int)).tmod 10 = -((m % 10 : Nat) : Int) := by rw [Int.neg_tmod]; rfl
    have hd : (-(m : Int)).tdiv 10 = -((m / 10 : Nat) : Int) := by rw [Int.neg_tdiv]; rfl
    by_cases h : 9 < m
    · have HR : Hid (digs (m / 10) ++ ([b] ++ q) = s) := by
        show _ = _
        rw [← HQ.out, digs.eq_def m, if_neg (by omega), ← Hb]; simp
      clear Hb HB
      go_wp2_with fail
      rw [cat_bytes]
      go_round
      case rel => exact ⟨m / 10, [b] ++ q, by go_num, rfl, by omega, HR.out⟩
      case measure => simp [intOf]; omega
    · have HR : Hid ([b] ++ q = s) := by
        show _ = _
        rw [← HQ.out, digs.eq_def m, if_pos (by omega), Hb]
        congr 3; omega
      clear Hb HB
      go_wp2_with fail
      rw [cat_bytes]
      go_ret
      exact ⟨by rw [← HR.out]; simp, rfl⟩
end Go.Proofs.Ytefipigdkdopcaa
