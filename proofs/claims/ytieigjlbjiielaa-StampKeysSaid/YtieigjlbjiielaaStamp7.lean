/- Layer 8 (stamp): the reference's digits and text. -/
import Derived.Test.YtieigjlbjiielaaStamp4
namespace Go.Proofs.Ytieigjlbjiielaa
open Go.RowKit

theorem digs_few {n : Nat} (h : n < 10) : digs n = [UInt8.ofNat (48 + n)] := by rw [digs, if_pos h]
theorem digs_more {n : Nat} (h : ¬ n < 10) : digs n = digs (n / 10) ++ digs (n % 10) := by
  rw [digs, if_neg h, digs_few (n := n % 10) (by omega)]

set_option maxRecDepth 100000 in
theorem refdigits_few (n : Nat) (w : World) (h : n < 10) : Calls Try.prog 26 #[.int .u64 n] w fun e w' => e = .returned (.string ⟨(digs n).toArray⟩) ∧ w = w' := by
  have hc : n = 0 ∨ n = 1 ∨ n = 2 ∨ n = 3 ∨ n = 4 ∨ n = 5 ∨ n = 6 ∨ n = 7 ∨ n = 8 ∨ n = 9 := by omega
  rw [digs_few h]
  rcases hc with rfl | rfl | rfl | rfl | rfl | rfl | rfl | rfl | rfl | rfl
  all_goals
    go_enter Try.func26, Try.ntmps26
    go_wp2
    go_ret
    exact ⟨by first | rfl | (congr 2; decide), rfl⟩

set_option maxRecDepth 100000 in
theorem refdigits_rec : ∀ (k n : Nat) (w : World), n < 10 ^ (k + 1) → (digs n).length ≤ k + 1 → k ≤ 1000 → n < 18446744073709551616 → Calls Try.prog 26 #[.int .u64 n] w fun e w' => e = .returned (.string ⟨(digs n).toArray⟩) ∧ w = w'
  | 0, n, w, h, _, _, _ => refdigits_few n w (by simpa using h)
  | k + 1, n, w, h, hl, hk, h64 => by
    by_cases h10 : n < 10
    · exact refdigits_few n w h10
    · have e := digs_more h10
      have l1 := digs_length k (n / 10) (by rw [Nat.pow_succ] at h; omega)
      have K1 := refdigits_rec k (n / 10) w (by rw [Nat.pow_succ] at h; omega) l1 (by omega) (by omega)
      have K2 := refdigits_few (n % 10) w (by omega)
      have l2 : (digs (n % 10)).length = 1 := by rw [digs_few (by omega)]; rfl
      rw [e] at *
      rw [show ((n / 10 : Nat) : Int) = (n : Int) / 10 by omega] at K1
      rw [show ((n % 10 : Nat) : Int) = (n : Int) % 10 by omega] at K2
      generalize digs (n / 10) = s1 at *
      generalize digs (n % 10) = s2 at *
      have K1 := Lib.hid K1
      have K2 := Lib.hid K2
      have hlim : ¬ (9223372036854775807 < s1.length + s2.length) := by omega
      clear h e
      go_enter Try.func26, Try.ntmps26
      go_wp2_with fail
      refine K1.out.mono ?_
      rintro e w2 ⟨rfl, rfl⟩
      go_wp2_with fail
      refine K2.out.mono ?_
      rintro e w2 ⟨rfl, rfl⟩
      go_wp2_with fail
      rw [cat_bytes]
      go_ret
      exact ⟨rfl, rfl⟩
theorem refdigits_any (n : Nat) (w : World) (h : n < 18446744073709551616) : Calls Try.prog 26 #[.int .u64 n] w fun e w' => e = .returned (.string ⟨(digs n).toArray⟩) ∧ w = w' :=
  refdigits_rec 19 n w (by omega) (digs_len h) (by omega) h

end Go.Proofs.Ytieigjlbjiielaa
