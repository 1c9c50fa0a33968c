/- Contracts of the reference of layer 3, of the laws' 'awake'. No condition but the lengths' bounds. -/
import Derived.Test.YtefipigdkdopcaaCrcP
namespace Go.Proofs.Ytefipigdkdopcaa
open Go.RowKit

theorem rbyte_lt {n p : Nat} (hp : p < 2 ^ n) : ∀ (k s c : Nat), s < 2 ^ n → rbyte p k s c < 2 ^ n
  | 0, _, _, h => h
  | k + 1, s, c, h => by
    rw [rbyte]
    refine rbyte_lt hp k _ _ ?_
    have h2 : s / 2 < 2 ^ n := by omega
    split
    · exact xor_lt h2 hp
    · exact h2
/-- The reference's state behind k of the eight steps, from behind: what is left to do. -/
theorem rbyte_succ (p k s c : Nat) : rbyte p (k + 1) s c = rbyte p k (if (s + c) % 2 = 1 then (s / 2) ^^^ p else s / 2) (c / 2) := rfl

def onesU : Nat → Nat
  | 0 => 1
  | k + 1 => 2 * onesU k
theorem onesU_eq (k : Nat) : onesU k = 2 ^ k := by
  induction k with
  | zero => rfl
  | succ k ih => rw [onesU, ih, Nat.pow_succ]; omega

set_option maxHeartbeats 1000000 in
theorem refsum_any (N p : Nat) (xs : List UInt8) (A : Option Addr) (n c : Nat) (w : World) (hN : 8 ≤ N) (hN2 : N ≤ 32) (hp : p < 2 ^ N) (hx : RdB w A n c xs) :
    Calls Try.prog 135 #[.slice A n c, .int .i64 N, .int .u64 p] w fun e w' => e = .returned (.int .u64 (crcGo (2 ^ N - 1) p 0 xs : Nat)) ∧ w = w' := by
  have hn := hx.blen
  have hm := hx.cm
  have hnc := hx.nc
  unfold maxLen at hm
  have Hn := Lib.hid hn; clear hn
  have h32 : 2 ^ N ≤ 2 ^ 32 := Nat.pow_le_pow_right (by decide) hN2
  go_enter Try.func135, Try.ntmps135
  go_wp2_with fail
  go_loop [7, 8] (fun t i => ∃ k : Nat, k ≤ N ∧ i = .int .i64 k ∧ t = .int .u64 (onesU k : Nat)) (fun _ i => N - (intOf i).toNat)
  case atStart => exact ⟨0, by omega, rfl, rfl⟩
  case round =>
    obtain ⟨k, hk, rfl, rfl⟩ := hrel
    have h1 : onesU k ≤ 4294967296 := by rw [onesU_eq]; exact Nat.le_trans (Nat.pow_le_pow_right (by decide) hk) h32
    by_cases hlt : k < N
    · have h2 : Hid (onesU (k + 1) = 2 * onesU k) := rfl
      generalize onesU k = t at *
      go_wp2_with fail
      go_round
      case rel => exact ⟨k + 1, by omega, by go_num, by rw [h2.out]; go_num⟩
      case measure => simp [intOf]; omega
    · obtain rfl : k = N := by omega
      obtain ⟨M, hM⟩ : ∃ M, onesU k = M + 1 := ⟨2 ^ k - 1, by rw [onesU_eq]; have := Nat.one_le_two_pow (n := k); omega⟩
      have HM : Hid (M = 2 ^ k - 1) := by show _ = _; rw [onesU_eq] at hM; omega
      have hM2 : M < 2 ^ k := by rw [onesU_eq] at hM; omega
      rw [hM] at h1 ⊢
      clear hM
      go_wp2_with fail
      go_loop [9, 10] (fun t i => ∃ j : Nat, j ≤ n ∧ i = .int .i64 j ∧ t = .int .u64 (thr p M (xs.take j) : Nat)) (fun _ i => n - (intOf i).toNat)
      case atStart => exact ⟨0, by omega, rfl, rfl⟩
      case round =>
        obtain ⟨j, hj, rfl, rfl⟩ := hrel
        by_cases hjn : j < n
        · have hst := thr_take p M xs j (by rw [Hn.out]; exact hjn)
          have htl := thr_lt (n := k) hN hp (xs.take j) M hM2
          obtain ⟨ad, rfl, hcell⟩ := hx.bat j hjn
          obtain ⟨R, hR0⟩ : ∃ R, R = thr p M (xs.take (j + 1)) := ⟨_, rfl⟩
          rw [← hR0] at hst
          have HR0 := Lib.hid hR0; clear hR0
          generalize thr p M (xs.take j) = s at *
          have hb := toNat_lt (xs.getD j 0)
          generalize (xs.getD j 0).toNat = b at *
          have HR : Hid (rbyte p 8 s b = R) := by show _ = _; rw [rbyte_eq p 8 s b (by omega), hst]; rfl
          clear hst
          go_wp2_with fail
          go_loop [9, 11, 12] (fun t c i => ∃ (q a d : Nat), q ≤ 8 ∧ a < 2 ^ k ∧ d < 256 ∧ Hid (rbyte p (8 - q) a d = R) ∧ i = .int .i64 q ∧ t = .int .u64 a ∧ c = .int .u64 d) (fun _ _ i => 8 - (intOf i).toNat)
          case atStart => exact ⟨0, s, b, by omega, htl, by omega, HR, rfl, rfl, rfl⟩
          case round =>
            obtain ⟨q, a, d, hq, ha, hd, hR, rfl, rfl, rfl⟩ := hrel
            clear hcell hx hb htl
            by_cases hq8 : q < 8
            · have hsucc := rbyte_succ p (8 - (q + 1)) a d
              rw [show 8 - (q + 1) + 1 = 8 - q by omega, hR.out] at hsucc
              have Hs := Lib.hid hsucc.symm; clear hsucc
              have h232 : 2 ^ k ≤ 4294967296 := h32
              by_cases hodd : (a + d) % 2 = 1
              · have hc1 : (((a : Int) + (d : Int)) % 2 == 1) = true := by rw [beq_iff_eq]; omega
                have hx2 := xor64 (a / 2) p (by omega) (by omega)
                rw [show ((a / 2 : Nat) : Int) = (a : Int) / 2 by omega] at hx2
                have hl2 : (a / 2) ^^^ p < 2 ^ k := xor_lt (by omega) hp
                have Ho := Lib.hid hodd; clear hodd
                go_wp2_with fail
                go_round
                case rel => exact ⟨q + 1, _, d / 2, by omega, hl2, by omega, by have := Hs.out; rw [if_pos Ho.out] at this; exact this, by go_num, rfl, by go_num⟩
                case measure => simp [intOf]; omega
              · have hc1 : (((a : Int) + (d : Int)) % 2 == 1) = false := by rw [beq_eq_false_iff_ne]; omega
                have Ho := Lib.hid hodd; clear hodd
                go_wp2_with fail
                go_round
                case rel => exact ⟨q + 1, a / 2, d / 2, by omega, by omega, by omega, by have := Hs.out; rw [if_neg Ho.out] at this; exact this, by go_num, by go_num, by go_num⟩
                case measure => simp [intOf]; omega
            · obtain rfl : q = 8 := by omega
              have hR2 : a = R := hR.out
              subst hR2
              go_wp2_with fail
              go_round
              case rel => exact ⟨j + 1, by omega, by go_num, by rw [← HR0.out]⟩
              case measure => simp [intOf]; omega
        · obtain rfl : j = n := by omega
          have htl := thr_lt (n := k) hN hp xs M hM2
          have hx2 := xor64 (thr p M xs) M (by have : 2 ^ k ≤ 4294967296 := h32; omega) (by have : 2 ^ k ≤ 4294967296 := h32; omega)
          have HT : Hid (xs.take j = xs) := List.take_of_length_le (by rw [Hn.out]; omega)
          rw [HT.out]
          have HG : Hid (crcGo (2 ^ k - 1) p 0 xs = thr p M xs ^^^ M) := by show _ = _; rw [← HM.out, crcGo, Nat.xor_comm, Nat.xor_zero]
          generalize thr p M xs = T at *
          go_wp2_with fail
          go_ret
          exact ⟨ret_int (by rw [HG.out]), rfl⟩

theorem refof_any (kind : Int) (xs : List UInt8) (A : Option Addr) (n c : Nat) (w : World) (hx : RdB w A n c xs) :
    Calls Try.prog 116 #[.int .i64 kind, .slice A n c] w fun e w' => e = .returned (.int .u64 (crcOf kind xs : Nat)) ∧ w = w' := by
  have HG : Hid (crcOf kind xs = if kind = 1 then crcGo (2 ^ 16 - 1) 33800 0 xs else if kind = 2 then crcGo (2 ^ 32 - 1) 2197175160 0 xs else 0) := rfl
  have K1 := Lib.hid (refsum_any 16 33800 xs A n c w (by omega) (by omega) (by omega) hx)
  have K2 := Lib.hid (refsum_any 32 2197175160 xs A n c w (by omega) (by omega) (by omega) hx)
  generalize crcOf kind xs = r at *
  generalize crcGo (2 ^ 16 - 1) 33800 0 xs = r1 at *
  generalize crcGo (2 ^ 32 - 1) 2197175160 0 xs = r2 at *
  by_cases h1 : kind = 1
  · subst h1
    go_enter Try.func116, Try.ntmps116
    go_wp2_with (go_at_call 135; refine K1.out.mono ?_; rintro e w' ⟨rfl, rfl⟩)
    go_ret
    exact ⟨ret_int (by rw [HG.out]; rfl), rfl⟩
  · have h1' : (kind == 1) = false := by simpa using h1
    by_cases h2 : kind = 2
    · subst h2
      go_enter Try.func116, Try.ntmps116
      go_wp2_with (go_at_call 135; refine K2.out.mono ?_; rintro e w' ⟨rfl, rfl⟩)
      go_ret
      exact ⟨ret_int (by rw [HG.out]; rfl), rfl⟩
    · have h2' : (kind == 2) = false := by simpa using h2
      go_enter Try.func116, Try.ntmps116
      go_wp2
      go_ret
      exact ⟨ret_int (by rw [HG.out, if_neg h1, if_neg h2]; rfl), rfl⟩

def nine : List UInt8 := [49, 50, 51, 52, 53, 54, 55, 56, 57]

