/- Contracts of package crc and of its reference. No condition but the lengths' bounds. -/
import Derived.Test.YtefipigdkdopcaaLib
import Derived.Test.YtefipigdkdopcaaCrcPlain
namespace Go.Proofs.Ytefipigdkdopcaa
open Go.RowKit

set_option maxHeartbeats 400000 in
theorem crcbit_any (s : Nat) (c : Nat) (p : Nat) (a : Addr) (w : World) (hs : s < 4294967296) (hp : p < 4294967296) (hc : c < 256) (hcell : w.cell? a = some (.int .u32 p)) :
    Calls Try.prog 144 #[.int .u32 s, .int .u8 c, .pointer (some a)] w fun e w' => e = .returned (.int .u32 (con p s c)) ∧ w = w' := by
  go_enter Try.func144, Try.ntmps144
  go_wp2
  go_loop [0, 10] (fun t i => ∃ k : Nat, k ≤ 8 ∧ i = .int .i64 k ∧ t = .int .u32 (citer p k (s ^^^ c) : Nat)) (fun _ i => 8 - (intOf i).toNat)
  case atStart => exact ⟨0, by omega, rfl, by rw [xor32 s c hs (by omega)]; rfl⟩
  case round =>
    obtain ⟨k, hk, rfl, rfl⟩ := hrel
    have hlt := citer_lt (n := 32) hp k (s ^^^ c) (xor_lt (n := 32) hs (by omega))
    have hst := citer_succ p k (s ^^^ c)
    by_cases hk8 : k < 8
    · generalize citer p k (s ^^^ c) = t at *
      have Hst := Lib.hid hst; clear hst
      have ha := and32_1 t hlt
      by_cases hodd : t % 2 = 1
      · have hc1 : (((t % 2 : Nat) : Int) == 1) = true := by rw [hodd]; rfl
        clear hodd
        go_wp2
        go_round
        case rel =>
          refine ⟨k + 1, by omega, by go_num, ?_⟩
          rw [Hst.out, show ((t : Int) / 2) = ((t / 2 : Nat) : Int) by omega, xor32 _ _ (by omega) hp, cstep, if_pos (by rw [beq_iff_eq] at hc1; omega)]
        case measure => simp [intOf]; omega
      · have hc1 : (((t % 2 : Nat) : Int) == 1) = false := by rw [beq_eq_false_iff_ne]; omega
        clear hodd
        go_wp2
        go_round
        case rel =>
          refine ⟨k + 1, by omega, by go_num, ?_⟩
          rw [Hst.out, show ((t : Int) / 2) = ((t / 2 : Nat) : Int) by omega, cstep, if_neg (by rw [beq_eq_false_iff_ne] at hc1; omega)]
        case measure => simp [intOf]; omega
    · obtain rfl : k = 8 := by omega
      clear hst
      go_wp2
      go_ret
      exact ⟨rfl, rfl⟩

theorem crcbits_any (p : Nat) (w : World) :
    Calls Try.prog 143 #[.int .u32 p] w fun e w' => e = .returned (.func (.func 144) #[] #[.pointer (some ⟨w.heap.size, 0, none⟩)]) ∧ w.alloc (.cells #[.int .u32 p] 176) = w' := by
  go_enter Try.func143, Try.ntmps143
  go_wp2
  go_ret
  exact ⟨rfl, rfl⟩

set_option maxHeartbeats 400000 in
theorem through_any (s p : Nat) (xs : List UInt8) (A : Option Addr) (n c : Nat) (w : World) (hs : s < 4294967296) (hp : p < 4294967296) (hx : RdB w A n c xs) :
    Calls Try.prog 141 #[.int .u32 s, .int .u32 p, .slice A n c] w fun e w' => e = .returned (.int .u32 (thr p s xs : Nat)) ∧ Below w.heap.size w w' := by
  have hn := hx.blen
  have hm := hx.cm
  have hnc := hx.nc
  unfold maxLen at hm
  have hB : Below w.heap.size w (w.alloc (.cells #[.int .u32 p] 176)) := (Below.refl _ _).alloc (Nat.le_refl _) _
  have hp1 : (w.alloc (.cells #[.int .u32 p] 176)).cell? ⟨w.heap.size, 0, none⟩ = some (.int .u32 p) := by simp
  have hx1 := hx.below hB
  go_enter Try.func141, Try.ntmps141
  go_wp2_with (go_at_call 143; refine (crcbits_any _ _).mono ?_; rintro e w' ⟨rfl, rfl⟩)
  generalize w.alloc (.cells #[.int .u32 p] 176) = w1 at *
  have Hn := Lib.hid hn; clear hn
  go_loop [0, 14] (fun t i => ∃ k : Nat, k ≤ n ∧ i = .int .i64 k ∧ t = .int .u32 (thr p s (xs.take k) : Nat)) (fun _ i => n - (intOf i).toNat)
  case atStart => exact ⟨0, by omega, rfl, rfl⟩
  case round =>
    obtain ⟨k, hk, rfl, rfl⟩ := hrel
    by_cases hlt : k < n
    · have hb := toNat_lt (xs.getD k 0)
      have hst := thr_take p s xs k (by rw [Hn.out]; exact hlt)
      have htl := thr_lt (n := 32) (by omega) hp (xs.take k) s hs
      obtain ⟨ad, rfl, hcell⟩ := hx1.bat k hlt
      generalize thr p s (xs.take k) = t at *
      have Hst := Lib.hid hst; clear hst
      generalize hb' : (xs.getD k 0).toNat = b at *
      have Hb := Lib.hid hb'; clear hb'
      go_wp2_with (go_at_call 144; refine (crcbit_any _ _ _ _ _ htl hp (by omega) hp1).mono ?_; rintro e w' ⟨rfl, rfl⟩)
      go_round
      case rel => exact ⟨k + 1, by omega, by go_num, by rw [Hst.out]⟩
      case measure => simp [intOf]; omega
    · obtain rfl : k = n := by omega
      go_wp2_with fail
      go_ret
      exact ⟨ret_int (by first | rfl | rw [List.take_of_length_le (by rw [Hn.out]; omega)]), hB⟩
theorem xor16 (a : Nat) (ha : a < 65536) : bits .xor .u16 IntKind.u16.max a = ((65535 ^^^ a : Nat) : Int) :=
  bits_xor .u16 16 (by decide) wraps_u16 65535 a (by decide) ha
theorem xor32m (a : Nat) (ha : a < 4294967296) : bits .xor .u32 IntKind.u32.max a = ((4294967295 ^^^ a : Nat) : Int) :=
  bits_xor .u32 32 (by decide) wraps_u32 4294967295 a (by decide) ha

set_option maxHeartbeats 400000 in
theorem goshort_any (s : Nat) (xs : List UInt8) (A : Option Addr) (n c : Nat) (w : World) (hs : s < 65536) (hx : RdB w A n c xs) :
    Calls Try.prog 134 #[.int .u16 s, .slice A n c] w fun e w' => e = .returned (.int .u16 (crcGo 65535 33800 s xs : Nat)) ∧ Below w.heap.size w w' := by
  have h1 := xor16 s hs
  have h2 : 65535 ^^^ s < 65536 := xor_lt (n := 16) (by omega) hs
  have h3 := thr_lt (n := 16) (p := 33800) (by omega) (by omega) xs _ h2
  have h4 := xor16 _ h3
  have HG : Hid (crcGo 65535 33800 s xs = 65535 ^^^ thr 33800 (65535 ^^^ s) xs) := rfl
  generalize crcGo 65535 33800 s xs = r at *
  generalize 65535 ^^^ s = s' at *
  have hs1 : IntKind.u16.signed = false := rfl
  have K := Lib.hid (through_any s' 33800 xs A n c w (by omega) (by omega) hx)
  generalize thr 33800 s' xs = t at *
  go_enter Try.func134, Try.ntmps134
  go_wp2_with (go_at_call 141; refine K.out.mono ?_; rintro e w' ⟨rfl, hb⟩)
  go_ret
  exact ⟨ret_int (by rw [HG.out]), ‹_›⟩

theorem short_any (xs : List UInt8) (A : Option Addr) (n c : Nat) (w : World) (hx : RdB w A n c xs) :
    Calls Try.prog 112 #[.slice A n c] w fun e w' => e = .returned (.int .u16 (crcS xs : Nat)) ∧ Below w.heap.size w w' := by
  have K := Lib.hid (goshort_any 0 xs A n c w (by omega) hx)
  have HG : Hid (crcS xs = crcGo 65535 33800 0 xs) := rfl
  generalize crcS xs = r at *
  generalize crcGo 65535 33800 0 xs = t at *
  go_enter Try.func112, Try.ntmps112
  go_wp2_with (go_at_call 134; refine K.out.mono ?_; rintro e w' ⟨rfl, hb⟩)
  go_ret
  exact ⟨ret_int (by rw [HG.out]), ‹_›⟩

theorem crcS_lt (xs : List UInt8) : crcS xs < 65536 := crcGo_lt (n := 16) (p := 33800) (s := 0) (by omega) (by omega) (by omega)
theorem crcL_lt (xs : List UInt8) : crcL xs < 4294967296 := crcGo_lt (n := 32) (p := 2197175160) (s := 0) (by omega) (by omega) (by omega)

def crcW (kind : Int) : Int := if kind = 1 then 2 else if kind = 2 then 4 else 0

