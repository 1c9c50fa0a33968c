/- Contracts of package be (its numbers), and of its reference. No condition but the lengths' bounds. -/
import Derived.Test.YtefipigdkdopcaaLib
import Derived.Test.YtefipigdkdopcaaBePlain
namespace Go.Proofs.Ytefipigdkdopcaa
open Go.RowKit

theorem info_u8 : (Try.prog.info? 5).map (fun i => (i.zero, i.size, i.bytes)) = some (some (.int .u8 0), 1, 1) := by kernel_rfl

theorem size_u8 : (Try.prog.info? 5).map (·.size) = some 1 := by kernel_rfl

set_option maxHeartbeats 400000 in
theorem width_any (k : Int) (w : World) :
    Calls Try.prog 133 #[.int .i64 k] w fun e w' => e = .returned (.int .i64 (wid k)) ∧ w = w' := by
  have HW : Hid ((wid k : Int) = min (max k 0) 8) := by show _ = _; unfold wid; omega
  generalize (wid k : Int) = r at *
  go_enter Try.func133, Try.ntmps133
  go_wp2
  all_goals
    go_ret
    exact ⟨ret_int (by rw [HW.out]; omega), rfl⟩

set_option maxHeartbeats 400000 in
theorem getbyte_any (i : Int) (xs : List UInt8) (p : Addr) (A : Option Addr) (n c : Nat) (w : World) (hp : w.cell? p = some (.slice A n c)) (hx : RdB w A n c xs) :
    Calls Try.prog 132 #[.int .i64 i, .pointer (some p)] w fun e w' => e = .returned (.int .u64 (byteAt xs i : Nat)) ∧ w = w' := by
  have hn := hx.blen
  have Hn := Lib.hid hn; clear hn
  have hm := hx.cm
  have hnc := hx.nc
  unfold maxLen at hm
  by_cases h0 : i < 0
  · have HB : Hid (byteAt xs i = 0) := byteAt_out (.inl h0)
    generalize byteAt xs i = r at *
    go_enter Try.func132, Try.ntmps132
    go_wp2
    go_ret
    exact ⟨ret_int (by rw [HB.out]; rfl), rfl⟩
  · by_cases h1 : (n : Int) ≤ i
    · have HB : Hid (byteAt xs i = 0) := byteAt_out (.inr (by rw [Hn.out]; exact h1))
      generalize byteAt xs i = r at *
      go_enter Try.func132, Try.ntmps132
      go_wp2
      go_ret
      exact ⟨ret_int (by rw [HB.out]; rfl), rfl⟩
    · obtain ⟨j, rfl⟩ := Int.eq_ofNat_of_zero_le (Int.not_lt.1 h0)
      have hj : j < n := by omega
      have HB : Hid (byteAt xs (j : Int) = (xs.getD j 0).toNat) := byteAt_in (by rw [Hn.out]; exact hj)
      have hb := byte_lt (xs.getD j 0)
      obtain ⟨ad, rfl, hcell⟩ := hx.bat j hj
      generalize byteAt xs (j : Int) = r at *
      generalize (xs.getD j 0).toNat = b at *
      clear h0 h1
      go_enter Try.func132, Try.ntmps132
      go_wp2
      go_ret
      exact ⟨ret_int (by rw [HB.out]), rfl⟩

theorem or64 (a b : Nat) (ha : a < 72057594037927936) (hb : b < 256) : bits .or .u64 ((a : Int) * 256) b = ((a * 256 + b : Nat) : Int) := by
  have h := bits_join .u64 64 (by decide) (fun n h0 h1 => by simp [IntKind.wrap, IntKind.bits, IntKind.signed]; omega) 8 ((a : Int) * 256) b (by omega) (by omega) (by omega) (by omega) (by omega) (by omega)
  rw [h]; omega

set_option maxHeartbeats 800000 in
theorem get_any (at_ k : Int) (xs : List UInt8) (A : Option Addr) (n c : Nat) (w : World) (hx : RdB w A n c xs) (hN : n ≤ 140737488355328) :
    Calls Try.prog 110 #[.slice A n c, .int .i64 at_, .int .i64 k] w fun e w' => e = .returned (.int .u64 (getN xs at_ k : Nat)) ∧ Below w.heap.size w w' := by
  have hn := hx.blen
  have Hn := Lib.hid hn; clear hn
  have hm := hx.cm
  have hnc := hx.nc
  unfold maxLen at hm
  have hB : Below w.heap.size w (w.alloc (.cells #[.slice A n c] 53)) := (Below.refl _ _).alloc (Nat.le_refl _) _
  have hp : (w.alloc (.cells #[.slice A n c] 53)).cell? ⟨w.heap.size, 0, none⟩ = some (.slice A n c) := by simp
  have hx1 := hx.below hB
  have HG : Hid (getN xs at_ k = numN (fun i => byteAt xs (clampAt xs at_ + i)) (wid k)) := rfl
  have HC : Hid (clampAt xs at_ = max (min at_ n) (-8)) := by show _ = _; unfold clampAt; rw [Hn.out]
  have hcl : -8 ≤ clampAt xs at_ ∧ clampAt xs at_ ≤ n := by rw [HC.out]; omega
  have hf : ∀ i : Nat, byteAt xs (clampAt xs at_ + i) < 256 := fun i => byteAt_lt _ _
  have hwid := wid_le k
  generalize hr : getN xs at_ k = r at *
  clear hr
  generalize hcc : clampAt xs at_ = a at *
  clear hcc
  obtain ⟨hc1, hc2⟩ := hcl
  have key : (n : Int) < at_ ∨ at_ < -8 ∨ (at_ ≤ n ∧ -8 ≤ at_) := by omega
  rcases key with hgt | hlow | ⟨h1, h2⟩
  case' inl => have ha := Lib.hid (show (n : Int) = a by rw [HC.out]; omega)
  case' inr.inl => have ha := Lib.hid (show (-8 : Int) = a by rw [HC.out]; omega)
  case' inr.inr => have ha := Lib.hid (show at_ = a by rw [HC.out]; omega)
  all_goals
    go_enter Try.func110, Try.ntmps110
    go_wp2_with (go_at_call 133; refine (width_any _ _).mono ?_; rintro e w' ⟨rfl, rfl⟩)
    rw [ha.out]
    generalize hw1 : w.alloc (.cells #[.slice A n c] 53) = w1 at *
    clear hw1
    go_loop [7, 21] (fun t i => ∃ j : Nat, j ≤ wid k ∧ i = .int .i64 j ∧ t = .int .u64 (numN (fun i => byteAt xs (a + i)) j : Nat)) (fun _ i => wid k - (intOf i).toNat)
    case' atStart => exact ⟨0, by omega, rfl, rfl⟩
    obtain ⟨j, hj, rfl, rfl⟩ := hrel
    by_cases hlt : j < wid k
    · have hs : Hid (numN (fun i => byteAt xs (a + i)) (j + 1) = numN (fun i => byteAt xs (a + i)) j * 256 + byteAt xs (a + j)) := rfl
      have hl := numN_lt56 hf (k := j) (by omega)
      have hbj := hf j
      have K := fun W h1 h2 => Lib.hid (getbyte_any (a + j) xs ⟨w.heap.size, 0, none⟩ A n c W h1 h2)
      generalize byteAt xs (a + j) = b at *
      clear hf
      generalize numN (fun i => byteAt xs (a + i)) j = m at *
      have ho := or64 m b hl hbj
      go_wp2_with (go_at_call 132; refine (K _ hp hx1).out.mono ?_; rintro e w' ⟨rfl, rfl⟩)
      go_round
      case rel => exact ⟨j + 1, by omega, by go_num, by rw [hs.out]; go_num⟩
      case measure => simp [intOf]; omega
    · obtain rfl : j = wid k := by omega
      rw [← HG.out]
      go_wp2_with fail
      go_ret
      exact ⟨ret_int rfl, hB⟩
end Go.Proofs.Ytefipigdkdopcaa
