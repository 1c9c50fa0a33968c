/- Contracts of the reference of layer 1. No condition but the lengths' bounds. -/
import Derived.Test.YthkabhejfkekjaaBe2
namespace Go.Proofs.Ythkabhejfkekjaa
open Go.RowKit

theorem low_any (a b : Int) (w : World) :
    Calls Try.prog 30 #[.int .i64 a, .int .i64 b] w fun e w' => e = .returned (.int .i64 (min a b)) ∧ w = w' := by
  have HM : Hid (min a b = if a < b then a else b) := by show _ = _; split <;> omega
  generalize min a b = r at *
  by_cases h : a < b
  · go_enter Try.func30, Try.ntmps30
    go_wp2
    go_ret
    exact ⟨ret_int (by rw [HM.out, if_pos h]), rfl⟩
  · go_enter Try.func30, Try.ntmps30
    go_wp2
    go_ret
    exact ⟨ret_int (by rw [HM.out, if_neg (by omega)]), rfl⟩
theorem high_any (a b : Int) (w : World) :
    Calls Try.prog 29 #[.int .i64 a, .int .i64 b] w fun e w' => e = .returned (.int .i64 (max a b)) ∧ w = w' := by
  have HM : Hid (max a b = if b < a then a else b) := by show _ = _; split <;> omega
  generalize max a b = r at *
  by_cases h : b < a
  · go_enter Try.func29, Try.ntmps29
    go_wp2
    go_ret
    exact ⟨ret_int (by rw [HM.out, if_pos h]), rfl⟩
  · go_enter Try.func29, Try.ntmps29
    go_wp2
    go_ret
    exact ⟨ret_int (by rw [HM.out, if_neg (by omega)]), rfl⟩

set_option maxRecDepth 100000 in
set_option maxHeartbeats 800000 in
theorem refbytes_any (k : Int) (m : Nat) (w : World) (hm64 : m < 18446744073709551616) :
    Calls Try.prog 31 #[.int .i64 k, .int .u64 m] w fun e w' => ∃ v, e = .returned v ∧ w'.ownsRow w.heap.size 5 1 v (wid k) (bs (putB (wid k) m)) ∧ Below w.heap.size w w' := by
  have hB := Below.refl w.heap.size w
  have own0 := World.ownsRow_nil w w.heap.size 5 1
  have hwid := wid_le k
  have hwk : ∀ j : Nat, j < wid k ↔ ((j : Int) < k ∧ j < 8) := by intro j; unfold wid; omega
  go_enter Try.func31, Try.ntmps31
  go_wp2_with fail
  go_loopw [1, 5, 6] (fun r v i wr => ∃ j : Nat, j ≤ wid k ∧ i = .int .i64 j ∧ r = .int .u64 ((m / 256 ^ j : Nat) : Int) ∧ wr.ownsRow w.heap.size 5 1 v j (bs (putB j m)) ∧ Below w.heap.size w wr) (fun _ _ i _ => wid k - (intOf i).toNat)
  case atStart => exact ⟨0, by omega, rfl, by simp, own0, hB⟩
  case round =>
    obtain ⟨j, hj, rfl, rfl, ho, hBr⟩ := hrel
    by_cases hlt : j < wid k
    · obtain ⟨h1, h2⟩ := (hwk j).1 hlt
      have hcons := Lib.hid (putB_cons j m)
      have hdiv : Hid (m / 256 ^ (j + 1) = m / 256 ^ j / 256) := by show _ = _; rw [Nat.pow_succ, Nat.div_div_eq_div_mul]
      have hle : m / 256 ^ j < 18446744073709551616 := Nat.lt_of_le_of_lt (Nat.div_le_self _ _) hm64
      have hb : ((m / 256 ^ j : Nat) : Int) % 256 = ((UInt8.ofNat (m / 256 ^ j)).toNat : Int) := by rw [UInt8.toNat_ofNat']; omega
      generalize UInt8.ofNat (m / 256 ^ j) = b at *
      generalize m / 256 ^ j = q at *
      have hd : decide ((j : Int) < k) = true := by simpa using h1
      have own1 := World.ownsRow_lit (base := w.heap.size) (e := 5) (size := 1) wr #[.int .u8 (b.toNat : Int)] 1 hBr.size (by decide) rfl
      have hBa : Below w.heap.size w (wr.alloc (.cells #[.int .u8 (b.toNat : Int)] 5)) := hBr.alloc hBr.size _
      obtain ⟨A2, c2, rfl, hr, -⟩ := Rd.of_own ho
      have hra := hr.alloc (.cells #[.int .u8 (b.toNat : Int)] 5)
      clear hwk ho hr
      go_wp2_with (first
        | (at_builtin; refine wpl_append rfl (.tmp 19) (.tmp 20) 22 rfl w.heap.size 5 _ 1 1 Try.underlying22 info_u8 rfl (by decide) _ _ _ rfl own1 A2 j c2 _ rfl hra (bs_one _) (by unfold maxLen; omega) (by omega) hBa.size ?_; intro v2 w2 ho2 hg2; have hB2 := below_own hBa own1 hg2; clear hg2))
      go_roundw
      case rel =>
        refine ⟨j + 1, by omega, by go_num, by rw [hdiv.out]; go_num, ?_, hB2⟩
        rw [hcons.out, Nat.add_comm j 1]
        exact ho2
      case measure => simp [intOf]; omega
    · obtain rfl : j = wid k := by omega
      have Ho := Lib.hid ho
      clear ho
      have hnot : ¬ (((wid k : Nat) : Int) < k ∧ wid k < 8) := fun h => absurd ((hwk _).2 h) (by omega)
      clear hwk
      by_cases h8 : k ≤ wid k
      · go_wp2_with fail
        go_ret
        exact ⟨_, rfl, Ho.out, hBr⟩
      · have hd : decide (((wid k : Nat) : Int) < k) = true := by simp; omega
        have hd2 : decide (((wid k : Nat) : Int) < 8) = false := by simp; omega
        go_wp2_with fail
        go_ret
        exact ⟨_, rfl, Ho.out, hBr⟩

set_option maxRecDepth 100000 in
set_option maxHeartbeats 800000 in
theorem refnumber_any (at_ : Nat) (k : Int) (xs : List UInt8) (A : Option Addr) (n c : Nat) (w : World) (hx : RdB w A n c xs) (hN : n ≤ 140737488355328) :
    Calls Try.prog 32 #[.slice A n c, .int .i64 at_, .int .i64 k] w fun e w' => e = .returned (.int .u64 (getN xs at_ k : Nat)) ∧ w = w' := by
  have hn := hx.blen
  have Hn := Lib.hid hn; clear hn
  have hm := hx.cm
  have hnc := hx.nc
  unfold maxLen at hm
  have hwid := wid_le k
  have hwk : ∀ j : Nat, j < wid k ↔ ((j : Int) < k ∧ j < 8) := by intro j; unfold wid; omega
  have HG : Hid (getN xs at_ k = numN (fun i => byteAt xs (clampAt xs at_ + i)) (wid k)) := rfl
  have hf : ∀ i : Nat, byteAt xs (clampAt xs at_ + i) < 256 := fun i => byteAt_lt _ _
  have hfi : ∀ i : Nat, byteAt xs (clampAt xs at_ + i) = if at_ ≤ n ∧ at_ + i < n then (xs.getD (at_ + i) 0).toNat else 0 := by
    intro i
    have e : clampAt xs at_ = min at_ n := by unfold clampAt; rw [Hn.out]; omega
    rw [e]
    by_cases h : at_ ≤ n ∧ at_ + i < n
    · rw [if_pos h, ← byteAt_in (by rw [Hn.out]; exact h.2)]
      congr 1; omega
    · rw [if_neg h]
      exact byteAt_out (.inr (by rw [Hn.out]; omega))
  generalize hf0 : (fun i : Nat => byteAt xs (clampAt xs at_ + i)) = f at *
  have hf2 : ∀ i : Nat, f i < 256 := by intro i; rw [← hf0]; exact hf i
  have hf3 : ∀ i : Nat, f i = if at_ ≤ n ∧ at_ + i < n then (xs.getD (at_ + i) 0).toNat else 0 := by intro i; rw [← hf0]; exact hfi i
  clear hf hfi hf0
  generalize getN xs at_ k = r at *
  go_enter Try.func32, Try.ntmps32
  go_wp2_with fail
  go_loop [7, 8] (fun t i => ∃ j : Nat, j ≤ wid k ∧ i = .int .i64 j ∧ t = .int .u64 (numN f j : Nat)) (fun _ i => wid k - (intOf i).toNat)
  case atStart => exact ⟨0, by omega, rfl, rfl⟩
  case round =>
    obtain ⟨j, hj, rfl, rfl⟩ := hrel
    by_cases hlt : j < wid k
    · obtain ⟨h1, h2⟩ := (hwk j).1 hlt
      have hs : Hid (numN f (j + 1) = numN f j * 256 + f j) := rfl
      have hl := numN_lt56 hf2 (k := j) (by omega)
      have hbj := hf2 j
      have hfj := hf3 j
      generalize numN f j = m at *
      generalize f j = b at *
      clear hf2 hf3 hwk
      by_cases hin : at_ ≤ n ∧ at_ + j < n
      · obtain ⟨i1, i2⟩ := hin
        rw [if_pos ⟨i1, i2⟩] at hfj
        obtain ⟨ad, rfl, hcell⟩ := hx.bat (at_ + j) i2
        rw [← hfj] at hcell
        have Hfj := Lib.hid hfj
        clear hfj
        have j1 : (at_ : Int) + j < n := by omega
        have j2 : ((at_ : Int) + j).toNat = at_ + j := by omega
        have j3 : (0 : Int) ≤ (at_ : Int) + j := by omega
        go_wp2_with fail
        go_round
        case rel => exact ⟨j + 1, by omega, by go_num, by rw [hs.out]; go_num⟩
        case measure => simp [intOf]; omega
      · rw [if_neg hin] at hfj
        have Hfj := Lib.hid hfj
        clear hfj
        by_cases i1 : at_ ≤ n
        · have j1 : ¬ ((at_ : Int) + j < n) := by omega
          have j3 : (0 : Int) ≤ (at_ : Int) + j := by omega
          clear hin
          go_wp2_with fail
          go_round
          case rel => exact ⟨j + 1, by omega, by go_num, by rw [hs.out, Hfj.out]; go_num⟩
          case measure => simp [intOf]; omega
        · clear hin
          go_wp2_with fail
          go_round
          case rel => exact ⟨j + 1, by omega, by go_num, by rw [hs.out, Hfj.out]; go_num⟩
          case measure => simp [intOf]; omega
    · obtain rfl : j = wid k := by omega
      have hnot : ¬ (((wid k : Nat) : Int) < k ∧ wid k < 8) := fun h => absurd ((hwk _).2 h) (by omega)
      clear hwk hf2 hf3
      rw [← HG.out]
      by_cases h8 : k ≤ wid k
      · go_wp2_with fail
        go_ret
        exact ⟨ret_int rfl, rfl⟩
      · have hd : decide (((wid k : Nat) : Int) < k) = true := by simp; omega
        have hd2 : decide (((wid k : Nat) : Int) < 8) = false := by simp; omega
        go_wp2_with fail
        go_ret
        exact ⟨ret_int rfl, rfl⟩
end Go.Proofs.Ythkabhejfkekjaa
