/- Contracts of the reference of layer 1. No condition but the lengths' bounds. -/
import Derived.Test.YtefipigdkdopcaaBe2
namespace Go.Proofs.Ytefipigdkdopcaa
open Go.RowKit

theorem low_any (a b : Int) (w : World) :
    Calls Try.prog 114 #[.int .i64 a, .int .i64 b] w fun e w' => e = .returned (.int .i64 (min a b)) ∧ w = w' := by
  have HM : Hid (min a b = if a < b then a else b) := by show _ = _; split <;> omega
  generalize min a b = r at *
  by_cases h : a < b
  · go_enter Try.func114, Try.ntmps114
    go_wp2
    go_ret
    exact ⟨ret_int (by rw [HM.out, if_pos h]), rfl⟩
  · go_enter Try.func114, Try.ntmps114
    go_wp2
    go_ret
    exact ⟨ret_int (by rw [HM.out, if_neg (by omega)]), rfl⟩
set_option maxRecDepth 100000 in
set_option maxHeartbeats 800000 in
theorem refbytes_any (k : Int) (m : Nat) (w : World) (hm64 : m < 18446744073709551616) :
    Calls Try.prog 115 #[.int .i64 k, .int .u64 m] w fun e w' => ∃ v, e = .returned v ∧ w'.ownsRow w.heap.size 5 1 v (wid k) (bs (putB (wid k) m)) ∧ Below w.heap.size w w' := by
  have hB := Below.refl w.heap.size w
  have own0 := World.ownsRow_nil w w.heap.size 5 1
  have hwid := wid_le k
  have hwk : ∀ j : Nat, j < wid k ↔ ((j : Int) < k ∧ j < 8) := by intro j; unfold wid; omega
  go_enter Try.func115, Try.ntmps115
  go_wp2_with fail
  go_loopw [1, 5, 6] (fun r v i wr => ∃ j : Nat, j ≤ wid k ∧ i = .int .i64 j ∧ r = .int .u64 ((m / 256 ^ j : Nat) : Int) ∧ wr.ownsRow w.heap.size 5 1 v j (bs (putB j m)) ∧ Below w.heap.size w wr) (fun _ _ i _ => wid k - (intOf i).toNat)
  case atStart => exact ⟨0, by omega, rfl, by simp, own0, hB⟩
  case round =>
    obtain ⟨j, hj, rfl, rfl, ho, hBr⟩ := hrel
    by_cases hlt : j < wid k
    · obtain ⟨h1, h2⟩ := (hwk j).1 hlt
      have hcons := Lib.hid (putB_cons j m)
      have hdiv : Hid (m / 256 ^ (j + 1) = m / 256 ^ j / 256) := by show _ = _; rw [Nat.pow_succ, Nat.div_div_eq_div_mul]
      have hle : m / 256 ^ j < 18446744073709551616 := Nat.lt_of_le_of_lt (Nat.div_le_self _ _) hm64
      have hb : ((m / 256 ^ j : Nat) : Int) % 256 = ((UInt8.ofNat (m / 256 ^ j)).toNat : Int) := by rw [UInt8.toNat_ofNat']; omega
      generalize UInt8.ofNat (m / 256 ^ j) = b at *
      generalize m / 256 ^ j = q at *
      have hd : decide ((j : Int) < k) = true := by simpa using h1
      have own1 := World.ownsRow_lit (base := w.heap.size) (e := 5) (size := 1) wr #[.int .u8 (b.toNat : Int)] 1 hBr.size (by decide) rfl
      have hBa : Below w.heap.size w (wr.alloc (.cells #[.int .u8 (b.toNat : Int)] 5)) := hBr.alloc hBr.size _
      obtain ⟨A2, c2, rfl, hr, -⟩ := Rd.of_own ho
      have hra := hr.alloc (.cells #[.int .u8 (b.toNat : Int)] 5)
      clear hwk ho hr
      go_wp2_with (first
        | (at_builtin; refine wpl_append rfl (.tmp 19) (.tmp 20) 53 rfl w.heap.size 5 _ 1 1 Try.underlying53 info_u8 rfl (by decide) _ _ _ rfl own1 A2 j c2 _ rfl hra (bs_one _) (by unfold maxLen; omega) (by omega) hBa.size ?_; intro v2 w2 ho2 hg2; have hB2 := below_own hBa own1 hg2; clear hg2))
      go_roundw
      case rel =>
        refine ⟨j + 1, by omega, by go_num, by rw [hdiv.out]; go_num, ?_, hB2⟩
        rw [hcons.out, Nat.add_comm j 1]
        exact ho2
      case measure => simp [intOf]; omega
    · obtain rfl : j = wid k := by omega
      have Ho := Lib.hid ho
      clear ho
      have hnot : ¬ (((wid k : Nat) : Int) < k ∧ wid k < 8) := fun h => absurd ((hwk _).2 h) (by omega)
      clear hwk
      by_cases h8 : k ≤ wid k
      · go_wp2_with fail
        go_ret
        exact ⟨_, rfl, Ho.out, hBr⟩
      · have hd : decide (((wid k : Nat) : Int) < k) = true := by simp; omega
        have hd2 : decide (((wid k : Nat) : Int) < 8) = false := by simp; omega
        go_wp2_with fail
        go_ret
        exact ⟨_, rfl, Ho.out, hBr⟩

