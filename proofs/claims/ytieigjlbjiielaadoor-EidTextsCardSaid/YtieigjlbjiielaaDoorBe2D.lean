/- Contracts of package be: laying numbers, rows of numbers; the reference's bytes. No condition but the lengths' bounds. -/
import Derived.Test.YtieigjlbjiielaaDoorBeD
import Derived.StillTailTactics
namespace Go.Proofs.YtieigjlbjiielaaDoor
open Go.RowKit

theorem byte_shr (m q : Nat) : (m : Int) / 2 ^ (8 * q) % 256 = ((UInt8.ofNat (m / 256 ^ q)).toNat : Int) := by
  have e : (2 : Nat) ^ (8 * q) = 256 ^ q := by rw [Nat.pow_mul]
  have e2 : ((2 : Int) ^ (8 * q)) = ((256 ^ q : Nat) : Int) := by rw [← e]; simp
  rw [e2, UInt8.toNat_ofNat']
  omega

set_option maxHeartbeats 800000 in
theorem put_any (k : Int) (m : Nat) (xs : List UInt8) (A : Option Addr) (n c : Nat) (w : World) (hm64 : m < 18446744073709551616) (hx : RdB w A n c xs) (hN : n ≤ 140737488355000) :
    Calls Tryd.prog 58 #[.slice A n c, .int .i64 k, .int .u64 m] w fun e w' => ∃ v, e = .returned v ∧ w'.ownsRow w.heap.size 5 1 v (n + wid k) (bs (xs ++ putB (wid k) m)) ∧ Below w.heap.size w w' := by
  have hn := hx.blen
  have Hn := Lib.hid hn; clear hn
  have hm := hx.cm
  have hnc := hx.nc
  unfold maxLen at hm
  have hB := Below.refl w.heap.size w
  have own0 := World.ownsRow_nil w w.heap.size 5 1
  have hwid := wid_le k
  go_enter Tryd.func58, Tryd.ntmps58
  go_wp2_with (first
    | (at_builtin; refine wpl_append rfl (.const (.slice none 0 0)) (.tmp 9) 61 rfl w.heap.size 5 _ 1 1 Tryd.underlying61 info_u8 rfl (by decide) _ 0 [] rfl own0 A n c (bs xs) rfl hx (bs_one _) (by unfold maxLen; omega) (by omega) (Nat.le_refl _) ?_; intro v1 w1 ho1 hg1; have hB1 := below_own hB own0 hg1; clear hg1)
    | (go_at_call 66; refine (width_any _ _).mono ?_; rintro e w' ⟨rfl, rfl⟩))
  go_loopw [7, 8] (fun v i wr => ∃ j : Nat, j ≤ wid k ∧ i = .int .i64 ((wid k : Int) - 1 - j) ∧ wr.ownsRow w.heap.size 5 1 v (n + j) (bs (xs ++ (putB (wid k) m).take j)) ∧ Below w.heap.size w wr) (fun _ i _ => (intOf i + 1).toNat)
  case atStart => exact ⟨0, by omega, by go_num, by simpa using ho1, hB1⟩
  case round =>
    obtain ⟨j, hj, rfl, ho, hBr⟩ := hrel
    by_cases hlt : j < wid k
    · have hb := byte_shr m (wid k - 1 - j)
      have ht := Lib.hid (putB_take (wid k) m j hlt)
      generalize UInt8.ofNat (m / 256 ^ (wid k - 1 - j)) = b at *
      go_wp2_with (first
        | (at_builtin; refine wpl_append1 rfl (.tmp 18) (.tmp 24) 61 rfl w.heap.size 5 _ 1 1 Tryd.underlying61 info_u8 rfl (by decide) _ _ _ rfl ho #[.int .u8 (b.toNat : Int)] (0, 0) 1 rfl rfl one8 (by unfold maxLen; omega) (by omega) (by have := hBr.size; omega) ?_; intro v2 w2 ho2 hg2; have hB2 := below_own hBr ho hg2; clear hg2))
      go_roundw
      case rel => exact ⟨j + 1, by omega, by go_num, by rw [ht.out, ← List.append_assoc, bs_append]; exact ho2, hB2⟩
      case measure => simp [intOf]; omega
    · obtain rfl : j = wid k := by omega
      have e : (putB (wid k) m).take (wid k) = putB (wid k) m := List.take_of_length_le (by rw [putB_length]; omega)
      rw [e] at ho
      have Ho := Lib.hid ho
      clear e ho ho1
      go_wp2_with fail
      go_ret
      exact ⟨_, rfl, Ho.out, hBr⟩

