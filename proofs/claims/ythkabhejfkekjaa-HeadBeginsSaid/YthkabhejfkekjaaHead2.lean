/- Contracts of layer 5 (head): Put, and the reference's. -/
import Derived.Test.YthkabhejfkekjaaHead
import Derived.Test.YthkabhejfkekjaaLib2
import Derived.Deep.RegionHeld3
import Derived.Deep.QuietTactic
import Derived.BigQuiet
namespace Go.Proofs.Ythkabhejfkekjaa
open Go.RowKit

theorem or8 (a b : Nat) (ha : a < 8) (hb : b < 32) : bits .or .u8 ((a : Int) * 32) b = ((a * 32 + b : Nat) : Int) := by
  have h := bits_join .u8 8 (by decide) (fun n h0 h1 => by simp [IntKind.wrap, IntKind.bits, IntKind.signed]; omega) 5 ((a : Int) * 32) b (by omega) (by omega) (by omega) (by omega) (by omega) (by omega)
  rw [h]; omega
theorem ori64 (a b : Nat) (ha : a < 8) (hb : b < 32) : bits .or .i64 ((a : Int) * 32) b = ((a * 32 + b : Nat) : Int) := by
  have h := bits_join .i64 63 (by decide) (fun n h0 h1 => by simp [IntKind.wrap, IntKind.bits, IntKind.signed]; omega) 5 ((a : Int) * 32) b (by omega) (by omega) (by omega) (by omega) (by omega) (by omega)
  rw [h]; omega

set_option maxRecDepth 100000 in
set_option maxHeartbeats 1000000 in
theorem hput_any (m n : Nat) (w : World) (hm : m < 8) (hn : n < 18446744073709551616) :
    Calls Try.prog 41 #[.int .i64 m, .int .u64 n] w fun e w' => ∃ v, e = .returned (.tuple #[v, .int .i64 0]) ∧ w'.ownsRow w.heap.size 5 1 v (1 + wideN n) (bs (headB m n)) ∧ Below w.heap.size w w' := by
  have hB := Below.refl w.heap.size w
  have KW := Lib.hid (wide_any n w hn)
  by_cases h : n < 24
  · have h0 := wideN_few h
    rw [h0] at KW
    obtain ⟨b, hb⟩ : ∃ b : UInt8, b = UInt8.ofNat (m * 32 + n) := ⟨_, rfl⟩
    have hb2 : ((m * 32 + n : Nat) : Int) = (b.toNat : Int) := by rw [hb, UInt8.toNat_ofNat']; omega
    have ho := or8 m n hm (by omega)
    rw [hb2] at ho
    have HH : Hid (headB m n = [b]) := by show _ = _; unfold headB; rw [if_pos h, hb]
    clear hb hb2 hn
    go_enter Try.func41, Try.ntmps41
    go_wp2_with (first
      | (go_at_call 78; refine KW.out.mono ?_; rintro e w2 ⟨rfl, hb⟩; replace hB := below_trans hB hb; clear hb))
    go_ret2
    rw [h0, HH.out]
    exact ⟨_, rfl, World.ownsRow_lit (base := w.heap.size) (e := 5) (size := 1) w2 #[.int .u8 (b.toNat : Int)] 1 hB.size (by decide) rfl, hB.alloc hB.size _⟩
  · have hk8 := wideN_le n
    have hk1 : 0 < wideN n := by rcases wideN_cases (n := n) (by omega) with ⟨h, _⟩ | ⟨h, _⟩ | ⟨h, _⟩ | h <;> omega
    have KI := fun w => Lib.hid (info_any (wideN n) w hk8)
    have hi : infoN (wideN n) < 32 := by unfold infoN; (repeat' split) <;> omega
    have HH : Hid (headB m n = UInt8.ofNat (m * 32 + infoN (wideN n)) :: putB (wideN n) n) := by show _ = _; unfold headB; rw [if_neg h]
    have hwid : wid (wideN n : Nat) = wideN n := by unfold wid; omega
    generalize headB m n = hb0 at *
    generalize infoN (wideN n) = i at *
    obtain ⟨b, hb⟩ : ∃ b : UInt8, b = UInt8.ofNat (m * 32 + i) := ⟨_, rfl⟩
    have hb2 : ((m * 32 + i : Nat) : Int) = (b.toNat : Int) := by rw [hb, UInt8.toNat_ofNat']; omega
    have ho := ori64 m i hm hi
    rw [hb2] at ho
    rw [← hb] at HH
    have hbl := byte_lt b
    have KP := fun W => Lib.hid (put_any (wideN n) n [b] _ 1 1 (W.alloc (.cells #[.int .u8 (b.toNat : Int)] 5)) hn (rd_one (w := W) (e := 5) (x := (b.toNat : Int)) rfl) (by omega))
    simp only [hwid] at KP
    have hn24 : ¬ (n < 24) := h
    clear hn hb hb2 hwid h
    generalize wideN n = k at *
    have hk0 : ¬ ((k : Int) = 0) := by omega
    go_enter Try.func41, Try.ntmps41
    go_wp2_with (first
      | (go_at_call 78; refine KW.out.mono ?_; rintro e w2 ⟨rfl, hb⟩; replace hB := below_trans hB hb; clear hb)
      | (go_at_call 79; refine (KI _).out.mono ?_; rintro e w3 ⟨rfl, rfl⟩)
      | (go_at_call 28; refine (KP _).out.mono ?_; rintro e w4 ⟨v, rfl, how, hb⟩))
    go_ret2
    have hB2 := (hB.alloc hB.size (.cells #[.int .u8 (b.toNat : Int)] 5))
    exact ⟨_, rfl, by rw [HH.out]; exact ownsRow_base how hB2.size, below_then hB2 hb hB2.size⟩

set_option maxRecDepth 100000 in
set_option maxHeartbeats 2000000 in
theorem refput_any (m n : Nat) (w : World) (hm : m < 8) (hn : n < 18446744073709551616) :
    Calls Try.prog 42 #[.int .i64 m, .int .u64 n] w fun e w' => ∃ v, e = .returned v ∧ w'.ownsRow w.heap.size 5 1 v (1 + wideN n) (bs (headB m n)) ∧ Below w.heap.size w w' := by
  have hB := Below.refl w.heap.size w
  by_cases h : n < 24
  · obtain ⟨b, hb⟩ : ∃ b : UInt8, b = UInt8.ofNat (m * 32 + n) := ⟨_, rfl⟩
    have hb2 : 32 * (m : Int) + n = (b.toNat : Int) := by rw [hb, UInt8.toNat_ofNat']; omega
    have HH : Hid (headB m n = [b]) := by show _ = _; unfold headB; rw [if_pos h, hb]
    have h0 := wideN_few h
    rw [h0]
    have hbl := byte_lt b
    clear hb hn
    generalize headB m n = hb0 at *
    have hn23 : (n : Int) ≤ 23 := by omega
    go_enter Try.func42, Try.ntmps42
    go_wp2_with fail
    go_ret
    rw [HH.out]
    exact ⟨_, rfl, World.ownsRow_lit (base := w.heap.size) (e := 5) (size := 1) w #[.int .u8 (b.toNat : Int)] 1 hB.size (by decide) rfl, hB.alloc hB.size _⟩
  · have hk8 := wideN_le n
    have HH : Hid (headB m n = UInt8.ofNat (m * 32 + infoN (wideN n)) :: putB (wideN n) n) := by show _ = _; unfold headB; rw [if_neg h]
    generalize headB m n = hb0 at *
    obtain ⟨b, hb⟩ : ∃ b : UInt8, b = UInt8.ofNat (m * 32 + infoN (wideN n)) := ⟨_, rfl⟩
    have hbl := byte_lt b
    rw [← hb] at HH
    have own1 := World.ownsRow_lit (base := w.heap.size) (e := 5) (size := 1) w #[.int .u8 (b.toNat : Int)] 1 hB.size (by decide) rfl
    have hB1 : Below w.heap.size w (w.alloc (.cells #[.int .u8 (b.toNat : Int)] 5)) := hB.alloc hB.size _
    have KR := Lib.hid (refbytes_any (wideN n) n (w.alloc (.cells #[.int .u8 (b.toNat : Int)] 5)) hn)
    rw [show wid (wideN n : Nat) = wideN n by unfold wid; omega] at KR
    have H24 := Lib.hid h
    have hcs := wideN_cases (n := n) (by omega)
    have hbi : infoN (wideN n) < 32 := by unfold infoN; (repeat' split) <;> omega
    have hwn : wideN n = if n < 24 then 0 else if n < 256 then 1 else if n < 65536 then 2 else if n < 4294967296 then 4 else 8 := rfl
    rw [if_neg h] at hwn
    generalize hk : wideN n = k at *
    clear hk
    rcases hcs with ⟨rfl, hlt⟩ | ⟨rfl, hlt⟩ | ⟨rfl, hlt⟩ | rfl
    case' inl =>
      have hb2 : 32 * (m : Int) + 24 = (b.toNat : Int) := by rw [hb, UInt8.toNat_ofNat']; simp only [show infoN 1 = 24 from rfl, show infoN 2 = 25 from rfl, show infoN 4 = 26 from rfl, show infoN 8 = 27 from rfl]; omega
      have t1 : (23 : Int) < n := by omega
      have t2 : (n : Int) ≤ 255 := by omega
    case' inr.inl =>
      have hb2 : 32 * (m : Int) + 25 = (b.toNat : Int) := by rw [hb, UInt8.toNat_ofNat']; simp only [show infoN 1 = 24 from rfl, show infoN 2 = 25 from rfl, show infoN 4 = 26 from rfl, show infoN 8 = 27 from rfl]; omega
      have g256 : ¬ n < 256 := by intro h; rw [if_pos h] at hwn; omega
      have t1 : (255 : Int) < n := by omega
      have t2 : (n : Int) ≤ 65535 := by omega
    case' inr.inr.inl =>
      have hb2 : 32 * (m : Int) + 26 = (b.toNat : Int) := by rw [hb, UInt8.toNat_ofNat']; simp only [show infoN 1 = 24 from rfl, show infoN 2 = 25 from rfl, show infoN 4 = 26 from rfl, show infoN 8 = 27 from rfl]; omega
      have g256 : ¬ n < 256 := by intro h; rw [if_pos h] at hwn; omega
      have g65 : ¬ n < 65536 := by intro h; rw [if_neg g256, if_pos h] at hwn; omega
      have t1 : (65535 : Int) < n := by omega
      have t2 : (n : Int) ≤ 4294967295 := by omega
    case' inr.inr.inr =>
      have hb2 : 32 * (m : Int) + 27 = (b.toNat : Int) := by rw [hb, UInt8.toNat_ofNat']; simp only [show infoN 1 = 24 from rfl, show infoN 2 = 25 from rfl, show infoN 4 = 26 from rfl, show infoN 8 = 27 from rfl]; omega
      have g256 : ¬ n < 256 := by intro h; rw [if_pos h] at hwn; omega
      have g65 : ¬ n < 65536 := by intro h; rw [if_neg g256, if_pos h] at hwn; omega
      have g42 : ¬ n < 4294967296 := by intro h; rw [if_neg g256, if_neg g65, if_pos h] at hwn; omega
      have t1 : (4294967295 : Int) < n := by omega
    all_goals
      clear hb hn hwn h
      try clear g256
      try clear g65
      try clear g42
      try clear hlt
      go_enter Try.func42, Try.ntmps42
      go_wp2_with (first
        | (go_at_call 31; refine KR.out.mono ?_; rintro e w2 ⟨v, rfl, ho, hb⟩; obtain ⟨A2, c2, rfl, hr, -⟩ := Rd.of_own ho; have own2 := own_below own1 hb; have hB2 := below_trans hB1 hb; clear hb ho)
        | (at_builtin; refine wpl_append rfl (.tmp 21) (.tmp 23) 22 rfl w.heap.size 5 _ 1 1 Try.underlying22 info_u8 rfl (by decide) _ 1 _ rfl own2 A2 _ c2 _ rfl hr (bs_one _) (by unfold maxLen; omega) (by omega) hB2.size ?_; intro v3 w3 ho3 hg3; have hB3 := below_own hB2 own2 hg3; clear hg3)
        | (at_builtin; refine wpl_append rfl (.tmp 30) (.tmp 32) 22 rfl w.heap.size 5 _ 1 1 Try.underlying22 info_u8 rfl (by decide) _ 1 _ rfl own2 A2 _ c2 _ rfl hr (bs_one _) (by unfold maxLen; omega) (by omega) hB2.size ?_; intro v3 w3 ho3 hg3; have hB3 := below_own hB2 own2 hg3; clear hg3)
        | (at_builtin; refine wpl_append rfl (.tmp 39) (.tmp 41) 22 rfl w.heap.size 5 _ 1 1 Try.underlying22 info_u8 rfl (by decide) _ 1 _ rfl own2 A2 _ c2 _ rfl hr (bs_one _) (by unfold maxLen; omega) (by omega) hB2.size ?_; intro v3 w3 ho3 hg3; have hB3 := below_own hB2 own2 hg3; clear hg3)
        | (at_builtin; refine wpl_append rfl (.tmp 46) (.tmp 48) 22 rfl w.heap.size 5 _ 1 1 Try.underlying22 info_u8 rfl (by decide) _ 1 _ rfl own2 A2 _ c2 _ rfl hr (bs_one _) (by unfold maxLen; omega) (by omega) hB2.size ?_; intro v3 w3 ho3 hg3; have hB3 := below_own hB2 own2 hg3; clear hg3))
      go_ret
      exact ⟨_, rfl, by rw [HH.out]; exact ho3, hB3⟩
end Go.Proofs.Ythkabhejfkekjaa
