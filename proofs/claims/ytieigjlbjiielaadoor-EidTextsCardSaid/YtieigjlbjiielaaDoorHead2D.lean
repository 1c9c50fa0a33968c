/- Contracts of layer 5 (head): Put, and the reference's. -/
import Derived.Test.YtieigjlbjiielaaDoorHeadD
import Derived.Test.YtieigjlbjiielaaDoorLib2
import Derived.Deep.RegionHeld3
import Derived.Deep.QuietTactic
import Derived.BigQuiet
namespace Go.Proofs.YtieigjlbjiielaaDoor
open Go.RowKit

theorem or8 (a b : Nat) (ha : a < 8) (hb : b < 32) : bits .or .u8 ((a : Int) * 32) b = ((a * 32 + b : Nat) : Int) := by
  have h := bits_join .u8 8 (by decide) (fun n h0 h1 => by simp [IntKind.wrap, IntKind.bits, IntKind.signed]; omega) 5 ((a : Int) * 32) b (by omega) (by omega) (by omega) (by omega) (by omega) (by omega)
  rw [h]; omega
theorem ori64 (a b : Nat) (ha : a < 8) (hb : b < 32) : bits .or .i64 ((a : Int) * 32) b = ((a * 32 + b : Nat) : Int) := by
  have h := bits_join .i64 63 (by decide) (fun n h0 h1 => by simp [IntKind.wrap, IntKind.bits, IntKind.signed]; omega) 5 ((a : Int) * 32) b (by omega) (by omega) (by omega) (by omega) (by omega) (by omega)
  rw [h]; omega

set_option maxRecDepth 100000 in
set_option maxHeartbeats 1000000 in
theorem hput_any (m n : Nat) (w : World) (hm : m < 8) (hn : n < 18446744073709551616) :
    Calls Tryd.prog 50 #[.int .i64 m, .int .u64 n] w fun e w' => ∃ v, e = .returned (.tuple #[v, .int .i64 0]) ∧ w'.ownsRow w.heap.size 5 1 v (1 + wideN n) (bs (headB m n)) ∧ Below w.heap.size w w' := by
  have hB := Below.refl w.heap.size w
  have KW := Lib.hid (wide_any n w hn)
  by_cases h : n < 24
  · have h0 := wideN_few h
    rw [h0] at KW
    obtain ⟨b, hb⟩ : ∃ b : UInt8, b = UInt8.ofNat (m * 32 + n) := ⟨_, rfl⟩
    have hb2 : ((m * 32 + n : Nat) : Int) = (b.toNat : Int) := by rw [hb, UInt8.toNat_ofNat']; omega
    have ho := or8 m n hm (by omega)
    rw [hb2] at ho
    have HH : Hid (headB m n = [b]) := by show _ = _; unfold headB; rw [if_pos h, hb]
    clear hb hb2 hn
    go_enter Tryd.func50, Tryd.ntmps50
    go_wp2_with (first
      | (go_at_call 57; refine KW.out.mono ?_; rintro e w2 ⟨rfl, hb⟩; replace hB := below_trans hB hb; clear hb))
    go_ret2
    rw [h0, HH.out]
    exact ⟨_, rfl, World.ownsRow_lit (base := w.heap.size) (e := 5) (size := 1) w2 #[.int .u8 (b.toNat : Int)] 1 hB.size (by decide) rfl, hB.alloc hB.size _⟩
  · have hk8 := wideN_le n
    have hk1 : 0 < wideN n := by rcases wideN_cases (n := n) (by omega) with ⟨h, _⟩ | ⟨h, _⟩ | ⟨h, _⟩ | h <;> omega
    have KI := fun w => Lib.hid (hinfo_any (wideN n) w hk8)
    have hi : infoN (wideN n) < 32 := by unfold infoN; (repeat' split) <;> omega
    have HH : Hid (headB m n = UInt8.ofNat (m * 32 + infoN (wideN n)) :: putB (wideN n) n) := by show _ = _; unfold headB; rw [if_neg h]
    have hwid : wid (wideN n : Nat) = wideN n := by unfold wid; omega
    generalize headB m n = hb0 at *
    generalize infoN (wideN n) = i at *
    obtain ⟨b, hb⟩ : ∃ b : UInt8, b = UInt8.ofNat (m * 32 + i) := ⟨_, rfl⟩
    have hb2 : ((m * 32 + i : Nat) : Int) = (b.toNat : Int) := by rw [hb, UInt8.toNat_ofNat']; omega
    have ho := ori64 m i hm hi
    rw [hb2] at ho
    rw [← hb] at HH
    have hbl := byte_lt b
    have KP := fun W => Lib.hid (put_any (wideN n) n [b] _ 1 1 (W.alloc (.cells #[.int .u8 (b.toNat : Int)] 5)) hn (rd_one (w := W) (e := 5) (x := (b.toNat : Int)) rfl) (by omega))
    simp only [hwid] at KP
    have hn24 : ¬ (n < 24) := h
    clear hn hb hb2 hwid h
    generalize wideN n = k at *
    have hk0 : ¬ ((k : Int) = 0) := by omega
    go_enter Tryd.func50, Tryd.ntmps50
    go_wp2_with (first
      | (go_at_call 57; refine KW.out.mono ?_; rintro e w2 ⟨rfl, hb⟩; replace hB := below_trans hB hb; clear hb)
      | (go_at_call 59; refine (KI _).out.mono ?_; rintro e w3 ⟨rfl, rfl⟩)
      | (go_at_call 58; refine (KP _).out.mono ?_; rintro e w4 ⟨v, rfl, how, hb⟩))
    go_ret2
    have hB2 := (hB.alloc hB.size (.cells #[.int .u8 (b.toNat : Int)] 5))
    exact ⟨_, rfl, by rw [HH.out]; exact ownsRow_base how hB2.size, below_then hB2 hb hB2.size⟩

