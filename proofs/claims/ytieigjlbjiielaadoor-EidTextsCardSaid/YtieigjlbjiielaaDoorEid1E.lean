/- Contracts of eid.digits, number, None, named. No condition but the kinds' bounds. -/
import Derived.Test.YtieigjlbjiielaaDoorEid0E
import Derived.Test.YtieigjlbjiielaaDoorShelf
import Derived.Deep.DeepCutAuto
namespace Go.Proofs.YtieigjlbjiielaaDoor
open Go.RowKit

abbrev eidV (sc : Int) (nm : List UInt8) (nd sv : Int) : Value := .agg #[.int .i64 sc, .string ⟨nm.toArray⟩, .int .u64 nd, .int .u64 sv]
theorem enc_low (c : Nat) (h : c < 128) : Utf8.encode (c : Int) = ⟨([UInt8.ofNat c] : List UInt8).toArray⟩ := by
  have hv : Utf8.valid (c : Int) = true := by
    unfold Utf8.valid
    simp only [Bool.or_eq_true, Bool.and_eq_true, decide_eq_true_eq]
    omega
  unfold Utf8.encode
  simp only [hv, if_true, Int.toNat_natCast, h]

set_option maxRecDepth 100000 in
theorem edigits_any (n : Nat) (w : World) (hn : n < 18446744073709551616) :
    Calls Tryd.prog 31 #[.int .u64 n] w fun e w' => e = .returned (.string ⟨(digs n).toArray⟩) ∧ w = w' := by
  have HD : Hid (∃ s, s = digs n) := ⟨_, rfl⟩
  obtain ⟨s, Hs⟩ := HD.out
  have HS : Hid (digs n = s ∧ s.length ≤ 20) := ⟨Hs.symm, by rw [Hs]; exact digs_len hn⟩
  rw [← Hs]
  clear Hs HD
  go_enter Tryd.func31, Tryd.ntmps31
  go_wp2_with fail
  go_loop [0, 3] (fun x t => ∃ (m : Nat) (q : List UInt8), x = .int .u64 m ∧ t = .string ⟨q.toArray⟩ ∧ m < 18446744073709551616 ∧ digs m ++ q = s) (fun x _ => (intOf x).toNat)
  case atStart => exact ⟨n, [], rfl, rfl, hn, by rw [HS.out.1]; simp⟩
  case round =>
    obtain ⟨m, q, rfl, rfl, hm, hq⟩ := hrel
    have HQ := Lib.hid hq
    clear hq
    have hsl := HS.out.2
    have hql : q.length ≤ 20 := by rw [← HQ.out, List.length_append] at hsl; omega
    clear hsl
    have hlim : ¬ (9223372036854775807 < 1 + q.length) := by omega
    have hx := enc_low (48 + m % 10) (by omega)
    have hx2 : Utf8.encode (48 + (m : Int) % 10) = ⟨([UInt8.ofNat (48 + m % 10)] : List UInt8).toArray⟩ := by rw [← hx]; congr 1
    have HB : Hid (∃ b, b = UInt8.ofNat (48 + m % 10)) := ⟨_, rfl⟩
    obtain ⟨b, Hb⟩ := HB.out
    rw [← Hb] at hx2
    clear hx
    by_cases h : 9 < m
    · have h' : (9 : Int) < (m : Int) := by omega
      have HR : Hid (digs (m / 10) ++ ([b] ++ q) = s) := by
        show _ = _
        rw [← HQ.out, digs.eq_def m, if_neg (by omega), ← Hb]; simp
      clear Hb HB
      go_wp2_with fail
      rw [cat_bytes]
      go_round
      case rel => exact ⟨m / 10, [b] ++ q, by go_num, rfl, by omega, HR.out⟩
      case measure => simp [intOf]; omega
    · have h' : ¬ (9 : Int) < (m : Int) := by omega
      have hx3 : Utf8.encode (48 + (m : Int)) = ⟨([b] : List UInt8).toArray⟩ := by rw [show (48 : Int) + (m : Int) = 48 + (m : Int) % 10 by omega]; exact hx2
      have HR : Hid ([b] ++ q = s) := by
        show _ = _
        rw [← HQ.out, digs.eq_def m, if_pos (by omega), Hb, Nat.mod_eq_of_lt (show m < 10 by omega)]
      clear Hb HB hx2
      go_wp2_with fail
      rw [cat_bytes]
      go_ret
      exact ⟨by rw [← HR.out]; simp, rfl⟩

theorem four_heap {w : World} {g : Nat} {a0 b0 c0 d0 : Value} {t : TypeId} (h : w.heap[g]? = some (.cells #[a0, b0, c0, d0] t (0, 0))) (a b c d : Value) : ((((w.setCell ⟨g, 0, none⟩ a).setCell ⟨g, 1, none⟩ b).setCell ⟨g, 2, none⟩ c).setCell ⟨g, 3, none⟩ d).heap[g]? = some (.cells #[a, b, c, d] t (0, 0)) :=
  set_heap (o := 3) (set_heap (o := 2) (set_heap (o := 1) (set_heap (o := 0) h a) b) c) d
theorem four_gb (w : World) (g : Nat) (a b c d : Value) : w.grownBy ((((w.setCell ⟨g, 0, none⟩ a).setCell ⟨g, 1, none⟩ b).setCell ⟨g, 2, none⟩ c).setCell ⟨g, 3, none⟩ d) (some g) :=
  (((gb_set _ _ _ _).trans (gb_set _ _ _ _)).trans (gb_set _ _ _ _)).trans (gb_set _ _ _ _)
theorem four_cells {w : World} {g : Nat} {a b c d : Value} {t : TypeId} (h : w.heap[g]? = some (.cells #[a, b, c, d] t (0, 0))) :
    (w.cell? ⟨g, 0, none⟩ = some a ∧ w.cell? ⟨g, 1, none⟩ = some b ∧ w.cell? ⟨g, 2, none⟩ = some c ∧ w.cell? ⟨g, 3, none⟩ = some d) ∧ (w.frozen? ⟨g, 0, none⟩ = false ∧ w.frozen? ⟨g, 1, none⟩ = false ∧ w.frozen? ⟨g, 2, none⟩ = false ∧ w.frozen? ⟨g, 3, none⟩ = false) :=
  ⟨⟨cell_heap h, cell_heap h, cell_heap h, cell_heap h⟩, frozen_heap h, frozen_heap h, frozen_heap h, frozen_heap h⟩
set_option maxRecDepth 100000 in
theorem enone_any (w : World) : Calls Tryd.prog 30 #[] w fun e w' => e = .returned (eidV 1 [] 0 0) ∧ Below w.heap.size w w' := by
  obtain ⟨hB, hc⟩ := one_cells w #[.int .i64 0, .string ⟨#[]⟩, .int .u64 0, .int .u64 0] 40
  have hR := alloc_new w (.cells #[.int .i64 0, .string ⟨#[]⟩, .int .u64 0, .int .u64 0] 40 (0, 0))
  clear hc
  go_enter Tryd.func30, Tryd.ntmps30
  go_upto_region 1 with fail
  generalize w.alloc (.cells #[.int .i64 0, .string ⟨#[]⟩, .int .u64 0, .int .u64 0] 40) = w1 at *
  obtain ⟨⟨z0, z1, z2, z3⟩, f0, f1, f2, f3⟩ := four_cells hR
  go_wp2_with fail
  have hh9 := four_heap hR (.int .i64 1) (.string ⟨#[]⟩) (.int .u64 0) (.int .u64 0)
  have hB9 := below_gbw (four_gb w1 w.heap.size (.int .i64 1) (.string ⟨#[]⟩) (.int .u64 0) (.int .u64 0)) hB (Nat.le_refl _)
  obtain ⟨⟨r0, r1, r2, r3⟩, -⟩ := four_cells hh9
  refine bodyPost_ret (v := eidV 1 [] 0 0) ?_ rfl ⟨rfl, hB9⟩
  simp [results, Tryd.results30, go_sem, r0, r1, r2, r3]

set_option maxRecDepth 100000 in
theorem enumber_any (xs : List UInt8) (w : World) (hN : xs.length ≤ 100000) : Calls Tryd.prog 35 #[.string ⟨xs.toArray⟩] w fun e w' => (∃ n : Nat, n < 18446744073709551616 ∧ (∀ d, d < 10 → xs = [UInt8.ofNat (48 + d)] → n = d) ∧ e = .returned (.int .u64 (n : Int))) ∧ Below w.heap.size w w' := by
  obtain ⟨hI0, hB0⟩ := ItSt.start w xs
  go_enter Tryd.func35, Tryd.ntmps35
  go_wp2_with fail
  generalize w.iter ⟨xs.toArray⟩ 0 = w0 at *
  go_loopw [3, 5] (fun v _ wr => ∃ (pos : Nat) (n : Nat), v = .int .u64 (n : Int) ∧ pos ≤ xs.length ∧ n < 18446744073709551616 ∧ Hid ((pos = 0 → n = 0) ∧ (pos = 1 → ∀ d, d < 10 → xs = [UInt8.ofNat (48 + d)] → n = d)) ∧ ItSt w.heap.size xs pos wr ∧ Below w.heap.size w wr) (fun _ _ wr => xs.length - wr.iterPos w.heap.size)
  case atStart => exact ⟨0, 0, rfl, by omega, by omega, ⟨fun _ => rfl, fun h => by omega⟩, hI0, hB0⟩
  case round =>
    obtain ⟨pos, n, rfl, hpl, hn, HG, hI, hB⟩ := hrel
    clear hI0 hB0
    by_cases hp : pos < xs.length
    · have hnx := hI.run hp
      have HM := Lib.hid hI.pos
      have hI2 := hI.next (pos + widAt xs pos)
      have hB2 := below_iter hB (Nat.le_refl _) xs (pos + widAt xs pos)
      obtain ⟨hw1, hw2⟩ := wid_pos xs pos hp
      have HR := Lib.hid (rune_at xs pos hp)
      clear hI hB
      generalize wr.iterAt w.heap.size ⟨xs.toArray⟩ (pos + widAt xs pos) = wi at *
      by_cases hd : 48 ≤ runeAt xs pos ∧ runeAt xs pos ≤ 57
      · obtain ⟨d1, d2⟩ := hd
        have HN : Hid ((pos = 0 → ∀ d, d < 10 → xs = [UInt8.ofNat (48 + d)] → runeAt xs pos = 48 + d) ∧ (pos = 0 → pos + widAt xs pos = 1)) := by
          obtain ⟨r1, r2, r3⟩ | ⟨r1, r2, _⟩ := HR.out
          · refine ⟨fun h0 d hd hx => ?_, fun h0 => by omega⟩
            subst h0
            rw [r2, hx]
            show (UInt8.ofNat (48 + d)).toNat = _
            rw [UInt8.toNat_ofNat']
            exact Nat.mod_eq_of_lt (by omega)
          · omega
        have hpp : Hid (0 < pos → 1 < pos + widAt xs pos) := fun h => by omega
        clear HR
        generalize hrr : runeAt xs pos = r at *
        have d1' : ¬ (r : Int) < 48 := by omega
        have d2' : ¬ (57 : Int) < (r : Int) := by omega
        have hwp : IntKind.i32.wrap ((r : Int) - 48) = (r : Int) - 48 := by rw [IntKind.wrap_i32]; omega
        have hwp2 : IntKind.u64.wrap ((r : Int) - 48) = (r : Int) - 48 := by rw [IntKind.wrap_u64]; omega
        clear hrr
        go_wp2_with fail
        go_roundw
        case rel =>
          refine ⟨pos + widAt xs pos, ((10 * (n : Int) + ((r : Int) - 48)) % 18446744073709551616).toNat, ?_, hw2, by omega, ?_, hI2, hB2⟩
          · congr 1
            simp only [IntKind.wrap_u64]
            omega
          · refine ⟨fun h => by omega, fun h d hd hx => ?_⟩
            have h0 : pos = 0 := by
              rcases Nat.eq_zero_or_pos pos with h0 | h0
              · exact h0
              · have := hpp.out h0; omega
            have e1 := HG.out.1 h0
            have e2 := HN.out.1 h0 d hd hx
            subst e1 e2
            omega
        case measure => rw [hI2.pos, HM.out]; omega
      · have hd2 : runeAt xs pos < 48 ∨ (¬ runeAt xs pos < 48 ∧ 57 < runeAt xs pos) := by omega
        have HNo : Hid (∀ d, d < 10 → xs = [UInt8.ofNat (48 + d)] → False) := by
          intro d hd3 hx
          have hp0 : pos = 0 := by rw [hx] at hp; simpa using hp
          subst hp0
          obtain ⟨r1, r2, r3⟩ | ⟨r1, r2, _⟩ := HR.out
          · have h8 : at8 xs 0 = 48 + d := by
              rw [hx]
              show (UInt8.ofNat (48 + d)).toNat = _
              rw [UInt8.toNat_ofNat']
              exact Nat.mod_eq_of_lt (by omega)
            omega
          · have h8 : at8 xs 0 = 48 + d := by
              rw [hx]
              show (UInt8.ofNat (48 + d)).toNat = _
              rw [UInt8.toNat_ofNat']
              exact Nat.mod_eq_of_lt (by omega)
            omega
        clear HR hd HG
        generalize runeAt xs pos = r at *
        have h3 : (r : Int) < 48 ∨ (¬ (r : Int) < 48 ∧ (57 : Int) < (r : Int)) := by omega
        clear hd2
        rcases h3 with q | ⟨q, q2⟩
        all_goals
          go_wp2_with fail
          go_ret
          exact ⟨⟨0, by omega, fun d hd hx => (HNo.out d hd (by first | (rw [hx]; done) | (rw [hx]; simp))).elim, rfl⟩, hB2⟩
    · have hnx := hI.stop hp
      have HF : Hid (∀ d, d < 10 → xs = [UInt8.ofNat (48 + d)] → n = d) := by
        intro d hd hx
        have : xs.length = 1 := by rw [hx]; rfl
        exact HG.out.2 (by omega) d hd hx
      clear HG
      go_wp2_with fail
      go_ret
      exact ⟨⟨n, hn, HF.out, rfl⟩, hB⟩
end Go.Proofs.YtieigjlbjiielaaDoor
