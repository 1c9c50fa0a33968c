/- Contracts of runes.Plain, Count, Cut. No condition but the length's bound. -/
import Derived.Test.YtefipigdkdopcaaDoorIter
namespace Go.Proofs.YtefipigdkdopcaaDoor
open Go.RowKit

def plainB (r : Nat) : Bool := decide (32 < r ∧ r < 127)
def plainF (xs : List UInt8) (i : Nat) : Bool :=
  if h : i < xs.length then plainB (runeAt xs i) && plainF xs (i + widAt xs i) else true
termination_by xs.length - i
decreasing_by have := (wid_pos xs i h).1; omega
def countF (xs : List UInt8) (i : Nat) : Nat :=
  if h : i < xs.length then countF xs (i + widAt xs i) + 1 else 0
termination_by xs.length - i
decreasing_by have := (wid_pos xs i h).1; omega
theorem countF_le (xs : List UInt8) (i : Nat) : countF xs i ≤ xs.length - i := by
  fun_induction countF xs i with
  | case1 i h ih => have := (wid_pos xs i h).1; omega
  | case2 i h => omega
/-- Where the runes from number k on end, if only n are taken. -/
def cutF (xs : List UInt8) (n : Int) (i k : Nat) : Nat :=
  if h : i < xs.length then (if n ≤ (k : Int) then i else cutF xs n (i + widAt xs i) (k + 1)) else xs.length
termination_by xs.length - i
decreasing_by have := (wid_pos xs i h).1; omega

set_option maxRecDepth 100000 in
theorem rplain_any (r : Nat) (w : World) (hr : r ≤ 1114111) : Calls Tryd.prog 26 #[.int .i32 r] w fun e w' => e = .returned (.bool (plainB r)) ∧ w = w' := by
  by_cases h1 : 32 < r
  · have h1' : (32 : Int) < (r : Int) := by omega
    by_cases h2 : r ≤ 126
    · have h2' : (r : Int) ≤ 126 := by omega
      have HP : Hid (plainB r = true) := by show _ = _; unfold plainB; rw [decide_eq_true_iff]; omega
      go_enter Tryd.func26, Tryd.ntmps26
      go_wp2_with fail
      go_ret
      exact ⟨by rw [HP.out]; rfl, rfl⟩
    · have h2' : ¬ (r : Int) ≤ 126 := by omega
      have HP : Hid (plainB r = false) := by show _ = _; unfold plainB; rw [decide_eq_false_iff_not]; omega
      go_enter Tryd.func26, Tryd.ntmps26
      go_wp2_with fail
      go_ret
      exact ⟨by rw [HP.out]; rfl, rfl⟩
  · have h1' : ¬ (32 : Int) < (r : Int) := by omega
    have HP : Hid (plainB r = false) := by show _ = _; unfold plainB; rw [decide_eq_false_iff_not]; omega
    go_enter Tryd.func26, Tryd.ntmps26
    go_wp2_with fail
    go_ret
    exact ⟨by rw [HP.out]; rfl, rfl⟩

theorem rune_le (xs : List UInt8) (i : Nat) (h : i < xs.length) : runeAt xs i ≤ 1114111 := by
  have := at8_lt xs i
  rcases rune_at xs i h with h | h <;> omega

set_option maxRecDepth 100000 in
set_option maxHeartbeats 1000000 in
theorem rPlain_any (xs : List UInt8) (w : World) (hN : xs.length ≤ 100000) : Calls Tryd.prog 17 #[.string ⟨xs.toArray⟩] w fun e w' => e = .returned (.bool (plainF xs 0 && !xs.isEmpty)) ∧ Below w.heap.size w w' := by
  obtain ⟨hI0, hB0⟩ := ItSt.start w xs
  go_enter Tryd.func17, Tryd.ntmps17
  go_wp2_with fail
  generalize w.iter ⟨xs.toArray⟩ 0 = w0 at *
  go_loopw [4] (fun _ wr => ∃ pos : Nat, pos ≤ xs.length ∧ Hid (plainF xs 0 = plainF xs pos) ∧ ItSt w.heap.size xs pos wr ∧ Below w.heap.size w wr) (fun _ wr => xs.length - wr.iterPos w.heap.size)
  case atStart => exact ⟨0, by omega, rfl, hI0, hB0⟩
  case round =>
    obtain ⟨pos, hpl, HG, hI, hB⟩ := hrel
    clear hI0 hB0
    by_cases hp : pos < xs.length
    · have hnx := hI.run hp
      have HM := Lib.hid hI.pos
      have hI2 := hI.next (pos + widAt xs pos)
      have hB2 := below_iter hB (Nat.le_refl _) xs (pos + widAt xs pos)
      obtain ⟨hw1, hw2⟩ := wid_pos xs pos hp
      have hr := rune_le xs pos hp
      have HP : Hid (plainF xs 0 = (plainB (runeAt xs pos) && plainF xs (pos + widAt xs pos))) := by
        show _ = _
        rw [HG.out]
        conv => lhs; rw [plainF]
        rw [dif_pos hp]
      have KP := fun W => Lib.hid (rplain_any (runeAt xs pos) W hr)
      clear HG hI hB
      generalize wr.iterAt w.heap.size ⟨xs.toArray⟩ (pos + widAt xs pos) = wi at *
      cases hb : plainB (runeAt xs pos) with
      | true =>
        rw [hb] at HP KP
        clear hb
        generalize runeAt xs pos = r at *
        go_wp2_with (refine (KP _).out.mono ?_; rintro e w' ⟨rfl, rfl⟩)
        go_roundw
        case rel => exact ⟨_, hw2, by rw [HP.out, Bool.true_and]; exact rfl, hI2, hB2⟩
        case measure => rw [hI2.pos, HM.out]; omega
      | false =>
        rw [hb] at HP KP
        clear hb
        generalize runeAt xs pos = r at *
        go_wp2_with (refine (KP _).out.mono ?_; rintro e w' ⟨rfl, rfl⟩)
        go_ret
        exact ⟨by rw [HP.out]; rfl, hB2⟩
    · have hnx := hI.stop hp
      have HP : Hid (plainF xs 0 = true) := by
        show _ = _
        rw [HG.out]
        rw [plainF, dif_neg hp]
      clear HG
      cases xs with
      | nil =>
        go_wp2_with fail
        go_ret
        exact ⟨by rw [HP.out]; rfl, hB⟩
      | cons x r =>
        go_wp2_with fail
        go_ret
        exact ⟨by rw [HP.out]; rfl, hB⟩

set_option maxRecDepth 100000 in
set_option maxHeartbeats 1000000 in
theorem rcount_any (xs : List UInt8) (w : World) (hN : xs.length ≤ 100000) : Calls Tryd.prog 18 #[.string ⟨xs.toArray⟩] w fun e w' => e = .returned (.int .i64 (countF xs 0 : Nat)) ∧ Below w.heap.size w w' := by
  obtain ⟨hI0, hB0⟩ := ItSt.start w xs
  have hcl := countF_le xs 0
  go_enter Tryd.func18, Tryd.ntmps18
  go_wp2_with fail
  generalize w.iter ⟨xs.toArray⟩ 0 = w0 at *
  go_loopw [3] (fun n wr => ∃ pos k : Nat, n = .int .i64 k ∧ pos ≤ xs.length ∧ Hid (countF xs 0 = countF xs pos + k) ∧ ItSt w.heap.size xs pos wr ∧ Below w.heap.size w wr) (fun _ wr => xs.length - wr.iterPos w.heap.size)
  case atStart => exact ⟨0, 0, rfl, by omega, rfl, hI0, hB0⟩
  case round =>
    obtain ⟨pos, k, rfl, hpl, HG, hI, hB⟩ := hrel
    clear hI0 hB0
    have hkb : k ≤ 100000 := by have := HG.out; omega
    by_cases hp : pos < xs.length
    · have hnx := hI.run hp
      have HM := Lib.hid hI.pos
      have hI2 := hI.next (pos + widAt xs pos)
      have hB2 := below_iter hB (Nat.le_refl _) xs (pos + widAt xs pos)
      obtain ⟨hw1, hw2⟩ := wid_pos xs pos hp
      have HP : Hid (countF xs 0 = countF xs (pos + widAt xs pos) + (k + 1)) := by
        show _ = _
        rw [HG.out]
        conv => lhs; rw [countF]
        rw [dif_pos hp]
        omega
      clear HG hI hB hcl
      generalize wr.iterAt w.heap.size ⟨xs.toArray⟩ (pos + widAt xs pos) = wi at *
      generalize runeAt xs pos = r at *
      go_wp2_with fail
      go_roundw
      case rel => exact ⟨_, k + 1, by go_num, hw2, HP, hI2, hB2⟩
      case measure => rw [hI2.pos, HM.out]; omega
    · have hnx := hI.stop hp
      have HP : Hid (countF xs 0 = k) := by
        show _ = _
        rw [HG.out, countF, dif_neg hp]
        omega
      clear HG hcl
      go_wp2_with fail
      go_ret
      exact ⟨by rw [HP.out]; rfl, hB⟩

set_option maxRecDepth 100000 in
set_option maxHeartbeats 1000000 in
theorem rcut_any (xs : List UInt8) (n : Int) (w : World) (hN : xs.length ≤ 100000) : Calls Tryd.prog 19 #[.string ⟨xs.toArray⟩, .int .i64 n] w fun e w' => e = .returned (.string ⟨(xs.take (cutF xs n 0 0)).toArray⟩) ∧ Below w.heap.size w w' := by
  obtain ⟨hI0, hB0⟩ := ItSt.start w xs
  go_enter Tryd.func19, Tryd.ntmps19
  go_wp2_with fail
  generalize w.iter ⟨xs.toArray⟩ 0 = w0 at *
  go_loopw [5] (fun kv wr => ∃ pos k : Nat, kv = .int .i64 k ∧ pos ≤ xs.length ∧ k ≤ pos ∧ (k = 0 → pos = 0) ∧ (0 < k → 1 ≤ n) ∧ Hid (cutF xs n 0 0 = cutF xs n pos k) ∧ ItSt w.heap.size xs pos wr ∧ Below w.heap.size w wr) (fun _ wr => xs.length - wr.iterPos w.heap.size)
  case atStart => exact ⟨0, 0, rfl, by omega, by omega, fun _ => rfl, fun h => by omega, rfl, hI0, hB0⟩
  case round =>
    obtain ⟨pos, k, rfl, hpl, hkp, hk0, hkn, HG, hI, hB⟩ := hrel
    clear hI0 hB0
    have HK0 := Lib.hid hk0
    have HKN := Lib.hid hkn
    clear hk0 hkn
    by_cases hp : pos < xs.length
    · have hnx := hI.run hp
      have HM := Lib.hid hI.pos
      have hI2 := hI.next (pos + widAt xs pos)
      have hB2 := below_iter hB (Nat.le_refl _) xs (pos + widAt xs pos)
      obtain ⟨hw1, hw2⟩ := wid_pos xs pos hp
      by_cases hn : n ≤ (k : Int)
      · have HP : Hid (cutF xs n 0 0 = pos) := by
          show _ = _
          rw [HG.out]
          conv => lhs; rw [cutF]
          rw [dif_pos hp, if_pos hn]
        have hx := extract_list xs 0 pos
        rw [List.drop_zero, Nat.sub_zero] at hx
        have hpl' : (pos : Int) ≤ (xs.length : Int) := by omega
        clear HG hI hB
        generalize wr.iterAt w.heap.size ⟨xs.toArray⟩ (pos + widAt xs pos) = wi at *
        generalize runeAt xs pos = r at *
        go_wp2_with fail
        go_ret
        exact ⟨by rw [HP.out]; first | rfl | (rw [← hx]; rfl) | simp, hB2⟩
      · have HP : Hid (cutF xs n 0 0 = cutF xs n (pos + widAt xs pos) (k + 1)) := by
          show _ = _
          rw [HG.out]
          conv => lhs; rw [cutF]
          rw [dif_pos hp, if_neg hn]
        have HN : Hid (0 < k + 1 → 1 ≤ n) := fun _ => by omega
        clear HG hI hB
        generalize wr.iterAt w.heap.size ⟨xs.toArray⟩ (pos + widAt xs pos) = wi at *
        generalize runeAt xs pos = r at *
        go_wp2_with fail
        go_roundw
        case rel => exact ⟨_, k + 1, by go_num, hw2, by omega, fun h => by omega, HN.out, HP, hI2, hB2⟩
        case measure => rw [hI2.pos, HM.out]; omega
    · have hnx := hI.stop hp
      have HP : Hid (cutF xs n 0 0 = xs.length) := by
        show _ = _
        rw [HG.out, cutF, dif_neg hp]
      clear HG
      by_cases hn1 : n < 1
      · have hx0 : xs = [] := by
          have h1 : k = 0 := by
            by_cases h : k = 0
            · exact h
            · have := HKN.out (by omega); omega
          have := HK0.out h1
          exact List.eq_nil_of_length_eq_zero (by omega)
        have HX := Lib.hid hx0
        clear hx0
        go_wp2_with fail
        go_ret
        exact ⟨by rw [HX.out]; simp, hB⟩
      · go_wp2_with fail
        go_ret
        exact ⟨by rw [HP.out, List.take_of_length_le (Nat.le_refl _)]; rfl, hB⟩
end Go.Proofs.YtefipigdkdopcaaDoor
