/- Contract of runes.Lines: the lines of a text. No condition but the length's bound. -/
import Derived.Test.YtefipigdkdopcaaWords2
namespace Go.Proofs.Ytefipigdkdopcaa
open Go.RowKit

/-- The lines of a text. -/
abbrev linesL (xs : List UInt8) : List (List UInt8) := split2 10 10 false xs
/-- What Lines has found at a place. -/
def linesR (xs : List UInt8) (pos i : Nat) (l : List (List UInt8)) : Prop :=
  pos ≤ xs.length ∧ l = (spAt 10 10 false xs pos).out ∧ l.length ≤ pos ∧ i ≤ pos ∧ (spAt 10 10 false xs pos).part = (xs.drop i).take (pos - i)
theorem linesR_zero (xs : List UInt8) : linesR xs 0 0 [] := ⟨Nat.zero_le _, by rw [spAt_zero], Nat.le_refl _, Nat.le_refl _, by rw [spAt_zero]; simp⟩
theorem linesR_end {xs : List UInt8} {pos i : Nat} {l : List (List UInt8)} (h : linesR xs pos i l) (hp : pos < xs.length) (hr : runeAt xs pos = 10) : linesR xs (pos + widAt xs pos) (pos + 1) (l ++ [(xs.drop i).take (pos - i)]) := by
  obtain ⟨h1, h2, h3, h4, h5⟩ := h
  obtain ⟨e, hw⟩ := (spAt_rune 10 10 false (by decide) (by decide) xs pos hp).1 (.inl hr)
  rw [if_pos (.inr rfl), h5] at e
  exact ⟨by omega, by rw [e, h2], by simp; omega, by omega, by rw [e, hw]; simp⟩
theorem linesR_other {xs : List UInt8} {pos i : Nat} {l : List (List UInt8)} (h : linesR xs pos i l) (hp : pos < xs.length) (hr : runeAt xs pos ≠ 10) : linesR xs (pos + widAt xs pos) i l := by
  obtain ⟨h1, h2, h3, h4, h5⟩ := h
  obtain ⟨w1, w2⟩ := wid_pos xs pos hp
  have e := (spAt_rune 10 10 false (by decide) (by decide) xs pos hp).2 ⟨hr, hr⟩
  refine ⟨w2, by rw [e]; exact h2, by omega, by omega, ?_⟩
  rw [e, h5]
  dsimp only
  rw [show pos + widAt xs pos - i = (pos - i) + widAt xs pos by omega, List.take_add, List.drop_drop, show i + (pos - i) = pos by omega]
theorem linesR_fin {xs : List UInt8} {i : Nat} {l : List (List UInt8)} (h : linesR xs xs.length i l) : (i = xs.length → linesL xs = l) ∧ (i < xs.length → linesL xs = l ++ [xs.drop i]) := by
  obtain ⟨h1, h2, h3, h4, h5⟩ := h
  unfold linesL split2 spEnd
  rw [h5]
  constructor
  · rintro rfl
    rw [if_neg (by simp), h2]
  · intro hi
    rw [if_pos (part_ne hi (Nat.le_refl _)), h2, List.take_of_length_le (by rw [List.length_drop]; omega)]

set_option maxRecDepth 100000 in
set_option maxHeartbeats 1000000 in
theorem lines_any (xs : List UInt8) (w : World) (hN : xs.length ≤ 1000000) :
    Calls Try.prog 62 #[.string ⟨xs.toArray⟩] w fun e w' => ∃ v, e = .returned v ∧ w'.ownsRow w.heap.size 9 1 v (linesL xs).length (strs (linesL xs)) ∧ Below w.heap.size w w' := by
  have hit0 : (w.iter ⟨xs.toArray⟩ 0).heap[w.heap.size]? = some (.stringIter ⟨xs.toArray⟩ 0) := World.iter_heap w _ 0
  have hB0 : Below w.heap.size w (w.iter ⟨xs.toArray⟩ 0) := (Below.refl _ _).alloc (Nat.le_refl _) _
  have hz0 : w.heap.size + 1 ≤ (w.iter ⟨xs.toArray⟩ 0).heap.size := by unfold World.iter; rw [alloc_size]; omega
  go_enter Try.func62, Try.ntmps62
  go_wp2_with fail
  generalize w.iter ⟨xs.toArray⟩ 0 = w0 at *
  go_loopw [3, 4] (fun v f wr => ∃ (pos i : Nat) (l : List (List UInt8)), f = .int .i64 i ∧ linesR xs pos i l ∧ wr.heap[w.heap.size]? = some (.stringIter ⟨xs.toArray⟩ pos) ∧ wr.ownsRow (w.heap.size + 1) 9 1 v l.length (strs l) ∧ w.heap.size + 1 ≤ wr.heap.size ∧ Below w.heap.size w wr) (fun _ _ wr => xs.length - wr.iterPos w.heap.size)
  case atStart => exact ⟨0, 0, [], rfl, linesR_zero xs, hit0, World.ownsRow_nil _ _ _ _, hz0, hB0⟩
  case round =>
    obtain ⟨pos, i, l, rfl, hR, hit, hown, hz, hB⟩ := hrel
    clear hit0 hB0 hz0
    have HR := Lib.hid hR
    have hpl := hR.1
    have hll := hR.2.2.1
    have hip := hR.2.2.2.1
    clear hR
    by_cases hp : pos < xs.length
    · have hnx := fun ty => Lib.run_next_any_at (P := Try.prog) wr w.heap.size ⟨xs.toArray⟩ pos ty hit (by rw [size_list]; exact hp)
      rw [show Utf8.decode ⟨xs.toArray⟩ pos = (runeAt xs pos, widAt xs pos) from decode_drop xs pos hpl] at hnx
      dsimp only at hnx
      have HM : Hid (wr.iterPos w.heap.size = pos) := by show _ = _; simp only [World.iterPos, hit]
      have hg := gb_iterAt wr w.heap.size ⟨xs.toArray⟩ (pos + widAt xs pos)
      have hit2 := Lib.iterAt_heap wr w.heap.size _ pos (pos + widAt xs pos) hit
      have hown2 := hown.kept hg (.inr (fun e => by have := (hown.lt _ e).1; omega))
      have hz2 := Nat.le_trans hz (World.grownBy.size hg)
      have hB2 := hB.grown hg hB.size (fun k hk => by cases hk; omega)
      have hwp := (wid_pos xs pos hp).1
      clear hg hit hown hz hB
      generalize wr.iterAt w.heap.size ⟨xs.toArray⟩ (pos + widAt xs pos) = wi at *
      have hR := HR.out
      by_cases hr : runeAt xs pos = 10
      · have hb : ((runeAt xs pos : Int) == 10) = true := by rw [hr]; decide
        have HN := Lib.hid (linesR_end hR hp hr)
        have HW : Hid (pos + 1 = pos + 1) := rfl
        clear hr hR
        generalize runeAt xs pos = r at *
        have hx := extract_list xs i pos
        generalize hq : (xs.drop i).take (pos - i) = q at *
        clear hq
        have h1 : (i : Int) ≤ (pos : Int) := by omega
        have h2 : (pos : Int) ≤ (xs.length : Int) := by omega
        go_wp2_with (first
          | (at_builtin; refine wpl_append1 rfl (.tmp 15) (.tmp 20) 91 rfl (w.heap.size + 1) 9 (.string ⟨#[]⟩) 1 16 Try.underlying91 info_str rfl (by decide) _ l.length _ rfl hown2 #[.string ⟨q.toArray⟩] (0, 0) 1 rfl rfl (by simp [Value.oneCell']) (by unfold maxLen; omega) (by omega) hz2 ?_; intro v3 w3 hown3 hg3))
        have hit3 := gb_heap hg3 hit2 (fun e => by have := (hown2.lt _ e.symm).1; omega)
        have hz3 := Nat.le_trans hz2 (World.grownBy.size hg3)
        have hB3 := hB2.grown hg3 hB2.size (fun k hk => by have := (hown2.lt k hk).1; omega)
        go_wp2_with fail
        go_roundw
        case rel => exact ⟨_, pos + 1, l ++ [q], by go_num, HN.out, hit3, by rw [strs_append]; simpa [strs] using hown3, hz3, hB3⟩
        case measure => rw [HM.out]; simp only [World.iterPos, hit3]; omega
      · have HN := Lib.hid (linesR_other hR hp hr)
        have hb1 : ((runeAt xs pos : Int) == 10) = false := by rw [Bool.eq_false_iff]; simp; omega
        clear hr hR
        generalize runeAt xs pos = r at *
        go_wp2_with fail
        go_roundw
        case rel => exact ⟨_, i, l, rfl, HN.out, hit2, hown2, hz2, hB2⟩
        case measure => rw [HM.out]; simp only [World.iterPos, hit2]; omega
    · obtain rfl : pos = xs.length := by omega
      have hnx := fun ty => Lib.run_next_end_at (P := Try.prog) wr w.heap.size ⟨xs.toArray⟩ xs.length ty hit (by rw [size_list]; exact hp)
      obtain ⟨f1, f2⟩ := linesR_fin HR.out
      have F1 := Lib.hid f1
      have F2 := Lib.hid f2
      clear f1 f2 HR
      by_cases hlt : i < xs.length
      · have hx := extract_list xs i xs.length
        rw [List.take_of_length_le (by rw [List.length_drop]; omega)] at hx
        have h1 : (i : Int) ≤ (xs.length : Int) := by omega
        have HQ := Lib.hid (F2.out hlt)
        clear F1 F2
        generalize xs.drop i = q at *
        go_wp2_with (first
          | (at_builtin; refine wpl_append1 rfl (.tmp 28) (.tmp 32) 91 rfl (w.heap.size + 1) 9 (.string ⟨#[]⟩) 1 16 Try.underlying91 info_str rfl (by decide) _ l.length _ rfl hown #[.string ⟨q.toArray⟩] (0, 0) 1 rfl rfl (by simp [Value.oneCell']) (by unfold maxLen; omega) (by omega) hz ?_; intro v3 w3 hown3 hg3))
        go_ret
        refine ⟨_, rfl, ?_, hB.grown hg3 hB.size (fun k hk => by have := (hown.lt k hk).1; omega)⟩
        rw [HQ.out, strs_append]
        have := ownsRow_base hown3 (base' := w.heap.size) (by omega)
        simpa [strs] using this
      · have HQ := Lib.hid (F1.out (by omega))
        go_wp2_with fail
        go_ret
        exact ⟨_, rfl, by rw [HQ.out]; exact ownsRow_base hown (by omega), hB⟩
end Go.Proofs.Ytefipigdkdopcaa
