/- Contract of runes.Words: the words of a text. No condition but the length's bound. -/
import Derived.Test.YtefipigdkdopcaaWords1
import Derived.Lib.OthersKept
namespace Go.Proofs.Ytefipigdkdopcaa
open Go.RowKit

/-- The words of a text. -/
abbrev wordsL (xs : List UInt8) : List (List UInt8) := split2 32 9 true xs

theorem gb_iterAt (w : World) (k : Nat) (s : ByteArray) (p : Nat) : w.grownBy (w.iterAt k s p) (some k) :=
  ⟨rfl, rfl, rfl, by rw [Lib.iterAt_size]; exact Nat.le_refl _, fun j _ hj => Lib.iterAt_other w k j s p (fun e => hj (by rw [e]))⟩
/-- Where Words stands. -/
structure WSt (w : World) (xs : List UInt8) (pos : Nat) (v : Value) (fr : Int) (l : List (List UInt8)) (wr : World) : Prop where
  s : wr.heap[w.heap.size]? = some (.cells #[.string ⟨xs.toArray⟩] 9 (0, 0))
  o : wr.heap[w.heap.size + 1]? = some (.cells #[v] 91 (0, 0))
  f : wr.heap[w.heap.size + 1 + 1]? = some (.cells #[.int .i64 fr] 3 (0, 0))
  it : wr.heap[w.heap.size + 1 + 1 + 1]? = some (.stringIter ⟨xs.toArray⟩ pos)
  own : wr.ownsRow (w.heap.size + 4) 9 1 v l.length (strs l)
  sz : w.heap.size + 4 ≤ wr.heap.size
  bel : Below w.heap.size w wr
theorem WSt.pos {w : World} {xs : List UInt8} {pos : Nat} {v : Value} {fr : Int} {l : List (List UInt8)} {wr : World} (h : WSt w xs pos v fr l wr) : wr.iterPos (w.heap.size + 1 + 1 + 1) = pos := by
  simp only [World.iterPos, h.it]
theorem WSt.iter {w : World} {xs : List UInt8} {pos : Nat} {v : Value} {fr : Int} {l : List (List UInt8)} {wr : World} (h : WSt w xs pos v fr l wr) (pos' : Nat) : WSt w xs pos' v fr l (wr.iterAt (w.heap.size + 1 + 1 + 1) ⟨xs.toArray⟩ pos') := by
  have hg := gb_iterAt wr (w.heap.size + 1 + 1 + 1) ⟨xs.toArray⟩ pos'
  refine ⟨gb_heap hg h.s (by simp; omega), gb_heap hg h.o (by simp <;> omega), gb_heap hg h.f (by simp <;> omega), Lib.iterAt_heap wr _ _ pos pos' h.it, h.own.kept hg (.inr (fun e => ?_)), Nat.le_trans h.sz (World.grownBy.size hg), h.bel.grown hg h.bel.size (fun k hk => by cases hk; omega)⟩
  have := (h.own.lt _ e).1
  omega
theorem WSt.no {w : World} {xs : List UInt8} {pos : Nat} {v : Value} {l : List (List UInt8)} {wr w' : World} {fr fr' : Int} (h : WSt w xs pos v fr l wr) (hg : wr.grownBy w' (some (w.heap.size + 1 + 1))) (hf : w'.heap[w.heap.size + 1 + 1]? = some (.cells #[.int .i64 fr'] 3 (0, 0))) : WSt w xs pos v fr' l w' := by
  refine ⟨gb_heap hg h.s (by simp; omega), gb_heap hg h.o (by simp <;> omega), hf, gb_heap hg h.it (by simp <;> omega), h.own.kept hg (.inr (fun e => ?_)), Nat.le_trans h.sz (World.grownBy.size hg), h.bel.grown hg h.bel.size (fun k hk => by cases hk; omega)⟩
  have := (h.own.lt _ e).1
  omega
theorem WSt.yes {w : World} {xs : List UInt8} {pos : Nat} {v v' : Value} {l l' : List (List UInt8)} {wr w' : World} {fr fr' : Int} (h : WSt w xs pos v fr l wr) (hk : KeepsBut (w.heap.size + 4) (w.heap.size + 1) (w.heap.size + 1 + 1) wr w')
    (hf : w'.heap[w.heap.size + 1 + 1]? = some (.cells #[.int .i64 fr'] 3 (0, 0))) (ho : w'.heap[w.heap.size + 1]? = some (.cells #[v'] 91 (0, 0))) (own : w'.ownsRow (w.heap.size + 4) 9 1 v' l'.length (strs l')) (sz : w.heap.size + 4 ≤ w'.heap.size) : WSt w xs pos v' fr' l' w' :=
  ⟨hk.blk _ _ (by omega) (by omega) (by omega) h.s, ho, hf, hk.blk _ _ (by omega) (by omega) (by omega) h.it, own, sz, h.bel.trans (hk.old w.heap.size (by omega) (by omega) (by omega))⟩
theorem four_blocks (w : World) (a b c : Array Value) (t u v : TypeId) (s : ByteArray) :
    Below w.heap.size w ((((w.alloc (.cells a t)).alloc (.cells b u)).alloc (.cells c v)).iter s 0) ∧ ((((w.alloc (.cells a t)).alloc (.cells b u)).alloc (.cells c v)).iter s 0).heap[w.heap.size]? = some (.cells a t (0, 0)) ∧ ((((w.alloc (.cells a t)).alloc (.cells b u)).alloc (.cells c v)).iter s 0).heap[w.heap.size + 1]? = some (.cells b u (0, 0)) ∧ ((((w.alloc (.cells a t)).alloc (.cells b u)).alloc (.cells c v)).iter s 0).heap[w.heap.size + 1 + 1]? = some (.cells c v (0, 0)) ∧ ((((w.alloc (.cells a t)).alloc (.cells b u)).alloc (.cells c v)).iter s 0).heap[w.heap.size + 1 + 1 + 1]? = some (.stringIter s 0) ∧ ((((w.alloc (.cells a t)).alloc (.cells b u)).alloc (.cells c v)).iter s 0).heap.size = w.heap.size + 4 := by
  have h1 := alloc_new w (.cells a t (0, 0))
  have h2 := alloc_new (w.alloc (.cells a t)) (.cells b u (0, 0))
  have h3 := alloc_new ((w.alloc (.cells a t)).alloc (.cells b u)) (.cells c v (0, 0))
  have h4 := alloc_new (((w.alloc (.cells a t)).alloc (.cells b u)).alloc (.cells c v)) (.stringIter s 0)
  have b1 : Below w.heap.size w (w.alloc (.cells a t)) := (Below.refl _ _).alloc (Nat.le_refl _) _
  have b2 : Below (w.alloc (.cells a t)).heap.size (w.alloc (.cells a t)) ((w.alloc (.cells a t)).alloc (.cells b u)) := (Below.refl _ _).alloc (Nat.le_refl _) _
  have b3 : Below ((w.alloc (.cells a t)).alloc (.cells b u)).heap.size ((w.alloc (.cells a t)).alloc (.cells b u)) (((w.alloc (.cells a t)).alloc (.cells b u)).alloc (.cells c v)) := (Below.refl _ _).alloc (Nat.le_refl _) _
  have b4 : Below (((w.alloc (.cells a t)).alloc (.cells b u)).alloc (.cells c v)).heap.size (((w.alloc (.cells a t)).alloc (.cells b u)).alloc (.cells c v)) ((((w.alloc (.cells a t)).alloc (.cells b u)).alloc (.cells c v)).iter s 0) := (Below.refl _ _).alloc (Nat.le_refl _) _
  refine ⟨below_trans (below_trans (below_trans b1 b2) b3) b4, heap_below b4 (heap_below b3 (heap_below b2 h1)), ?_, ?_, ?_, ?_⟩
  · rw [alloc_size] at h2; exact heap_below b4 (heap_below b3 h2)
  · rw [alloc_size, alloc_size] at h3; exact heap_below b4 h3
  · rw [alloc_size, alloc_size, alloc_size] at h4; exact h4
  · unfold World.iter; rw [alloc_size, alloc_size, alloc_size, alloc_size]
/-- What Words has found at a place. -/
def wordsR (xs : List UInt8) (pos : Nat) (fr : Int) (l : List (List UInt8)) : Prop :=
  pos ≤ xs.length ∧ l = (spAt 32 9 true xs pos).out ∧ l.length ≤ pos ∧ ((spAt 32 9 true xs pos).part = [] ∧ fr = -1 ∨ ∃ i : Nat, fr = i ∧ i < pos ∧ (spAt 32 9 true xs pos).part = (xs.drop i).take (pos - i))
theorem wordsR_zero (xs : List UInt8) : wordsR xs 0 (-1) [] := ⟨Nat.zero_le _, by rw [spAt_zero], Nat.le_refl _, .inl ⟨by rw [spAt_zero], rfl⟩⟩
theorem part_ne {xs : List UInt8} {i pos : Nat} (hi : i < pos) (hp : pos ≤ xs.length) : (xs.drop i).take (pos - i) ≠ [] := by
  intro h
  have := congrArg List.length h
  rw [List.length_take, List.length_drop, List.length_nil] at this
  omega
theorem wordsR_blank_no {xs : List UInt8} {pos : Nat} {l : List (List UInt8)} (h : wordsR xs pos (-1) l) (hp : pos < xs.length) (hr : runeAt xs pos = 32 ∨ runeAt xs pos = 9) : wordsR xs (pos + widAt xs pos) (-1) l := by
  obtain ⟨h1, h2, h3, h4⟩ := h
  have hz : (spAt 32 9 true xs pos).part = [] := by
    rcases h4 with ⟨h4, _⟩ | ⟨i, h4, _⟩
    · exact h4
    · omega
  obtain ⟨e, hw⟩ := (spAt_rune 32 9 true (by decide) (by decide) xs pos hp).1 hr
  rw [hz, if_neg (by simp)] at e
  exact ⟨by omega, by rw [e]; exact h2, by omega, .inl ⟨by rw [e], rfl⟩⟩
theorem wordsR_blank_yes {xs : List UInt8} {pos i : Nat} {l : List (List UInt8)} (h : wordsR xs pos (i : Int) l) (hp : pos < xs.length) (hr : runeAt xs pos = 32 ∨ runeAt xs pos = 9) : wordsR xs (pos + widAt xs pos) (-1) (l ++ [(xs.drop i).take (pos - i)]) ∧ i < pos := by
  obtain ⟨h1, h2, h3, h4⟩ := h
  rcases h4 with ⟨_, h4⟩ | ⟨j, h4, hj, h5⟩
  · omega
  obtain rfl : i = j := by omega
  obtain ⟨e, hw⟩ := (spAt_rune 32 9 true (by decide) (by decide) xs pos hp).1 hr
  rw [h5, if_pos (.inl (part_ne hj h1))] at e
  exact ⟨⟨by omega, by rw [e, h2], by simp; omega, .inl ⟨by rw [e], rfl⟩⟩, hj⟩
theorem wordsR_other {xs : List UInt8} {pos : Nat} {fr : Int} {l : List (List UInt8)} (h : wordsR xs pos fr l) (hp : pos < xs.length) (hr : runeAt xs pos ≠ 32 ∧ runeAt xs pos ≠ 9) : wordsR xs (pos + widAt xs pos) (if fr < 0 then pos else fr) l := by
  obtain ⟨h1, h2, h3, h4⟩ := h
  obtain ⟨w1, w2⟩ := wid_pos xs pos hp
  have e := (spAt_rune 32 9 true (by decide) (by decide) xs pos hp).2 hr
  refine ⟨w2, by rw [e]; exact h2, by omega, .inr ?_⟩
  rcases h4 with ⟨h4, rfl⟩ | ⟨i, rfl, hi, h4⟩
  · exact ⟨pos, by rw [if_pos (by omega)], by omega, by rw [e, h4]; dsimp only; rw [List.nil_append, show pos + widAt xs pos - pos = widAt xs pos by omega]⟩
  · refine ⟨i, by rw [if_neg (by omega)], by omega, ?_⟩
    rw [e, h4]
    dsimp only
    rw [show pos + widAt xs pos - i = (pos - i) + widAt xs pos by omega, List.take_add, List.drop_drop, show i + (pos - i) = pos by omega]
theorem wordsR_end_no {xs : List UInt8} {l : List (List UInt8)} (h : wordsR xs xs.length (-1) l) : l = wordsL xs := by
  obtain ⟨h1, h2, h3, h4⟩ := h
  have hz : (spAt 32 9 true xs xs.length).part = [] := by
    rcases h4 with ⟨h4, _⟩ | ⟨i, h4, _⟩
    · exact h4
    · omega
  unfold wordsL split2 spEnd
  rw [hz, if_neg (by simp), h2]
theorem wordsR_end_yes {xs : List UInt8} {i : Nat} {l : List (List UInt8)} (h : wordsR xs xs.length (i : Int) l) : l ++ [(xs.drop i).take (xs.length - i)] = wordsL xs ∧ i < xs.length := by
  obtain ⟨h1, h2, h3, h4⟩ := h
  rcases h4 with ⟨_, h4⟩ | ⟨j, h4, hj, h5⟩
  · omega
  obtain rfl : i = j := by omega
  unfold wordsL split2 spEnd
  rw [h5, if_pos (part_ne hj h1), h2]
  exact ⟨rfl, hj⟩
theorem wordsR_fr {xs : List UInt8} {pos : Nat} {fr : Int} {l : List (List UInt8)} (h : wordsR xs pos fr l) : fr = -1 ∨ ∃ i : Nat, fr = i ∧ i < pos := by
  rcases h.2.2.2 with ⟨_, h⟩ | ⟨i, h, hi, _⟩
  · exact .inl h
  · exact .inr ⟨i, h, hi⟩

set_option maxRecDepth 100000 in
set_option maxHeartbeats 1000000 in
theorem words_any (xs : List UInt8) (w : World) (hN : xs.length ≤ 100000) :
    Calls Try.prog 55 #[.string ⟨xs.toArray⟩] w fun e w' => ∃ v, e = .returned v ∧ w'.ownsRow w.heap.size 9 1 v (wordsL xs).length (strs (wordsL xs)) ∧ Below w.heap.size w w' := by
  obtain ⟨b0, b1, b2, b3, b4, b5⟩ := four_blocks w #[.string ⟨xs.toArray⟩] #[.slice none 0 0] #[.int .i64 (-1)] 9 91 3 ⟨xs.toArray⟩
  have hW0 : WSt w xs 0 (.slice none 0 0) (-1) [] ((((w.alloc (.cells #[.string ⟨xs.toArray⟩] 9)).alloc (.cells #[.slice none 0 0] 91)).alloc (.cells #[.int .i64 (-1)] 3)).iter ⟨xs.toArray⟩ 0) := ⟨b1, b2, b3, b4, World.ownsRow_nil _ _ _ _, by omega, b0⟩
  clear b0 b1 b2 b3 b4 b5
  go_enter Try.func55, Try.ntmps55
  go_wp2_with fail
  generalize (((w.alloc (.cells #[.string ⟨xs.toArray⟩] 9)).alloc (.cells #[.slice none 0 0] 91)).alloc (.cells #[.int .i64 (-1)] 3)).iter ⟨xs.toArray⟩ 0 = w0 at *
  go_loopw [6] (fun _ wr => ∃ (pos : Nat) (v : Value) (fr : Int) (l : List (List UInt8)), wordsR xs pos fr l ∧ WSt w xs pos v fr l wr) (fun _ wr => xs.length - wr.iterPos (w.heap.size + 1 + 1 + 1))
  case atStart => exact ⟨0, _, -1, [], wordsR_zero xs, hW0⟩
  case round =>
    obtain ⟨pos, v, fr, l, hR, hW⟩ := hrel
    clear hW0
    have HR := Lib.hid hR
    have hpl := hR.1
    have hll := hR.2.2.1
    have hfr := wordsR_fr hR
    clear hR
    by_cases hp : pos < xs.length
    · have hnx := fun ty => Lib.run_next_any_at (P := Try.prog) wr (w.heap.size + 1 + 1 + 1) ⟨xs.toArray⟩ pos ty hW.it (by rw [size_list]; exact hp)
      rw [show Utf8.decode ⟨xs.toArray⟩ pos = (runeAt xs pos, widAt xs pos) from decode_drop xs pos hpl] at hnx
      have hW2 := hW.iter (pos + widAt xs pos)
      dsimp only at hnx
      have HM : Hid (wr.iterPos (w.heap.size + 1 + 1 + 1) = pos) := hW.pos
      have hwp := (wid_pos xs pos hp).1
      clear hW
      generalize wr.iterAt (w.heap.size + 1 + 1 + 1) ⟨xs.toArray⟩ (pos + widAt xs pos) = wi at *
      have hR := HR.out
      by_cases hr : runeAt xs pos = 32 ∨ runeAt xs pos = 9
      · have hb : ((runeAt xs pos : Int) == 32) = true ∨ (((runeAt xs pos : Int) == 32) = false ∧ ((runeAt xs pos : Int) == 9) = true) := by
          rcases hr with h | h <;> rw [h] <;> decide
        rcases hfr with rfl | ⟨i, rfl, hip⟩
        · have HN := Lib.hid (wordsR_blank_no hR hp hr)
          clear hr hR
          generalize runeAt xs pos = r at *
          rcases hb with hb | ⟨hb1, hb2⟩
          all_goals
            go_wp2_with fail
            refine (words1_no xs pos w.heap.size (w.heap.size + 1) (w.heap.size + 1 + 1) _ hW2.f).mono ?_
            rintro e w2 ⟨rfl, hf2, hg⟩
            have hW3 := hW2.no hg hf2
            clear hW2 hf2 hg
            go_wp2_with fail
            go_roundw
            case rel => exact ⟨_, _, _, _, HN.out, hW3⟩
            case measure => rw [hW3.pos, HM.out]; omega
        · obtain ⟨hR2, -⟩ := wordsR_blank_yes hR hp hr
          have HN := Lib.hid hR2
          have hlN : l.length ≤ 100000 := by omega
          clear hr hR hR2
          generalize runeAt xs pos = r at *
          rcases hb with hb | ⟨hb1, hb2⟩
          all_goals
            go_wp2_with fail
            refine (words1_yes xs i pos w.heap.size (w.heap.size + 1) (w.heap.size + 1 + 1) (w.heap.size + 4) l.length v l _ hW2.f hW2.s hW2.o hW2.own (by omega) (by omega) (by omega) hW2.sz (by omega) (by omega) (by omega) hN hlN).mono ?_
            rintro e w2 ⟨rfl, v2, hf2, ho2, hown2, hz2, hk2⟩
            rw [show l.length + 1 = (l ++ [(xs.drop i).take (pos - i)]).length by simp] at hown2
            have hW3 := hW2.yes hk2 hf2 ho2 hown2 hz2
            clear hW2 hf2 ho2 hown2 hz2 hk2
            go_wp2_with fail
            go_roundw
            case rel => exact ⟨_, _, _, _, HN.out, hW3⟩
            case measure => rw [hW3.pos, HM.out]; omega
      · have HN := Lib.hid (wordsR_other hR hp (by omega))
        have hb1 : ((runeAt xs pos : Int) == 32) = false := by rw [Bool.eq_false_iff]; simp; omega
        have hb2 : ((runeAt xs pos : Int) == 9) = false := by rw [Bool.eq_false_iff]; simp; omega
        clear hr hR
        generalize runeAt xs pos = r at *
        have c1 : wi.cell? ⟨w.heap.size + 1 + 1, 0, none⟩ = some (.int .i64 fr) := cell_heap hW2.f
        have f1 : wi.frozen? ⟨w.heap.size + 1 + 1, 0, none⟩ = false := frozen_heap (o := 0) hW2.f
        rcases hfr with rfl | ⟨i, rfl, hip⟩
        · rw [if_pos (by omega)] at HN
          have hW3 := hW2.no (gb_set wi (w.heap.size + 1 + 1) 0 (.int .i64 (pos : Int))) (set_heap (o := 0) hW2.f (.int .i64 (pos : Int)))
          go_wp2_with fail
          go_roundw
          case rel => exact ⟨_, _, _, _, HN.out, hW3⟩
          case measure => rw [hW3.pos, HM.out]; omega
        · rw [if_neg (by omega)] at HN
          go_wp2_with fail
          go_roundw
          case rel => exact ⟨_, _, _, _, HN.out, hW2⟩
          case measure => rw [hW2.pos, HM.out]; omega
    · obtain rfl : pos = xs.length := by omega
      have hnx := fun ty => Lib.run_next_end_at (P := Try.prog) wr (w.heap.size + 1 + 1 + 1) ⟨xs.toArray⟩ xs.length ty hW.it (by rw [size_list]; exact hp)
      have c2 : wr.cell? ⟨w.heap.size, 0, none⟩ = some (.string ⟨xs.toArray⟩) := cell_heap hW.s
      have hR := HR.out
      rcases hfr with rfl | ⟨i, rfl, hip⟩
      · have HN := Lib.hid (wordsR_end_no hR)
        clear hR
        go_wp2_with fail
        refine (words1_no xs xs.length w.heap.size (w.heap.size + 1) (w.heap.size + 1 + 1) _ hW.f).mono ?_
        rintro e w2 ⟨rfl, hf2, hg⟩
        have hW3 := hW.no hg hf2
        clear hf2 hg hW
        have c3 : w2.cell? ⟨w.heap.size + 1, 0, none⟩ = some v := cell_heap hW3.o
        go_wp2_with fail
        go_ret
        exact ⟨_, rfl, by rw [← HN.out]; exact ownsRow_base hW3.own (by omega), hW3.bel⟩
      · obtain ⟨hR2, -⟩ := wordsR_end_yes hR
        have HN := Lib.hid hR2
        have hlN : l.length ≤ 100000 := by omega
        clear hR hR2
        go_wp2_with fail
        refine (words1_yes xs i xs.length w.heap.size (w.heap.size + 1) (w.heap.size + 1 + 1) (w.heap.size + 4) l.length v l _ hW.f hW.s hW.o hW.own (by omega) (by omega) (by omega) hW.sz (by omega) (by omega) (by omega) hN hlN).mono ?_
        rintro e w2 ⟨rfl, v2, hf2, ho2, hown2, hz2, hk2⟩
        rw [show l.length + 1 = (l ++ [(xs.drop i).take (xs.length - i)]).length by simp] at hown2
        have hW3 := hW.yes hk2 hf2 ho2 hown2 hz2
        clear hW hf2 ho2 hown2 hz2 hk2
        have c3 : w2.cell? ⟨w.heap.size + 1, 0, none⟩ = some v2 := cell_heap hW3.o
        go_wp2_with fail
        go_ret
        exact ⟨_, rfl, by rw [← HN.out]; exact ownsRow_base hW3.own (by omega), hW3.bel⟩
end Go.Proofs.Ytefipigdkdopcaa
