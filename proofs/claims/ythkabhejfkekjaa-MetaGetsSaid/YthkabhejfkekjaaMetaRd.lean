/- A reader whose bytes lie in blocks of a kind; its steps. No condition but the lengths' bounds. -/
import Derived.Test.YthkabhejfkekjaaBeRd
import Derived.Test.YthkabhejfkekjaaLib2
namespace Go.Proofs.Ythkabhejfkekjaa
open Go.RowKit

def RdrQ (Q0 : Nat → Prop) (w : World) (g : Nat) (xs : List UInt8) (sh : Bool) : Prop :=
  ∃ A n c, w.heap[g]? = some (.cells #[.slice A n c, .bool sh] 110 (0, 0)) ∧ RdB w A n c xs ∧ (∀ ad, A = some ad → ad.block ≠ g ∧ Q0 ad.block) ∧ n ≤ 140737488355000
theorem RdrQ.kept {Q0 : Nat → Prop} {w w' : World} {g : Nat} {xs : List UInt8} {sh : Bool} (h : RdrQ Q0 w g xs sh) (hb : Below w.heap.size w w') : RdrQ Q0 w' g xs sh := by
  obtain ⟨A, n, c, h1, h2, h3, h4⟩ := h
  exact ⟨A, n, c, (hb.block g (heap_lt h1)).trans h1, h2.below hb, h3, h4⟩
theorem RdrQ.keptG {Q0 : Nat → Prop} {w w' : World} {g gA : Nat} {xs : List UInt8} {sh : Bool} (h : RdrQ Q0 w g xs sh) (hg : w.grownBy w' (some gA)) (hne : g ≠ gA) (hq : ∀ b, Q0 b → b ≠ gA) : RdrQ Q0 w' g xs sh := by
  obtain ⟨A, n, c, h1, h2, h3, h4⟩ := h
  exact ⟨A, n, c, gb_heap hg h1 (by simpa using hne), h2.kept hg (fun ad e => by have := hq _ (h3 ad e).2; simpa using this), h3, h4⟩
theorem RdrQ.keptR {Q0 : Nat → Prop} {w w' : World} {g : Nat} {row : Option Nat} {xs : List UInt8} {sh : Bool} (h : RdrQ Q0 w g xs sh) (hg : w.grownBy w' row) (hne : some g ≠ row) (hq : ∀ b, Q0 b → some b ≠ row) : RdrQ Q0 w' g xs sh := by
  obtain ⟨A, n, c, h1, h2, h3, h4⟩ := h
  exact ⟨A, n, c, gb_heap hg h1 hne, h2.kept hg (fun ad e => hq _ (h3 ad e).2), h3, h4⟩
theorem RdrQ.lt {Q0 : Nat → Prop} {w : World} {g : Nat} {xs : List UInt8} {sh : Bool} (h : RdrQ Q0 w g xs sh) : g < w.heap.size := by
  obtain ⟨A, n, c, h1, _⟩ := h
  exact heap_lt h1
theorem RdrQ.len {Q0 : Nat → Prop} {w : World} {g : Nat} {xs : List UInt8} {sh : Bool} (h : RdrQ Q0 w g xs sh) : xs.length ≤ 140737488355000 := by
  obtain ⟨A, n, c, _, h2, _, h4⟩ := h
  rw [h2.blen]; exact h4
theorem RdrQ.rdr {Q0 : Nat → Prop} {w : World} {g : Nat} {xs : List UInt8} {sh : Bool} (h : RdrQ Q0 w g xs sh) : Rdr w g xs sh := by
  obtain ⟨A, n, c, h1, h2, h3, h4⟩ := h
  exact ⟨A, n, c, h1, h2, fun ad e => (h3 ad e).1, h4⟩
theorem Rdr.toQ {w : World} {g : Nat} {xs : List UInt8} {sh : Bool} (h : Rdr w g xs sh) (hp : 0 < xs.length) : RdrQ (fun b => b < w.heap.size) w g xs sh := by
  obtain ⟨A, n, c, h1, h2, h3, h4⟩ := h
  exact ⟨A, n, c, h1, h2, fun ad e => ⟨h3 ad e, h2.blk ad e (by have := h2.blen; omega)⟩, h4⟩

set_option maxRecDepth 100000 in
set_option maxHeartbeats 800000 in
theorem rdBq_any (Q0 : Nat → Prop) (xs : List UInt8) (sh : Bool) (m : Int) (g : Nat) (w : World) (hr : RdrQ Q0 w g xs sh) :
    Calls Try.prog 36 #[.pointer (some ⟨g, 0, none⟩), .int .i64 m] w fun e w' => ∃ A' n' c', e = .returned (.slice A' n' c') ∧ RdB w' A' n' c' (rdOut xs sh m) ∧ RdrQ Q0 w' g (rdLeft xs sh m) (rdShort xs sh m) ∧ w.grownBy w' (some g) := by
  have hr0 := hr
  obtain ⟨A, n, c, hg, hx, hne, hN⟩ := hr
  have hn := hx.blen
  have hm := hx.cm
  have hnc := hx.nc
  unfold maxLen at hm
  have c0 : w.cell? ⟨g, 0, none⟩ = some (.slice A n c) := cell_heap hg
  have c1 : w.cell? ⟨g, 1, none⟩ = some (.bool sh) := cell_heap hg
  have f0 : w.frozen? ⟨g, 0, none⟩ = false := frozen_heap hg
  have f1 : w.frozen? ⟨g, 1, none⟩ = false := frozen_heap hg
  have Hg := Lib.hid hg; clear hg
  cases hs : sh with
  | true =>
    subst hs
    have e1 : Hid (rdShort xs true m = true) := rfl
    have e2 : Hid (rdOut xs true m = []) := rfl
    have e3 : Hid (rdLeft xs true m = xs) := rfl
    clear hn
    go_enter Try.func36, Try.ntmps36
    go_wp2_with fail
    go_ret
    exact ⟨none, 0, 0, rfl, by rw [e2.out]; exact Rd.empty _ _, by rw [e3.out, e1.out]; exact hr0, World.grownBy.refl _ _⟩
  | false =>
    subst hs
    by_cases hbad : m < 0 ∨ (n : Int) < m
    · have e1 : Hid (rdShort xs false m = true) := by show _ = _; unfold rdShort; rw [hn]; simp; omega
      have e2 : Hid (rdOut xs false m = []) := by show _ = _; unfold rdOut; rw [e1.out]; rfl
      have e3 : Hid (rdLeft xs false m = xs) := by show _ = _; unfold rdLeft; rw [e1.out]; rfl
      clear hn
      have hfin : RdrQ Q0 (w.setCell ⟨g, 1, none⟩ (.bool true)) g xs true :=
        ⟨A, n, c, set_heap Hg.out _, hx.kept (gb_set w g 1 (.bool true)) (fun ad e => by have := (hne ad e).1; simpa using this), hne, hN⟩
      rcases hbad with hbad | hbad
      · go_enter Try.func36, Try.ntmps36
        go_wp2_with fail
        go_ret
        exact ⟨none, 0, 0, rfl, by rw [e2.out]; exact Rd.empty _ _, by rw [e3.out, e1.out]; exact hfin, gb_set w g 1 _⟩
      · have hb0 : decide (m < 0) = false := by simp; omega
        go_enter Try.func36, Try.ntmps36
        go_wp2_with fail
        go_ret
        exact ⟨none, 0, 0, rfl, by rw [e2.out]; exact Rd.empty _ _, by rw [e3.out, e1.out]; exact hfin, gb_set w g 1 _⟩
    · obtain ⟨q, rfl⟩ := Int.eq_ofNat_of_zero_le (show 0 ≤ m by omega)
      have hq : q ≤ n := by omega
      have e1 : Hid (rdShort xs false (q : Int) = false) := by show _ = _; unfold rdShort; rw [hn]; simp; omega
      have e2 : Hid (rdOut xs false (q : Int) = xs.take q) := by show _ = _; unfold rdOut; rw [e1.out]; rfl
      have e3 : Hid (rdLeft xs false (q : Int) = xs.drop q) := by show _ = _; unfold rdLeft; rw [e1.out]; rfl
      have Hn := Lib.hid hn; clear hn hbad
      have own0 := World.ownsRow_nil w w.heap.size 5 1
      have hB := Below.refl w.heap.size w
      have hgl := heap_lt Hg.out
      have fin : Hid (∀ (w1 : World) (v1 : Value) (A3 : Option Addr) (c3 : Nat), w1.ownsRow w.heap.size 5 1 v1 q (bs (xs.take q)) → Below w.heap.size w w1 → RdB w A3 (n - q) c3 (xs.drop q) → (∀ ad, A3 = some ad → ad.block ≠ g ∧ Q0 ad.block) →
          ∃ A' n' c', Ending.returned v1 = .returned (.slice A' n' c') ∧ RdB (w1.setCell ⟨g, 0, none⟩ (.slice A3 (n - q) c3)) A' n' c' (xs.take q) ∧ RdrQ Q0 (w1.setCell ⟨g, 0, none⟩ (.slice A3 (n - q) c3)) g (xs.drop q) false ∧ w.grownBy (w1.setCell ⟨g, 0, none⟩ (.slice A3 (n - q) c3)) (some g)) := by
        intro w1 v1 A3 c3 ho1 hb1 hr3 hne3
        obtain ⟨A2, c2, rfl, hr2, hbl⟩ := Rd.of_own ho1
        have h1 := (hb1.block g hgl).trans Hg.out
        refine ⟨A2, q, c2, rfl, hr2.kept (gb_set w1 g 0 _) (fun ad e => by have := hbl ad e; simp; omega), ⟨A3, n - q, c3, set_heap h1 _, (hr3.below hb1).kept (gb_set w1 g 0 _) (fun ad e => by have := (hne3 ad e).1; simpa using this), hne3, by omega⟩, World.grownBy.trans (gb_below hb1 _) (gb_set w1 g 0 _)⟩
      rw [e1.out, e2.out, e3.out]
      have hdrop := hx.bdrop q hq
      have hx0 := hx.btake q hq
      by_cases hcq : c = q
      · obtain rfl : n = q := by omega
        obtain rfl : c = n := hcq
        rw [if_pos rfl] at hdrop
        have Hd := Lib.hid hdrop
        clear hdrop
        go_enter Try.func36, Try.ntmps36
        go_wp2_with (at_builtin; refine wpl_append rfl (.const (.slice none 0 0)) (.tmp 33) 22 rfl w.heap.size 5 _ 1 1 Try.underlying22 info_u8 rfl (by decide) _ 0 [] rfl own0 A _ _ _ rfl hx0 (bs_one _) (by unfold maxLen; omega) (by omega) (Nat.le_refl _) ?_; intro v1 w1 ho1 hg1; have hB1 := below_own hB own0 hg1; clear hg1; have hg1 := (hB1.block g hgl).trans Hg.out; have d0 : w1.cell? ⟨g, 0, none⟩ = some (.slice A c c) := cell_heap hg1; have k0 : w1.frozen? ⟨g, 0, none⟩ = false := frozen_heap hg1; clear hg1; rw [List.nil_append, Nat.zero_add] at ho1; have Ho1 := Lib.hid ho1; clear ho1)
        go_ret
        have := fin.out w1 v1 A (c - c) Ho1.out hB1 Hd.out hne
        simpa using this
      · rw [if_neg hcq] at hdrop
        have Hd := Lib.hid hdrop
        clear hdrop
        go_enter Try.func36, Try.ntmps36
        go_wp2_with (at_builtin; refine wpl_append rfl (.const (.slice none 0 0)) (.tmp 33) 22 rfl w.heap.size 5 _ 1 1 Try.underlying22 info_u8 rfl (by decide) _ 0 [] rfl own0 A _ _ _ rfl hx0 (bs_one _) (by unfold maxLen; omega) (by omega) (Nat.le_refl _) ?_; intro v1 w1 ho1 hg1; have hB1 := below_own hB own0 hg1; clear hg1; have hg1 := (hB1.block g hgl).trans Hg.out; have d0 : w1.cell? ⟨g, 0, none⟩ = some (.slice A n c) := cell_heap hg1; have k0 : w1.frozen? ⟨g, 0, none⟩ = false := frozen_heap hg1; clear hg1; rw [List.nil_append, Nat.zero_add] at ho1; have Ho1 := Lib.hid ho1; clear ho1)
        go_ret
        exact fin.out w1 v1 _ _ Ho1.out hB1 Hd.out (fun ad e => by
          cases A with
          | none => simp at e
          | some a0 => simp at e; rw [← e, add_block]; exact hne a0 rfl)

set_option maxRecDepth 100000 in
set_option maxHeartbeats 800000 in
theorem rdNq_any (Q0 : Nat → Prop) (xs : List UInt8) (sh : Bool) (k : Int) (g : Nat) (w : World) (hr : RdrQ Q0 w g xs sh) :
    Calls Try.prog 37 #[.pointer (some ⟨g, 0, none⟩), .int .i64 k] w fun e w' => e = .returned (.int .u64 (rdNum xs sh k : Nat)) ∧ RdrQ Q0 w' g (rdLeft xs sh (nw k)) (rdShort xs sh (nw k)) ∧ w.grownBy w' (some g) := by
  have hgl := hr.lt
  have hlen := hr.len
  have HN : Hid (rdNum xs sh k = getN (rdOut xs sh (nw k)) 0 (nw k)) := rfl
  have hol := rdOut_len xs sh (nw k)
  have K := Lib.hid (rdBq_any Q0 xs sh (nw k) g w hr)
  generalize rdNum xs sh k = r at *
  generalize rdOut xs sh (nw k) = ys at *
  generalize rdLeft xs sh (nw k) = zs at *
  generalize rdShort xs sh (nw k) = s at *
  have key : (k < 1 ∧ nw k = -1) ∨ (¬ k < 1 ∧ 8 < k ∧ nw k = -1) ∨ (¬ k < 1 ∧ ¬ 8 < k ∧ nw k = k) := by unfold nw; split <;> omega
  rcases key with ⟨h1, h2⟩ | ⟨h1, h2, h3⟩ | ⟨h1, h2, h3⟩
  case' inl => rw [h2] at HN K; clear h2
  case' inr.inl => have hd : decide (k < 1) = false := (by simpa using h1); rw [h3] at HN K; clear h3
  case' inr.inr => rw [h3] at HN K; clear h3
  all_goals
    go_enter Try.func37, Try.ntmps37
    go_wp2_with fail
    refine K.out.mono ?_
    rintro e w1 ⟨A', n', c', rfl, hy, hr1, hgb⟩
    have hyl := hy.blen
    have K2 := Lib.hid (fun j => get_any 0 j ys A' n' c' w1 hy (by omega))
    have hgl1 := hr1.lt
    have Hr := Lib.hid hr1
    have Hgb := Lib.hid hgb
    clear hr1 hgb hyl
    go_wp2_with (go_at_call 33; refine (K2.out _).mono ?_; rintro e w2 ⟨rfl, hb⟩)
    go_ret
    exact ⟨ret_int (by rw [HN.out]), Hr.out.kept ‹_›, World.grownBy.trans Hgb.out (gb_below ‹_› _)⟩
end Go.Proofs.Ythkabhejfkekjaa
