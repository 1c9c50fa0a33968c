/- Contracts of be.Reader: bytes that are left, and whether they were too few. No condition but the lengths' bounds. -/
import Derived.Test.YthkabhejfkekjaaBeRef
namespace Go.Proofs.Ythkabhejfkekjaa
open Go.RowKit

/-- A reader at block g: what is left, and whether it was too short. -/
def Rdr (w : World) (g : Nat) (xs : List UInt8) (sh : Bool) : Prop :=
  ∃ A n c, w.heap[g]? = some (.cells #[.slice A n c, .bool sh] 110 (0, 0)) ∧ RdB w A n c xs ∧ (∀ ad, A = some ad → ad.block ≠ g) ∧ n ≤ 140737488355000

theorem Rdr.kept {w w' : World} {g : Nat} {xs : List UInt8} {sh : Bool} (h : Rdr w g xs sh) (hb : Below w.heap.size w w') : Rdr w' g xs sh := by
  obtain ⟨A, n, c, h1, h2, h3, h4⟩ := h
  exact ⟨A, n, c, (hb.block g (heap_lt h1)).trans h1, h2.below hb, h3, h4⟩
theorem Rdr.lt {w : World} {g : Nat} {xs : List UInt8} {sh : Bool} (h : Rdr w g xs sh) : g < w.heap.size := by
  obtain ⟨A, n, c, h1, _⟩ := h
  exact heap_lt h1

set_option maxRecDepth 100000 in
set_option maxHeartbeats 800000 in
theorem over_any (xs : List UInt8) (A : Option Addr) (n c : Nat) (w : World) (hx : RdB w A n c xs) (hN : n ≤ 140737488355000) :
    Calls Try.prog 35 #[.slice A n c] w fun e w' => ∃ g, e = .returned (.pointer (some ⟨g, 0, none⟩)) ∧ w.heap.size ≤ g ∧ Rdr w' g xs false ∧ Below w.heap.size w w' := by
  have hn := hx.blen
  have Hn := Lib.hid hn; clear hn
  have hm := hx.cm
  have hnc := hx.nc
  unfold maxLen at hm
  have hB := Below.refl w.heap.size w
  have own0 := World.ownsRow_nil w w.heap.size 5 1
  go_enter Try.func35, Try.ntmps35
  go_wp2_with (first
    | (at_builtin; refine wpl_append rfl (.const (.slice none 0 0)) (.tmp 3) 22 rfl w.heap.size 5 _ 1 1 Try.underlying22 info_u8 rfl (by decide) _ 0 [] rfl own0 A n c (bs xs) rfl hx (bs_one _) (by unfold maxLen; omega) (by omega) (Nat.le_refl _) ?_; intro v1 w1 ho1 hg1; have hB1 := below_own hB own0 hg1; clear hg1; obtain ⟨A2, c2, rfl, hr, hbl⟩ := Rd.of_own ho1; rw [List.nil_append, Nat.zero_add] at hr; have hlt0 := fun ad (e : A2 = some ad) => (ho1.lt ad.block (by rw [e]; rfl)).2; rw [Nat.zero_add]; clear ho1))
  go_ret
  have hlt : ∀ ad, A2 = some ad → ad.block ≠ w1.heap.size := fun ad e hh => by have := hlt0 ad e; omega
  refine ⟨w1.heap.size, rfl, hB1.size, ⟨A2, n, c2, alloc_new _ _, hr.alloc _, hlt, hN⟩, hB1.alloc hB1.size _⟩

def rdShort (xs : List UInt8) (sh : Bool) (m : Int) : Bool := sh || decide (m < 0 ∨ (xs.length : Int) < m)
def rdOut (xs : List UInt8) (sh : Bool) (m : Int) : List UInt8 := if rdShort xs sh m then [] else xs.take m.toNat
def rdLeft (xs : List UInt8) (sh : Bool) (m : Int) : List UInt8 := if rdShort xs sh m then xs else xs.drop m.toNat

set_option maxRecDepth 100000 in
set_option maxHeartbeats 800000 in
theorem rdB_any (xs : List UInt8) (sh : Bool) (m : Int) (g : Nat) (w : World) (hr : Rdr w g xs sh) :
    Calls Try.prog 36 #[.pointer (some ⟨g, 0, none⟩), .int .i64 m] w fun e w' => ∃ A' n' c', e = .returned (.slice A' n' c') ∧ RdB w' A' n' c' (rdOut xs sh m) ∧ Rdr w' g (rdLeft xs sh m) (rdShort xs sh m) ∧ w.grownBy w' (some g) := by
  have hr0 := hr
  obtain ⟨A, n, c, hg, hx, hne, hN⟩ := hr
  have hn := hx.blen
  have hm := hx.cm
  have hnc := hx.nc
  unfold maxLen at hm
  have c0 : w.cell? ⟨g, 0, none⟩ = some (.slice A n c) := cell_heap hg
  have c1 : w.cell? ⟨g, 1, none⟩ = some (.bool sh) := cell_heap hg
  have f0 : w.frozen? ⟨g, 0, none⟩ = false := frozen_heap hg
  have f1 : w.frozen? ⟨g, 1, none⟩ = false := frozen_heap hg
  have Hg := Lib.hid hg; clear hg
  cases hs : sh with
  | true =>
    subst hs
    have e1 : Hid (rdShort xs true m = true) := rfl
    have e2 : Hid (rdOut xs true m = []) := rfl
    have e3 : Hid (rdLeft xs true m = xs) := rfl
    clear hn
    go_enter Try.func36, Try.ntmps36
    go_wp2_with fail
    go_ret
    exact ⟨none, 0, 0, rfl, by rw [e2.out]; exact Rd.empty _ _, by rw [e3.out, e1.out]; exact hr0, World.grownBy.refl _ _⟩
  | false =>
    subst hs
    by_cases hbad : m < 0 ∨ (n : Int) < m
    · have e1 : Hid (rdShort xs false m = true) := by show _ = _; unfold rdShort; rw [hn]; simp; omega
      have e2 : Hid (rdOut xs false m = []) := by show _ = _; unfold rdOut; rw [e1.out]; rfl
      have e3 : Hid (rdLeft xs false m = xs) := by show _ = _; unfold rdLeft; rw [e1.out]; rfl
      clear hn
      have hfin : Rdr (w.setCell ⟨g, 1, none⟩ (.bool true)) g xs true :=
        ⟨A, n, c, set_heap Hg.out _, hx.kept (gb_set w g 1 (.bool true)) (fun ad e => by have := hne ad e; simpa using this), hne, hN⟩
      rcases hbad with hbad | hbad
      · go_enter Try.func36, Try.ntmps36
        go_wp2_with fail
        go_ret
        exact ⟨none, 0, 0, rfl, by rw [e2.out]; exact Rd.empty _ _, by rw [e3.out, e1.out]; exact hfin, gb_set w g 1 _⟩
      · have hb0 : decide (m < 0) = false := by simp; omega
        go_enter Try.func36, Try.ntmps36
        go_wp2_with fail
        go_ret
        exact ⟨none, 0, 0, rfl, by rw [e2.out]; exact Rd.empty _ _, by rw [e3.out, e1.out]; exact hfin, gb_set w g 1 _⟩
    · obtain ⟨q, rfl⟩ := Int.eq_ofNat_of_zero_le (show 0 ≤ m by omega)
      have hq : q ≤ n := by omega
      have e1 : Hid (rdShort xs false (q : Int) = false) := by show _ = _; unfold rdShort; rw [hn]; simp; omega
      have e2 : Hid (rdOut xs false (q : Int) = xs.take q) := by show _ = _; unfold rdOut; rw [e1.out]; rfl
      have e3 : Hid (rdLeft xs false (q : Int) = xs.drop q) := by show _ = _; unfold rdLeft; rw [e1.out]; rfl
      have Hn := Lib.hid hn; clear hn hbad
      have own0 := World.ownsRow_nil w w.heap.size 5 1
      have hB := Below.refl w.heap.size w
      have hgl := heap_lt Hg.out
      have fin : Hid (∀ (w1 : World) (v1 : Value) (A3 : Option Addr) (c3 : Nat), w1.ownsRow w.heap.size 5 1 v1 q (bs (xs.take q)) → Below w.heap.size w w1 → RdB w A3 (n - q) c3 (xs.drop q) → (∀ ad, A3 = some ad → ad.block ≠ g) →
          ∃ A' n' c', Ending.returned v1 = .returned (.slice A' n' c') ∧ RdB (w1.setCell ⟨g, 0, none⟩ (.slice A3 (n - q) c3)) A' n' c' (xs.take q) ∧ Rdr (w1.setCell ⟨g, 0, none⟩ (.slice A3 (n - q) c3)) g (xs.drop q) false ∧ w.grownBy (w1.setCell ⟨g, 0, none⟩ (.slice A3 (n - q) c3)) (some g)) := by
        intro w1 v1 A3 c3 ho1 hb1 hr3 hne3
        obtain ⟨A2, c2, rfl, hr2, hbl⟩ := Rd.of_own ho1
        have h1 := (hb1.block g hgl).trans Hg.out
        refine ⟨A2, q, c2, rfl, hr2.kept (gb_set w1 g 0 _) (fun ad e => by have := hbl ad e; simp; omega), ⟨A3, n - q, c3, set_heap h1 _, (hr3.below hb1).kept (gb_set w1 g 0 _) (fun ad e => by have := hne3 ad e; simpa using this), hne3, by omega⟩, World.grownBy.trans (gb_below hb1 _) (gb_set w1 g 0 _)⟩
      rw [e1.out, e2.out, e3.out]
      have hdrop := hx.bdrop q hq
      have hx0 := hx.btake q hq
      by_cases hcq : c = q
      · obtain rfl : n = q := by omega
        obtain rfl : c = n := hcq
        rw [if_pos rfl] at hdrop
        have Hd := Lib.hid hdrop
        clear hdrop
        go_enter Try.func36, Try.ntmps36
        go_wp2_with (at_builtin; refine wpl_append rfl (.const (.slice none 0 0)) (.tmp 33) 22 rfl w.heap.size 5 _ 1 1 Try.underlying22 info_u8 rfl (by decide) _ 0 [] rfl own0 A _ _ _ rfl hx0 (bs_one _) (by unfold maxLen; omega) (by omega) (Nat.le_refl _) ?_; intro v1 w1 ho1 hg1; have hB1 := below_own hB own0 hg1; clear hg1; have hg1 := (hB1.block g hgl).trans Hg.out; have d0 : w1.cell? ⟨g, 0, none⟩ = some (.slice A c c) := cell_heap hg1; have k0 : w1.frozen? ⟨g, 0, none⟩ = false := frozen_heap hg1; clear hg1; rw [List.nil_append, Nat.zero_add] at ho1; have Ho1 := Lib.hid ho1; clear ho1)
        go_ret
        have := fin.out w1 v1 A (c - c) Ho1.out hB1 Hd.out hne
        simpa using this
      · rw [if_neg hcq] at hdrop
        have Hd := Lib.hid hdrop
        clear hdrop
        go_enter Try.func36, Try.ntmps36
        go_wp2_with (at_builtin; refine wpl_append rfl (.const (.slice none 0 0)) (.tmp 33) 22 rfl w.heap.size 5 _ 1 1 Try.underlying22 info_u8 rfl (by decide) _ 0 [] rfl own0 A _ _ _ rfl hx0 (bs_one _) (by unfold maxLen; omega) (by omega) (Nat.le_refl _) ?_; intro v1 w1 ho1 hg1; have hB1 := below_own hB own0 hg1; clear hg1; have hg1 := (hB1.block g hgl).trans Hg.out; have d0 : w1.cell? ⟨g, 0, none⟩ = some (.slice A n c) := cell_heap hg1; have k0 : w1.frozen? ⟨g, 0, none⟩ = false := frozen_heap hg1; clear hg1; rw [List.nil_append, Nat.zero_add] at ho1; have Ho1 := Lib.hid ho1; clear ho1)
        go_ret
        exact fin.out w1 v1 _ _ Ho1.out hB1 Hd.out (fun ad e => by
          cases A with
          | none => simp at e
          | some a0 => simp at e; rw [← e, add_block]; exact hne a0 rfl)

theorem rdOut_len (xs : List UInt8) (sh : Bool) (m : Int) : (rdOut xs sh m).length ≤ xs.length := by
  unfold rdOut
  split
  · simp
  · rw [List.length_take]; omega
theorem Rdr.len {w : World} {g : Nat} {xs : List UInt8} {sh : Bool} (h : Rdr w g xs sh) : xs.length ≤ 140737488355000 := by
  obtain ⟨A, n, c, _, h2, _, h4⟩ := h
  rw [h2.blen]; exact h4

def nw (k : Int) : Int := if k < 1 ∨ 8 < k then -1 else k
def rdNum (xs : List UInt8) (sh : Bool) (k : Int) : Nat := getN (rdOut xs sh (nw k)) 0 (nw k)

set_option maxRecDepth 100000 in
set_option maxHeartbeats 800000 in
theorem rdN_any (xs : List UInt8) (sh : Bool) (k : Int) (g : Nat) (w : World) (hr : Rdr w g xs sh) :
    Calls Try.prog 37 #[.pointer (some ⟨g, 0, none⟩), .int .i64 k] w fun e w' => e = .returned (.int .u64 (rdNum xs sh k : Nat)) ∧ Rdr w' g (rdLeft xs sh (nw k)) (rdShort xs sh (nw k)) ∧ w.grownBy w' (some g) := by
  have hgl := hr.lt
  have hlen := hr.len
  have HN : Hid (rdNum xs sh k = getN (rdOut xs sh (nw k)) 0 (nw k)) := rfl
  have hol := rdOut_len xs sh (nw k)
  have K := Lib.hid (rdB_any xs sh (nw k) g w hr)
  generalize rdNum xs sh k = r at *
  generalize rdOut xs sh (nw k) = ys at *
  generalize rdLeft xs sh (nw k) = zs at *
  generalize rdShort xs sh (nw k) = s at *
  have key : (k < 1 ∧ nw k = -1) ∨ (¬ k < 1 ∧ 8 < k ∧ nw k = -1) ∨ (¬ k < 1 ∧ ¬ 8 < k ∧ nw k = k) := by unfold nw; split <;> omega
  rcases key with ⟨h1, h2⟩ | ⟨h1, h2, h3⟩ | ⟨h1, h2, h3⟩
  case' inl => rw [h2] at HN K; clear h2
  case' inr.inl => have hd : decide (k < 1) = false := (by simpa using h1); rw [h3] at HN K; clear h3
  case' inr.inr => rw [h3] at HN K; clear h3
  all_goals
    go_enter Try.func37, Try.ntmps37
    go_wp2_with fail
    refine K.out.mono ?_
    rintro e w1 ⟨A', n', c', rfl, hy, hr1, hgb⟩
    have hyl := hy.blen
    have K2 := Lib.hid (fun j => get_any 0 j ys A' n' c' w1 hy (by omega))
    have hgl1 := hr1.lt
    have Hr := Lib.hid hr1
    have Hgb := Lib.hid hgb
    clear hr1 hgb hyl
    go_wp2_with (go_at_call 33; refine (K2.out _).mono ?_; rintro e w2 ⟨rfl, hb⟩)
    go_ret
    exact ⟨ret_int (by rw [HN.out]), Hr.out.kept ‹_›, World.grownBy.trans Hgb.out (gb_below ‹_› _)⟩

set_option maxRecDepth 100000 in
theorem rdLeft_any (xs : List UInt8) (sh : Bool) (g : Nat) (w : World) (hr : Rdr w g xs sh) :
    Calls Try.prog 38 #[.pointer (some ⟨g, 0, none⟩)] w fun e w' => e = .returned (.int .i64 ((if sh then 0 else xs.length : Nat) : Int)) ∧ w = w' := by
  obtain ⟨A, n, c, hg, hx, hne, hN⟩ := hr
  have hn := hx.blen
  have c0 : w.cell? ⟨g, 0, none⟩ = some (.slice A n c) := cell_heap hg
  have c1 : w.cell? ⟨g, 1, none⟩ = some (.bool sh) := cell_heap hg
  rw [hn]
  clear hg hn
  cases sh
  all_goals
    go_enter Try.func38, Try.ntmps38
    go_wp2_with fail
    go_ret
    exact ⟨rfl, rfl⟩

set_option maxRecDepth 100000 in
theorem rdEnd_any (xs : List UInt8) (sh : Bool) (g : Nat) (w : World) (hr : Rdr w g xs sh) :
    Calls Try.prog 39 #[.pointer (some ⟨g, 0, none⟩)] w fun e w' => e = .returned (.int .i64 (if sh then 5 else if xs = [] then 0 else 6)) ∧ w = w' := by
  obtain ⟨A, n, c, hg, hx, hne, hN⟩ := hr
  have hn := hx.blen
  have c0 : w.cell? ⟨g, 0, none⟩ = some (.slice A n c) := cell_heap hg
  have c1 : w.cell? ⟨g, 1, none⟩ = some (.bool sh) := cell_heap hg
  cases sh
  · by_cases h0 : n = 0
    · have e : xs = [] := List.eq_nil_of_length_eq_zero (by omega)
      subst h0
      rw [if_neg (by simp), if_pos e]
      clear hg hn e
      go_enter Try.func39, Try.ntmps39
      go_wp2_with fail
      go_ret
      exact ⟨rfl, rfl⟩
    · have e : ¬ xs = [] := fun e => h0 (by rw [e] at hn; simpa using hn.symm)
      have hp : 0 < n := by omega
      rw [if_neg (by simp), if_neg e]
      clear hg hn e h0
      go_enter Try.func39, Try.ntmps39
      go_wp2_with fail
      go_ret
      exact ⟨rfl, rfl⟩
  · rw [if_pos rfl]
    clear hg hn
    go_enter Try.func39, Try.ntmps39
    go_wp2_with fail
    go_ret
    exact ⟨rfl, rfl⟩

/-! A nil reader. -/
set_option maxRecDepth 100000 in
theorem nilB_any (m : Int) (w : World) :
    Calls Try.prog 36 #[.pointer none, .int .i64 m] w fun e w' => e = .returned (.slice none 0 0) ∧ w = w' := by
  go_enter Try.func36, Try.ntmps36
  go_wp2_with fail
  go_ret
  exact ⟨rfl, rfl⟩
set_option maxRecDepth 100000 in
theorem nilN_any (k : Int) (w : World) :
    Calls Try.prog 37 #[.pointer none, .int .i64 k] w fun e w' => e = .returned (.int .u64 0) ∧ Below w.heap.size w w' := by
  have K := Lib.hid (fun j => get_any 0 j [] none 0 0 w (Rd.empty _ _) (by omega))
  have e : ∀ j, getN [] 0 j = 0 := fun j => getN_nil 0 j
  simp only [e] at K
  clear e
  have key : (k < 1) ∨ (¬ k < 1 ∧ 8 < k) ∨ (¬ k < 1 ∧ ¬ 8 < k) := by omega
  rcases key with h1 | ⟨h1, h2⟩ | ⟨h1, h2⟩
  case' inr.inl => have hd : decide (k < 1) = false := (by simpa using h1)
  all_goals
    go_enter Try.func37, Try.ntmps37
    go_wp2_with (first | (go_at_call 36; refine (nilB_any _ _).mono ?_; rintro e w2 ⟨rfl, rfl⟩) | (go_at_call 33; refine (K.out _).mono ?_; rintro e w2 ⟨rfl, hb⟩))
    go_ret
    exact ⟨rfl, ‹_›⟩
theorem nilLeft_any (w : World) :
    Calls Try.prog 38 #[.pointer none] w fun e w' => e = .returned (.int .i64 0) ∧ w = w' := by
  go_enter Try.func38, Try.ntmps38
  go_wp2_with fail
  go_ret
  exact ⟨rfl, rfl⟩
theorem nilEnd_any (w : World) :
    Calls Try.prog 39 #[.pointer none] w fun e w' => e = .returned (.int .i64 1) ∧ w = w' := by
  go_enter Try.func39, Try.ntmps39
  go_wp2_with fail
  go_ret
  exact ⟨rfl, rfl⟩
end Go.Proofs.Ythkabhejfkekjaa
