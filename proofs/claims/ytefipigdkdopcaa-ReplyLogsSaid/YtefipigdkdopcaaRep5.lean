/- Contracts of layer 36's reader of words. -/
import Derived.Test.YtefipigdkdopcaaRep4
import Derived.Test.YtefipigdkdopcaaNumber
namespace Go.Proofs.Ytefipigdkdopcaa
open Go.RowKit

/-- A reader at block g: the words left; they lie below block B. -/
def WRd (w : World) (g B : Nat) (l : List (List UInt8)) : Prop :=
  ∃ A n c, w.heap[g]? = some (.cells #[.slice A n c] 104 (0, 0)) ∧ RdS w A n c l ∧ (∀ ad, A = some ad → ad.block ≠ g ∧ ad.block < B)
theorem WRd.kept {w w' : World} {g B : Nat} {l : List (List UInt8)} (h : WRd w g B l) (hb : Below w.heap.size w w') : WRd w' g B l := by
  obtain ⟨A, n, c, h1, h2, h3⟩ := h
  exact ⟨A, n, c, (hb.block g (heap_lt h1)).trans h1, h2.below hb, h3⟩

set_option maxRecDepth 100000 in
theorem rnext_any (g B : Nat) (l : List (List UInt8)) (w : World) (h : WRd w g B l) : Calls Try.prog 66 #[.pointer (some ⟨g, 0, none⟩)] w fun e w' => e = .returned (.string ⟨(l.headD []).toArray⟩) ∧ WRd w' g B l.tail ∧ w.grownBy w' (some g) := by
  obtain ⟨A, n, c, hg, hx, hA⟩ := h
  have c0 : w.cell? ⟨g, 0, none⟩ = some (.slice A n c) := cell_heap hg
  have f0 := frozen_heap (o := 0) hg
  have hl := Rd.slen hx
  have hnc := hx.nc
  have hcm := hx.cm
  unfold maxLen at hcm
  cases l with
  | nil =>
    obtain rfl : n = 0 := by simpa using hl.symm
    go_enter Try.func66, Try.ntmps66
    go_wp2_with fail
    go_ret
    exact ⟨rfl, ⟨A, 0, c, hg, hx, hA⟩, World.grownBy.refl _ _⟩
  | cons s r =>
    have hn : 0 < n := by rw [← hl]; simp
    have hn1 : (1 : Int) ≤ (n : Int) := by omega
    have hn0 : ((n : Int) == 0) = false := by rw [beq_eq_false_iff_ne]; omega
    have hn2 : ¬ ((n : Int) = 0) := by omega
    have hcc : (n : Int) ≤ (c : Int) := by omega
    obtain ⟨ad, rfl, cs⟩ := hx.sat 0 hn
    obtain ⟨gb, off, sp⟩ := ad
    have hsp : sp = none := by
      have := World.cell?_spot cs
      simpa [Addr.add] using this
    subst hsp
    have cs0 : w.cell? ⟨gb, off, none⟩ = some (.string ⟨s.toArray⟩) := by
      have e : (⟨gb, off, none⟩ : Addr).add 0 = ⟨gb, off, none⟩ := by unfold Addr.add; simp
      rw [e] at cs
      exact cs
    have hs := hx.sliced 1 n (by omega) (Nat.le_refl _)
    have hr : (strs (s :: r)).drop (1 * 1) = strs r := by simp [strs]
    rw [hr, List.take_of_length_le (by rw [strs_length]; simp only [List.length_cons] at hl; omega)] at hs
    obtain ⟨hgb, hgB⟩ := hA _ rfl
    dsimp only at hgb hgB
    clear hr cs hl
    by_cases hc : c = 1
    · rw [if_pos hc] at hs
      subst hc
      obtain rfl : n = 1 := by omega
      go_enter Try.func66, Try.ntmps66
      go_wp2_with fail
      go_ret
      have hG := gb_set w g 0 (.slice (some ⟨gb, off, none⟩) (1 - 1) (1 - 1))
      exact ⟨rfl, ⟨_, _, _, set_heap (o := 0) hg _, hs.kept hG (fun ad e => by cases e; simpa using hgb), fun ad e => by cases e; exact ⟨hgb, hgB⟩⟩, hG⟩
    · rw [if_neg hc] at hs
      have hc2 : ¬ ((c : Int) = 1) := by omega
      go_enter Try.func66, Try.ntmps66
      go_wp2_with fail
      go_ret
      have hs2 : Rd w (some ⟨gb, off + 1, none⟩) (n - 1) (c - 1) 1 (strs r) := hs
      have hG := gb_set w g 0 (.slice (some ⟨gb, off + 1, none⟩) (n - 1) (c - 1))
      exact ⟨rfl, ⟨_, _, _, set_heap (o := 0) hg _, hs2.kept hG (fun ad e => by cases e; simpa using hgb), fun ad e => by cases e; exact ⟨hgb, hgB⟩⟩, hG⟩

set_option maxRecDepth 100000 in
theorem rn_any (g B : Nat) (l : List (List UInt8)) (w : World) (h : WRd w g B l) (hN : (l.headD []).length ≤ 100000) : Calls Try.prog 64 #[.pointer (some ⟨g, 0, none⟩)] w fun e w' => e = .returned (.int .u64 (numF (l.headD [])).toNat) ∧ ∃ w1, WRd w1 g B l.tail ∧ w.grownBy w1 (some g) ∧ WRd w' g B l.tail ∧ Below w1.heap.size w1 w' := by
  have hb := numF_bounds (l.headD [])
  have KX := Lib.hid (rnext_any g B l w h)
  have KN := fun W => Lib.hid (number_any (l.headD []) W hN)
  generalize numF (l.headD []) = v at *
  generalize numOk (l.headD []) = o at *
  generalize l.headD [] = s at *
  unfold farN at hb
  clear h hN
  go_enter Try.func64, Try.ntmps64
  go_wp2_with fail
  refine KX.out.mono ?_
  rintro e w1 ⟨rfl, hr, hg⟩
  go_wp2_with fail
  refine (KN _).out.mono ?_
  rintro e w2 ⟨rfl, hb2⟩
  by_cases hv : 0 ≤ v
  · obtain ⟨V, rfl⟩ : ∃ V : Nat, v = V := ⟨v.toNat, by omega⟩
    have hmax : max (V : Int) 0 = (V : Int) := by omega
    go_wp2_with fail
    go_ret
    exact ⟨by simp, w1, hr, hg, hr.kept hb2, hb2⟩
  · have hmax : max v 0 = 0 := by omega
    have htn : v.toNat = 0 := by omega
    go_wp2_with fail
    go_ret
    exact ⟨by simp [htn], w1, hr, hg, hr.kept hb2, hb2⟩
theorem rn_gb (g B : Nat) (l : List (List UInt8)) (w : World) (h : WRd w g B l) (hN : (l.headD []).length ≤ 100000) : Calls Try.prog 64 #[.pointer (some ⟨g, 0, none⟩)] w fun e w' => e = .returned (.int .u64 (numF (l.headD [])).toNat) ∧ WRd w' g B l.tail ∧ w.grownBy w' (some g) :=
  (rn_any g B l w h hN).mono (fun e w' ⟨he, w1, h1, h2, h3, h4⟩ => ⟨he, h3, h2.trans (gb_below h4 _)⟩)
end Go.Proofs.Ytefipigdkdopcaa
