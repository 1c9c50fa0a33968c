/- Contracts: whether rows of frames are the same (slices.Equal, the reference's Same, frame.Same). No condition. -/
import Derived.Test.YtefipigdkdopcaaFrame
import Derived.Deep.QuietTactic
import Derived.BigQuiet
namespace Go.Proofs.Ytefipigdkdopcaa
open Go.RowKit

abbrev Fr : Type := Nat × Nat × Int × Int × List UInt8
/-- A row of frames as cells. -/
def frCs : List Fr → List Value
  | [] => []
  | f :: l => .int .u64 (f.1 : Int) :: .int .u64 (f.2.1 : Int) :: .int .i64 f.2.2.1 :: .int .i64 f.2.2.2.1 :: .string ⟨f.2.2.2.2.toArray⟩ :: frCs l
theorem frCs_length (l : List Fr) : (frCs l).length = l.length * 5 := by
  induction l with
  | nil => rfl
  | cons f l ih => simp [frCs, ih]; omega
theorem frCs_append (l m : List Fr) : frCs (l ++ m) = frCs l ++ frCs m := by
  induction l with
  | nil => rfl
  | cons f l ih => simp [frCs, ih]
theorem frCs_get (l : List Fr) : ∀ i (h : i < l.length), (frCs l)[i * 5]? = some (.int .u64 (l[i].1 : Int)) ∧ (frCs l)[i * 5 + 1]? = some (.int .u64 (l[i].2.1 : Int)) ∧ (frCs l)[i * 5 + 2]? = some (.int .i64 l[i].2.2.1) ∧ (frCs l)[i * 5 + 3]? = some (.int .i64 l[i].2.2.2.1) ∧ (frCs l)[i * 5 + 4]? = some (.string ⟨l[i].2.2.2.2.toArray⟩) := by
  induction l with
  | nil => intro i h; exact absurd h (by simp)
  | cons f l ih =>
    intro i h
    cases i with
    | zero => exact ⟨rfl, rfl, rfl, rfl, rfl⟩
    | succ i =>
      have := ih i (by simpa using h)
      rw [show (i + 1) * 5 = i * 5 + 5 by omega]
      exact this
theorem at_plusk {w : World} {ad : Addr} {m k : Nat} {v : Value} (hk : 0 < k) (h : w.cell? (ad.add (m + k)) = some v) : w.cell? ⟨(ad.add m).block, (ad.add m).off + k, none⟩ = some v := by
  have e : (⟨(ad.add m).block, (ad.add m).off + k, none⟩ : Addr) = ad.add (m + k) := by
    unfold Addr.add
    have : ¬ (m + k = 0) := by omega
    by_cases hm : m = 0 <;> simp [hm, Nat.add_assoc, show ¬ (k = 0) by omega]
  rw [e]; exact h
/-- The five cells of a frame of a row. -/
theorem Rd.frame {w : World} {ad : Addr} {n c : Nat} {l : List Fr} (h : Rd w (some ad) n c 5 (frCs l)) (i : Nat) (hi : i < l.length) :
    w.cell? (ad.add (i * 5)) = some (.int .u64 (l[i].1 : Int)) ∧ w.cell? ⟨(ad.add (i * 5)).block, (ad.add (i * 5)).off + 1, none⟩ = some (.int .u64 (l[i].2.1 : Int)) ∧ w.cell? ⟨(ad.add (i * 5)).block, (ad.add (i * 5)).off + 2, none⟩ = some (.int .i64 l[i].2.2.1) ∧ w.cell? ⟨(ad.add (i * 5)).block, (ad.add (i * 5)).off + 3, none⟩ = some (.int .i64 l[i].2.2.2.1) ∧ w.cell? ⟨(ad.add (i * 5)).block, (ad.add (i * 5)).off + 4, none⟩ = some (.string ⟨l[i].2.2.2.2.toArray⟩) := by
  obtain ⟨h0, h1, h2, h3, h4⟩ := frCs_get l i hi
  exact ⟨h.cell ad rfl _ _ h0, at_plusk (by omega) (h.cell ad rfl _ _ h1), at_plusk (by omega) (h.cell ad rfl _ _ h2), at_plusk (by omega) (h.cell ad rfl _ _ h3), at_plusk (by omega) (h.cell ad rfl _ _ h4)⟩
theorem Rd.flen {w : World} {A : Option Addr} {n c : Nat} {l : List Fr} (h : Rd w A n c 5 (frCs l)) : l.length = n := by
  have := h.len
  rw [frCs_length] at this; omega
theorem take_succ_of {fs gs : List Fr} {j : Nat} (h1 : j < fs.length) (h2 : j < gs.length) (h : fs.take j = gs.take j) (he : fs[j] = gs[j]) : fs.take (j + 1) = gs.take (j + 1) := by
  rw [List.take_succ_eq_append_getElem h1, List.take_succ_eq_append_getElem h2, h, he]
theorem ne_of_get {fs gs : List Fr} {j : Nat} (h1 : j < fs.length) (h2 : j < gs.length) (he : fs[j] ≠ gs[j]) : fs ≠ gs := by
  intro h; subst h; exact he rfl

set_option maxRecDepth 100000 in
set_option maxHeartbeats 4000000 in
theorem fequal_any (fs gs : List Fr) (A B : Option Addr) (n c m k : Nat) (w : World) (hx : Rd w A n c 5 (frCs fs)) (hy : Rd w B m k 5 (frCs gs)) (hN : n ≤ 1000000) (hM : m ≤ 1000000) :
    Calls Try.prog 81 #[.slice A n c, .slice B m k] w fun e w' => e = .returned (.bool (decide (fs = gs))) ∧ Below w.heap.size w w' := by
  have hxl := hx.flen
  have hyl := hy.flen
  have hB := Below.refl w.heap.size w
  have hc1 := hx.cm
  have hc2 := hy.cm
  unfold maxLen at hc1 hc2
  by_cases hne : n = m
  · subst hne
    go_enter Try.func81, Try.ntmps81
    go_wp2_with fail
    go_loopw [13] (fun i wr => ∃ j : Nat, j ≤ n ∧ i = .int .i64 j ∧ fs.take j = gs.take j ∧ Below w.heap.size w wr) (fun i _ => n - (intOf i).toNat)
    case atStart => exact ⟨0, by omega, rfl, rfl, hB⟩
    case round =>
      obtain ⟨j, hj, rfl, het, hBr⟩ := hrel
      by_cases hlt : j < n
      · obtain ⟨ad, rfl⟩ := hx.some_of_pos (by omega)
        obtain ⟨bd, rfl⟩ := hy.some_of_pos (by omega)
        obtain ⟨e0, e1, e2, e3, e4⟩ := (hx.below hBr).frame j (by omega)
        obtain ⟨g0, g1, g2, g3, g4⟩ := (hy.below hBr).frame j (by omega)
        have HT := Lib.hid (take_succ_of (fs := fs) (gs := gs) (j := j) (by omega) (by omega) het)
        have HN := Lib.hid (ne_of_get (fs := fs) (gs := gs) (j := j) (by omega) (by omega))
        have hq1 : (j : Int) < n := by omega
        clear het hx hy
        generalize fs[j] = f at *
        generalize gs[j] = g at *
        obtain ⟨f0, f1, f2, f3, f4⟩ := f
        obtain ⟨h0, h1, h2, h3, h4⟩ := g
        dsimp only at e0 e1 e2 e3 e4 g0 g1 g2 g3 g4
        have HT := Lib.hid HT.out
        by_cases heq : f0 = h0 ∧ f1 = h1 ∧ f2 = h2 ∧ f3 = h3 ∧ f4 = h4
        · obtain ⟨rfl, rfl, rfl, rfl, rfl⟩ := heq
          have HT2 := Lib.hid (HT.out rfl)
          clear HT HN
          go_wp2_with fail
          go_quiet (fail)
          go_wp2_with fail
          go_roundw
          case rel => exact ⟨j + 1, by omega, by go_num, HT2.out, below_drewN hBr _⟩
          case measure => simp [intOf]; omega
        · have HN2 : Hid (decide (fs = gs) = false) := by
            show _ = _
            rw [decide_eq_false_iff_not]
            refine HN.out (fun h => heq ?_)
            simp only [Prod.mk.injEq] at h
            exact h
          have hd : f0 ≠ h0 ∨ (f0 = h0 ∧ f1 ≠ h1) ∨ (f0 = h0 ∧ f1 = h1 ∧ f2 ≠ h2) ∨ (f0 = h0 ∧ f1 = h1 ∧ f2 = h2 ∧ f3 ≠ h3) ∨ (f0 = h0 ∧ f1 = h1 ∧ f2 = h2 ∧ f3 = h3 ∧ f4 ≠ h4) := by
            by_cases q0 : f0 = h0 <;> by_cases q1 : f1 = h1 <;> by_cases q2 : f2 = h2 <;> by_cases q3 : f3 = h3 <;> by_cases q4 : f4 = h4 <;> simp_all
          clear HT HN heq
          rcases hd with d0 | ⟨rfl, d1⟩ | ⟨rfl, rfl, d2⟩ | ⟨rfl, rfl, rfl, d3⟩ | ⟨rfl, rfl, rfl, rfl, d4⟩
          case' inl =>
            have b1 : ((f0 : Int) == h0) = false := by rw [beq_eq_false_iff_ne]; omega
            have b2 : ¬ ((f0 : Int) = h0) := by omega
            have b3 : decide ((f0 : Int) = h0) = false := by rw [decide_eq_false_iff_not]; omega
          case' inr.inl =>
            have b1 : ((f1 : Int) == h1) = false := by rw [beq_eq_false_iff_ne]; omega
            have b2 : ¬ ((f1 : Int) = h1) := by omega
            have b3 : decide ((f1 : Int) = h1) = false := by rw [decide_eq_false_iff_not]; omega
          case' inr.inr.inl =>
            have b1 : (f2 == h2) = false := by rw [beq_eq_false_iff_ne]; exact d2
            have b3 : decide (f2 = h2) = false := by rw [decide_eq_false_iff_not]; exact d2
          case' inr.inr.inr.inl =>
            have b1 : (f3 == h3) = false := by rw [beq_eq_false_iff_ne]; exact d3
            have b3 : decide (f3 = h3) = false := by rw [decide_eq_false_iff_not]; exact d3
          case' inr.inr.inr.inr =>
            have b1 : (f4 == h4) = false := by rw [beq_eq_false_iff_ne]; exact d4
            have b3 : decide (f4 = h4) = false := by rw [decide_eq_false_iff_not]; exact d4
          all_goals
            go_wp2_with fail
            go_quiet (fail)
            go_wp2_with fail
            go_ret
            exact ⟨ret_bool HN2.out.symm, below_drewN hBr _⟩
      · obtain rfl : j = n := by omega
        rw [List.take_of_length_le (by omega), List.take_of_length_le (by omega)] at het
        subst het
        clear hx hy
        go_wp2_with fail
        go_ret
        exact ⟨ret_bool (by simp), hBr⟩
  · have hd : decide (fs = gs) = false := by rw [decide_eq_false_iff_not]; intro h; subst h; omega
    rw [hd]
    have h1 : ((n : Int) != (m : Int)) = true := by rw [bne_iff_ne]; omega
    clear hd hne
    go_enter Try.func81, Try.ntmps81
    go_wp2_with fail
    go_ret
    exact ⟨rfl, hB⟩

set_option maxRecDepth 100000 in
set_option maxHeartbeats 4000000 in
theorem refsame_any (fs gs : List Fr) (A B : Option Addr) (n c m k : Nat) (w : World) (hx : Rd w A n c 5 (frCs fs)) (hy : Rd w B m k 5 (frCs gs)) (hN : n ≤ 1000000) (hM : m ≤ 1000000) :
    Calls Try.prog 68 #[.slice A n c, .slice B m k] w fun e w' => e = .returned (.bool (decide (fs = gs))) ∧ Below w.heap.size w w' := by
  have hxl := hx.flen
  have hyl := hy.flen
  have hB := Below.refl w.heap.size w
  have hc1 := hx.cm
  have hc2 := hy.cm
  unfold maxLen at hc1 hc2
  by_cases hne : n = m
  · subst hne
    go_enter Try.func68, Try.ntmps68
    go_wp2_with fail
    go_loopw [5] (fun i wr => ∃ j : Nat, j ≤ n ∧ i = .int .i64 j ∧ fs.take j = gs.take j ∧ Below w.heap.size w wr) (fun i _ => n - (intOf i).toNat)
    case atStart => exact ⟨0, by omega, rfl, rfl, hB⟩
    case round =>
      obtain ⟨j, hj, rfl, het, hBr⟩ := hrel
      by_cases hlt : j < n
      · obtain ⟨ad, rfl⟩ := hx.some_of_pos (by omega)
        obtain ⟨bd, rfl⟩ := hy.some_of_pos (by omega)
        obtain ⟨e0, e1, e2, e3, e4⟩ := (hx.below hBr).frame j (by omega)
        obtain ⟨g0, g1, g2, g3, g4⟩ := (hy.below hBr).frame j (by omega)
        have HT := Lib.hid (take_succ_of (fs := fs) (gs := gs) (j := j) (by omega) (by omega) het)
        have HN := Lib.hid (ne_of_get (fs := fs) (gs := gs) (j := j) (by omega) (by omega))
        have hq1 : (j : Int) < n := by omega
        clear het hx hy
        generalize fs[j] = f at *
        generalize gs[j] = g at *
        obtain ⟨f0, f1, f2, f3, f4⟩ := f
        obtain ⟨h0, h1, h2, h3, h4⟩ := g
        dsimp only at e0 e1 e2 e3 e4 g0 g1 g2 g3 g4
        have HT := Lib.hid HT.out
        by_cases heq : f0 = h0 ∧ f1 = h1 ∧ f2 = h2 ∧ f3 = h3 ∧ f4 = h4
        · obtain ⟨rfl, rfl, rfl, rfl, rfl⟩ := heq
          have HT2 := Lib.hid (HT.out rfl)
          clear HT HN
          go_wp2_with fail
          go_quiet (fail)
          go_wp2_with fail
          go_roundw
          case rel => exact ⟨j + 1, by omega, by go_num, HT2.out, below_drewN hBr _⟩
          case measure => simp [intOf]; omega
        · have HN2 : Hid (decide (fs = gs) = false) := by
            show _ = _
            rw [decide_eq_false_iff_not]
            refine HN.out (fun h => heq ?_)
            simp only [Prod.mk.injEq] at h
            exact h
          have hd : f0 ≠ h0 ∨ (f0 = h0 ∧ f1 ≠ h1) ∨ (f0 = h0 ∧ f1 = h1 ∧ f2 ≠ h2) ∨ (f0 = h0 ∧ f1 = h1 ∧ f2 = h2 ∧ f3 ≠ h3) ∨ (f0 = h0 ∧ f1 = h1 ∧ f2 = h2 ∧ f3 = h3 ∧ f4 ≠ h4) := by
            by_cases q0 : f0 = h0 <;> by_cases q1 : f1 = h1 <;> by_cases q2 : f2 = h2 <;> by_cases q3 : f3 = h3 <;> by_cases q4 : f4 = h4 <;> simp_all
          clear HT HN heq
          rcases hd with d0 | ⟨rfl, d1⟩ | ⟨rfl, rfl, d2⟩ | ⟨rfl, rfl, rfl, d3⟩ | ⟨rfl, rfl, rfl, rfl, d4⟩
          case' inl =>
            have b1 : ((f0 : Int) == h0) = false := by rw [beq_eq_false_iff_ne]; omega
            have b2 : ¬ ((f0 : Int) = h0) := by omega
            have b3 : decide ((f0 : Int) = h0) = false := by rw [decide_eq_false_iff_not]; omega
          case' inr.inl =>
            have b1 : ((f1 : Int) == h1) = false := by rw [beq_eq_false_iff_ne]; omega
            have b2 : ¬ ((f1 : Int) = h1) := by omega
            have b3 : decide ((f1 : Int) = h1) = false := by rw [decide_eq_false_iff_not]; omega
          case' inr.inr.inl =>
            have b1 : (f2 == h2) = false := by rw [beq_eq_false_iff_ne]; exact d2
            have b3 : decide (f2 = h2) = false := by rw [decide_eq_false_iff_not]; exact d2
          case' inr.inr.inr.inl =>
            have b1 : (f3 == h3) = false := by rw [beq_eq_false_iff_ne]; exact d3
            have b3 : decide (f3 = h3) = false := by rw [decide_eq_false_iff_not]; exact d3
          case' inr.inr.inr.inr =>
            have b1 : (f4 == h4) = false := by rw [beq_eq_false_iff_ne]; exact d4
            have b3 : decide (f4 = h4) = false := by rw [decide_eq_false_iff_not]; exact d4
          all_goals
            go_wp2_with fail
            go_quiet (fail)
            go_wp2_with fail
            go_ret
            exact ⟨ret_bool HN2.out.symm, below_drewN hBr _⟩
      · obtain rfl : j = n := by omega
        rw [List.take_of_length_le (by omega), List.take_of_length_le (by omega)] at het
        subst het
        clear hx hy
        go_wp2_with fail
        go_ret
        exact ⟨ret_bool (by simp), hBr⟩
  · have hd : decide (fs = gs) = false := by rw [decide_eq_false_iff_not]; intro h; subst h; omega
    rw [hd]
    have h1 : ((n : Int) != (m : Int)) = true := by rw [bne_iff_ne]; omega
    clear hd hne
    go_enter Try.func68, Try.ntmps68
    go_wp2_with fail
    go_ret
    exact ⟨rfl, hB⟩

