/- Rows of numbers (ints): whether they are the same; what a page may be. No condition. -/
import Derived.Test.YthkabhejfkekjaaBeRef
import Derived.Test.YthkabhejfkekjaaLib2
import Derived.Deep.QuietTactic
import Derived.BigQuiet
namespace Go.Proofs.Ythkabhejfkekjaa
open Go.RowKit

/-- Numbers as cells. -/
def is_ (ps : List Int) : List Value := ps.map (Value.int .i64 ·)
theorem is_length (ps : List Int) : (is_ ps).length = ps.length := by simp [is_]
abbrev RdI (w : World) (A : Option Addr) (n c : Nat) (ps : List Int) : Prop := Rd w A n c 1 (is_ ps)
theorem Rd.ilen {w : World} {A : Option Addr} {n c : Nat} {ps : List Int} (h : RdI w A n c ps) : ps.length = n := by
  have := h.len
  rw [is_length] at this; omega
theorem Rd.icell {w : World} {ad : Addr} {n c : Nat} {ps : List Int} (h : RdI w (some ad) n c ps) (i : Nat) (hi : i < ps.length) : w.cell? (ad.add i) = some (.int .i64 ps[i]) :=
  h.cell ad rfl i _ (by simp [is_, hi])
theorem take_succ_ofi {fs gs : List Int} {j : Nat} (h1 : j < fs.length) (h2 : j < gs.length) (h : fs.take j = gs.take j) (he : fs[j] = gs[j]) : fs.take (j + 1) = gs.take (j + 1) := by
  rw [List.take_succ_eq_append_getElem h1, List.take_succ_eq_append_getElem h2, h, he]
theorem ne_of_geti {fs gs : List Int} {j : Nat} (h1 : j < fs.length) (h2 : j < gs.length) (he : fs[j] ≠ gs[j]) : fs ≠ gs := by
  intro h; subst h; exact he rfl

set_option maxRecDepth 100000 in
set_option maxHeartbeats 4000000 in
theorem iequal_any (fs gs : List Int) (A B : Option Addr) (n c m k : Nat) (w : World) (hx : RdI w A n c fs) (hy : RdI w B m k gs) (hN : n ≤ 1000000) (hM : m ≤ 1000000) :
    Calls Try.prog 84 #[.slice A n c, .slice B m k] w fun e w' => e = .returned (.bool (decide (fs = gs))) ∧ Below w.heap.size w w' := by
  have hxl := hx.ilen
  have hyl := hy.ilen
  have hB := Below.refl w.heap.size w
  have hc1 := hx.cm
  have hc2 := hy.cm
  unfold maxLen at hc1 hc2
  by_cases hne : n = m
  · subst hne
    go_enter Try.func84, Try.ntmps84
    go_wp2_with fail
    go_loopw [13] (fun i wr => ∃ j : Nat, j ≤ n ∧ i = .int .i64 j ∧ fs.take j = gs.take j ∧ Below w.heap.size w wr) (fun i _ => n - (intOf i).toNat)
    case atStart => exact ⟨0, by omega, rfl, rfl, hB⟩
    case round =>
      obtain ⟨j, hj, rfl, het, hBr⟩ := hrel
      by_cases hlt : j < n
      · obtain ⟨ad, rfl⟩ := hx.some_of_pos (by omega)
        obtain ⟨bd, rfl⟩ := hy.some_of_pos (by omega)
        have e0 := (hx.below hBr).icell j (by omega)
        have g0 := (hy.below hBr).icell j (by omega)
        have HT := Lib.hid (take_succ_ofi (fs := fs) (gs := gs) (j := j) (by omega) (by omega) het)
        have HN := Lib.hid (ne_of_geti (fs := fs) (gs := gs) (j := j) (by omega) (by omega))
        have hq1 : (j : Int) < n := by omega
        clear het hx hy
        generalize fs[j] = f at *
        generalize gs[j] = g at *
        by_cases heq : f = g
        · subst heq
          have HT2 := Lib.hid (HT.out rfl)
          clear HT HN
          go_wp2_with fail
          go_quiet (fail)
          go_wp2_with fail
          go_roundw
          case rel => exact ⟨j + 1, by omega, by go_num, HT2.out, below_drewN hBr _⟩
          case measure => simp [intOf]; omega
        · have HN2 : Hid (decide (fs = gs) = false) := by
            show _ = _
            rw [decide_eq_false_iff_not]
            exact HN.out heq
          have b1 : (f == g) = false := by rw [beq_eq_false_iff_ne]; exact heq
          have b3 : decide (f = g) = false := by rw [decide_eq_false_iff_not]; exact heq
          clear HT HN
          go_wp2_with fail
          go_quiet (fail)
          go_wp2_with fail
          go_ret
          exact ⟨ret_bool HN2.out.symm, below_drewN hBr _⟩
      · obtain rfl : j = n := by omega
        rw [List.take_of_length_le (by omega), List.take_of_length_le (by omega)] at het
        subst het
        clear hx hy
        go_wp2_with fail
        go_ret
        exact ⟨ret_bool (by simp), hBr⟩
  · have hd : decide (fs = gs) = false := by rw [decide_eq_false_iff_not]; intro h; subst h; omega
    rw [hd]
    have h1 : ((n : Int) != (m : Int)) = true := by rw [bne_iff_ne]; omega
    clear hd hne
    go_enter Try.func84, Try.ntmps84
    go_wp2_with fail
    go_ret
    exact ⟨rfl, hB⟩

set_option maxRecDepth 100000 in
set_option maxHeartbeats 4000000 in
theorem refints_any (fs gs : List Int) (A B : Option Addr) (n c m k : Nat) (w : World) (hx : RdI w A n c fs) (hy : RdI w B m k gs) (hN : n ≤ 1000000) (hM : m ≤ 1000000) :
    Calls Try.prog 85 #[.slice A n c, .slice B m k] w fun e w' => e = .returned (.bool (decide (fs = gs))) ∧ Below w.heap.size w w' := by
  have hxl := hx.ilen
  have hyl := hy.ilen
  have hB := Below.refl w.heap.size w
  have hc1 := hx.cm
  have hc2 := hy.cm
  unfold maxLen at hc1 hc2
  by_cases hne : n = m
  · subst hne
    go_enter Try.func85, Try.ntmps85
    go_wp2_with fail
    go_loopw [5] (fun i wr => ∃ j : Nat, j ≤ n ∧ i = .int .i64 j ∧ fs.take j = gs.take j ∧ Below w.heap.size w wr) (fun i _ => n - (intOf i).toNat)
    case atStart => exact ⟨0, by omega, rfl, rfl, hB⟩
    case round =>
      obtain ⟨j, hj, rfl, het, hBr⟩ := hrel
      by_cases hlt : j < n
      · obtain ⟨ad, rfl⟩ := hx.some_of_pos (by omega)
        obtain ⟨bd, rfl⟩ := hy.some_of_pos (by omega)
        have e0 := (hx.below hBr).icell j (by omega)
        have g0 := (hy.below hBr).icell j (by omega)
        have HT := Lib.hid (take_succ_ofi (fs := fs) (gs := gs) (j := j) (by omega) (by omega) het)
        have HN := Lib.hid (ne_of_geti (fs := fs) (gs := gs) (j := j) (by omega) (by omega))
        have hq1 : (j : Int) < n := by omega
        clear het hx hy
        generalize fs[j] = f at *
        generalize gs[j] = g at *
        by_cases heq : f = g
        · subst heq
          have HT2 := Lib.hid (HT.out rfl)
          clear HT HN
          go_wp2_with fail
          go_quiet (fail)
          go_wp2_with fail
          go_roundw
          case rel => exact ⟨j + 1, by omega, by go_num, HT2.out, below_drewN hBr _⟩
          case measure => simp [intOf]; omega
        · have HN2 : Hid (decide (fs = gs) = false) := by
            show _ = _
            rw [decide_eq_false_iff_not]
            exact HN.out heq
          have b1 : (f == g) = false := by rw [beq_eq_false_iff_ne]; exact heq
          have b3 : decide (f = g) = false := by rw [decide_eq_false_iff_not]; exact heq
          clear HT HN
          go_wp2_with fail
          go_quiet (fail)
          go_wp2_with fail
          go_ret
          exact ⟨ret_bool HN2.out.symm, below_drewN hBr _⟩
      · obtain rfl : j = n := by omega
        rw [List.take_of_length_le (by omega), List.take_of_length_le (by omega)] at het
        subst het
        clear hx hy
        go_wp2_with fail
        go_ret
        exact ⟨ret_bool (by simp), hBr⟩
  · have hd : decide (fs = gs) = false := by rw [decide_eq_false_iff_not]; intro h; subst h; omega
    rw [hd]
    have h1 : ((n : Int) != (m : Int)) = true := by rw [bne_iff_ne]; omega
    clear hd hne
    go_enter Try.func85, Try.ntmps85
    go_wp2_with fail
    go_ret
    exact ⟨rfl, hB⟩

def pageOk (n : Int) : Bool := decide (1 ≤ n ∧ n ≤ 65535)
theorem page_any (n : Int) (w : World) :
    Calls Try.prog 83 #[.int .i64 n] w fun e w' => e = .returned (.bool (pageOk n)) ∧ w = w' := by
  have HP : Hid (pageOk n = (decide (1 ≤ n) && decide (n ≤ 65535))) := by show _ = _; unfold pageOk; rw [Bool.decide_and]
  generalize pageOk n = r at *
  rcases (by omega : n < 1 ∨ (1 ≤ n ∧ n ≤ 65535) ∨ (1 ≤ n ∧ 65535 < n)) with h | ⟨h, h2⟩ | ⟨h, h2⟩
  all_goals
    go_enter Try.func83, Try.ntmps83
    go_wp2
    go_ret
    exact ⟨ret_bool (by rw [HP.out]; simp; try omega), rfl⟩
end Go.Proofs.Ythkabhejfkekjaa
