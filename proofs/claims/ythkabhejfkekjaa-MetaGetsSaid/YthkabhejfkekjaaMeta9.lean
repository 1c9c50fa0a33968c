/- Contract of the reference's May of a record. No condition but the row's length. -/
import Derived.Test.YthkabhejfkekjaaMeta3
namespace Go.Proofs.Ythkabhejfkekjaa
open Go.RowKit

theorem allP_le (ps : List Int) : ∀ n j, j ≤ n → allP ps j = false → allP ps n = false
  | 0, j, h, hf => by obtain rfl : j = 0 := by omega
                      exact hf
  | n + 1, j, h, hf => by
    by_cases hj : j = n + 1
    · subst hj; exact hf
    · rw [allP, allP_le ps n j (by omega) hf]; rfl

set_option maxRecDepth 100000 in
set_option maxHeartbeats 4000000 in
theorem refmay26_any (id fi : Nat) (pr le : Int) (en : Nat) (pl : Bool) (lp : Int) (ps : List Int) (A : Option Addr) (n c : Nat) (w : World) (hx : RdI w A n c ps) (hn : n ≤ 1000000) :
    Calls Try.prog 63 #[recV id fi pr le en pl lp A n c] w fun e w' => e = .returned (.bool (mayM id fi pr le lp ps)) ∧ Below w.heap.size w w' := by
  obtain ⟨hB, c0, c1, c2, c3, c4, c5, c6, c7⟩ := rec_cells w id fi pr le en pl lp A n c 91
  have hxl := hx.ilen
  have hcm := hx.cm
  have hnc := hx.nc
  unfold maxLen at hcm
  replace hx := hx.below hB
  have HM : Hid (mayM id fi pr le lp ps = (headM id fi pr le lp n && allP ps n)) := by show _ = _; unfold mayM; rw [hxl]
  have HH : Hid (headM id fi pr le lp n = decide (id < 2147483648 ∧ fi < 2147483648 ∧ 0 ≤ pr ∧ pr ≤ 2 ∧ 1 ≤ le ∧ le ≤ 3192 ∧ (1 ≤ lp ∧ lp ≤ 65535) ∧ 1 ≤ n ∧ n ≤ 14)) := rfl
  have HF : Hid (headM id fi pr le lp n = false → mayM id fi pr le lp ps = false) := fun h => by rw [HM.out, h]; rfl
  have HT : Hid (headM id fi pr le lp n = true → mayM id fi pr le lp ps = allP ps n) := fun h => by rw [HM.out, h]; rfl
  generalize mayM id fi pr le lp ps = rr at *
  generalize headM id fi pr le lp n = hh at *
  clear HM
  rcases (by omega : 2147483648 ≤ id ∨ (id < 2147483648 ∧ 2147483648 ≤ fi) ∨ (id < 2147483648 ∧ fi < 2147483648)) with h1 | ⟨h1, h2⟩ | ⟨h1, h2⟩
  · have hr : rr = false := HF.out (by rw [HH.out, decide_eq_false_iff_not]; omega)
    subst hr
    have k1 : decide ((2147483648 : Int) ≤ id) = true := by rw [decide_eq_true_iff]; omega
    clear HF HT HH h1
    go_enter Try.func63, Try.ntmps63
    go_wp2_with fail
    go_ret
    exact ⟨rfl, hB⟩
  · have hr : rr = false := HF.out (by rw [HH.out, decide_eq_false_iff_not]; omega)
    subst hr
    have k1 : decide ((2147483648 : Int) ≤ id) = false := by rw [decide_eq_false_iff_not]; omega
    have k2 : decide ((2147483648 : Int) ≤ fi) = true := by rw [decide_eq_true_iff]; omega
    clear HF HT HH h1 h2
    go_enter Try.func63, Try.ntmps63
    go_wp2_with fail
    go_ret
    exact ⟨rfl, hB⟩
  · have k1 : decide ((2147483648 : Int) ≤ id) = false := by rw [decide_eq_false_iff_not]; omega
    have k2 : decide ((2147483648 : Int) ≤ fi) = false := by rw [decide_eq_false_iff_not]; omega
    rcases (by omega : (pr < 0) ∨ (0 ≤ pr ∧ 2 < pr) ∨ (0 ≤ pr ∧ pr ≤ 2 ∧ le < 1) ∨ (0 ≤ pr ∧ pr ≤ 2 ∧ 1 ≤ le ∧ 3192 < le) ∨ (0 ≤ pr ∧ pr ≤ 2 ∧ 1 ≤ le ∧ le ≤ 3192 ∧ lp < 1) ∨ (0 ≤ pr ∧ pr ≤ 2 ∧ 1 ≤ le ∧ le ≤ 3192 ∧ 1 ≤ lp ∧ 65535 < lp) ∨ (0 ≤ pr ∧ pr ≤ 2 ∧ 1 ≤ le ∧ le ≤ 3192 ∧ 1 ≤ lp ∧ lp ≤ 65535 ∧ (n : Int) < 1) ∨ (0 ≤ pr ∧ pr ≤ 2 ∧ 1 ≤ le ∧ le ≤ 3192 ∧ 1 ≤ lp ∧ lp ≤ 65535 ∧ (1 : Int) ≤ n ∧ (14 : Int) < n) ∨ (0 ≤ pr ∧ pr ≤ 2 ∧ 1 ≤ le ∧ le ≤ 3192 ∧ 1 ≤ lp ∧ lp ≤ 65535 ∧ (1 : Int) ≤ n ∧ (n : Int) ≤ 14)) with g0 | ⟨g0, g1⟩ | ⟨g0, g1, g2⟩ | ⟨g0, g1, g2, g3⟩ | ⟨g0, g1, g2, g3, g4⟩ | ⟨g0, g1, g2, g3, g4, g5⟩ | ⟨g0, g1, g2, g3, g4, g5, g6⟩ | ⟨g0, g1, g2, g3, g4, g5, g6, g7⟩ | ⟨g0, g1, g2, g3, g4, g5, g6, g7⟩
    · have hr : rr = false := HF.out (by rw [HH.out, decide_eq_false_iff_not]; omega)
      subst hr
      clear HF HT HH h1 h2
      go_enter Try.func63, Try.ntmps63
      go_wp2_with fail
      go_ret
      exact ⟨rfl, hB⟩
    · have hr : rr = false := HF.out (by rw [HH.out, decide_eq_false_iff_not]; omega)
      subst hr
      clear HF HT HH h1 h2
      go_enter Try.func63, Try.ntmps63
      go_wp2_with fail
      go_ret
      exact ⟨rfl, hB⟩
    · have hr : rr = false := HF.out (by rw [HH.out, decide_eq_false_iff_not]; omega)
      subst hr
      clear HF HT HH h1 h2
      go_enter Try.func63, Try.ntmps63
      go_wp2_with fail
      go_ret
      exact ⟨rfl, hB⟩
    · have hr : rr = false := HF.out (by rw [HH.out, decide_eq_false_iff_not]; omega)
      subst hr
      clear HF HT HH h1 h2
      go_enter Try.func63, Try.ntmps63
      go_wp2_with fail
      go_ret
      exact ⟨rfl, hB⟩
    · have hr : rr = false := HF.out (by rw [HH.out, decide_eq_false_iff_not]; omega)
      subst hr
      clear HF HT HH h1 h2
      go_enter Try.func63, Try.ntmps63
      go_wp2_with fail
      go_ret
      exact ⟨rfl, hB⟩
    · have hr : rr = false := HF.out (by rw [HH.out, decide_eq_false_iff_not]; omega)
      subst hr
      clear HF HT HH h1 h2
      go_enter Try.func63, Try.ntmps63
      go_wp2_with fail
      go_ret
      exact ⟨rfl, hB⟩
    · have hr : rr = false := HF.out (by rw [HH.out, decide_eq_false_iff_not]; omega)
      subst hr
      clear HF HT HH h1 h2
      go_enter Try.func63, Try.ntmps63
      go_wp2_with fail
      go_ret
      exact ⟨rfl, hB⟩
    · have hr : rr = false := HF.out (by rw [HH.out, decide_eq_false_iff_not]; omega)
      subst hr
      clear HF HT HH h1 h2
      go_enter Try.func63, Try.ntmps63
      go_wp2_with fail
      go_ret
      exact ⟨rfl, hB⟩
    · have hr : rr = allP ps n := HT.out (by rw [HH.out, decide_eq_true_iff]; omega)
      clear HF HT HH h1 h2
      go_enter Try.func63, Try.ntmps63
      go_wp2_with fail
      generalize w.alloc (.cells (recCs id fi pr le en pl lp A n c) 91) = w0 at *
      have HR := Lib.hid hr
      clear hr
      go_loopw [3] (fun i wr => ∃ j : Nat, j ≤ n ∧ i = .int .i64 j ∧ allP ps j = true ∧ wr = w0) (fun i _ => n - (intOf i).toNat)
      case atStart => exact ⟨0, by omega, rfl, rfl, rfl⟩
      case round =>
        obtain ⟨j, hj, rfl, hall, rfl⟩ := hrel
        by_cases hlt : j < n
        · obtain ⟨ad, rfl⟩ := hx.some_of_pos (by omega)
          have e0 := hx.icell j (by omega)
          have hgd : ps.getD j 0 = ps[j]'(by omega) := by rw [List.getD_eq_getElem?_getD, List.getElem?_eq_getElem (by omega)]; rfl
          have hst : Hid (allP ps (j + 1) = pageOk (ps[j]'(by omega))) := by show _ = _; rw [allP, hgd, hall]; rfl
          have hjl : (j : Int) < n := by omega
          have HLE : Hid (allP ps (j + 1) = false → allP ps n = false) := fun h => allP_le ps n (j + 1) (by omega) h
          clear hgd hx hall
          generalize ps[j]'(by omega) = pg at *
          rcases (by omega : pg < 1 ∨ (1 ≤ pg ∧ 65535 < pg) ∨ (1 ≤ pg ∧ pg ≤ 65535)) with p1 | ⟨p1, p2⟩ | ⟨p1, p2⟩
          · have hrf : rr = false := by rw [HR.out]; exact HLE.out (by rw [hst.out]; unfold pageOk; rw [decide_eq_false_iff_not]; omega)
            subst hrf
            clear hst HLE HR
            go_wp2_with fail
            go_ret
            exact ⟨rfl, hB⟩
          · have hrf : rr = false := by rw [HR.out]; exact HLE.out (by rw [hst.out]; unfold pageOk; rw [decide_eq_false_iff_not]; omega)
            subst hrf
            clear hst HLE HR
            go_wp2_with fail
            go_ret
            exact ⟨rfl, hB⟩
          · have hnx : Hid (allP ps (j + 1) = true) := by show _ = _; rw [hst.out]; unfold pageOk; rw [decide_eq_true_iff]; omega
            clear hst HLE HR
            go_wp2_with fail
            go_roundw
            case rel => exact ⟨j + 1, by omega, by go_num, hnx.out, by trivial⟩
            case measure => simp [intOf]; omega
        · obtain rfl : j = n := by omega
          have hrt : rr = true := HR.out.trans hall
          subst hrt
          clear HR hall hx
          go_wp2_with fail
          go_ret
          exact ⟨rfl, hB⟩
end Go.Proofs.Ythkabhejfkekjaa
