/- Contract of meta.Check. No condition but the row's length. -/
import Derived.Test.YthkabhejfkekjaaMeta1
import Derived.Deep.DeepCutAuto
namespace Go.Proofs.Ythkabhejfkekjaa
open Go.RowKit

/-- A record as a value. -/
abbrev recV (id fi : Nat) (pr le : Int) (en : Nat) (pl : Bool) (lp : Int) (A : Option Addr) (n c : Nat) : Value := .agg #[.int .u64 (id : Int), .int .u64 (fi : Int), .int .i64 pr, .int .i64 le, .int .u64 (en : Int), .bool pl, .int .i64 lp, .slice A n c]
abbrev recCs (id fi : Nat) (pr le : Int) (en : Nat) (pl : Bool) (lp : Int) (A : Option Addr) (n c : Nat) : Array Value := #[.int .u64 (id : Int), .int .u64 (fi : Int), .int .i64 pr, .int .i64 le, .int .u64 (en : Int), .bool pl, .int .i64 lp, .slice A n c]
def headM (id fi : Nat) (pr le lp : Int) (n : Nat) : Bool := decide (id < 2147483648 ∧ fi < 2147483648 ∧ 0 ≤ pr ∧ pr ≤ 2 ∧ 1 ≤ le ∧ le ≤ 3192 ∧ (1 ≤ lp ∧ lp ≤ 65535) ∧ 1 ≤ n ∧ n ≤ 14)
def allP (ps : List Int) : Nat → Bool
  | 0 => true
  | j + 1 => allP ps j && pageOk (ps.getD j 0)
def mayM (id fi : Nat) (pr le lp : Int) (ps : List Int) : Bool := headM id fi pr le lp ps.length && allP ps ps.length
theorem rec_cells (w : World) (id fi : Nat) (pr le : Int) (en : Nat) (pl : Bool) (lp : Int) (A : Option Addr) (n c : Nat) (T : TypeId) :
    Below w.heap.size w (w.alloc (.cells (recCs id fi pr le en pl lp A n c) T)) ∧
    ((w.alloc (.cells (recCs id fi pr le en pl lp A n c) T)).cell? ⟨w.heap.size, 0, none⟩ = some (.int .u64 (id : Int)) ∧ (w.alloc (.cells (recCs id fi pr le en pl lp A n c) T)).cell? ⟨w.heap.size, 1, none⟩ = some (.int .u64 (fi : Int)) ∧ (w.alloc (.cells (recCs id fi pr le en pl lp A n c) T)).cell? ⟨w.heap.size, 2, none⟩ = some (.int .i64 pr) ∧ (w.alloc (.cells (recCs id fi pr le en pl lp A n c) T)).cell? ⟨w.heap.size, 3, none⟩ = some (.int .i64 le) ∧ (w.alloc (.cells (recCs id fi pr le en pl lp A n c) T)).cell? ⟨w.heap.size, 4, none⟩ = some (.int .u64 (en : Int)) ∧ (w.alloc (.cells (recCs id fi pr le en pl lp A n c) T)).cell? ⟨w.heap.size, 5, none⟩ = some (.bool pl) ∧ (w.alloc (.cells (recCs id fi pr le en pl lp A n c) T)).cell? ⟨w.heap.size, 6, none⟩ = some (.int .i64 lp) ∧ (w.alloc (.cells (recCs id fi pr le en pl lp A n c) T)).cell? ⟨w.heap.size, 7, none⟩ = some (.slice A n c)) := by
  obtain ⟨h, hc⟩ := one_cells w (recCs id fi pr le en pl lp A n c) T
  exact ⟨h, hc 0 _ rfl, hc 1 _ rfl, hc 2 _ rfl, hc 3 _ rfl, hc 4 _ rfl, hc 5 _ rfl, hc 6 _ rfl, hc 7 _ rfl⟩

set_option maxRecDepth 100000 in
set_option maxHeartbeats 4000000 in
theorem mcheck_any (id fi : Nat) (pr le : Int) (en : Nat) (pl : Bool) (lp : Int) (ps : List Int) (A : Option Addr) (n c : Nat) (w : World) (hx : RdI w A n c ps) (hn : n ≤ 1000000) :
    Calls Try.prog 64 #[recV id fi pr le en pl lp A n c] w fun e w' => e = .returned (.int .i64 (if mayM id fi pr le lp ps then 0 else 3)) ∧ Below w.heap.size w w' := by
  obtain ⟨hB, c0, c1, c2, c3, c4, c5, c6, c7⟩ := rec_cells w id fi pr le en pl lp A n c 91
  have hxl := hx.ilen
  have hcm := hx.cm
  have hnc := hx.nc
  unfold maxLen at hcm
  replace hx := hx.below hB
  have HM : Hid (mayM id fi pr le lp ps = (headM id fi pr le lp n && allP ps n)) := by show _ = _; unfold mayM; rw [hxl]
  have HH : Hid (headM id fi pr le lp n = decide (id < 2147483648 ∧ fi < 2147483648 ∧ 0 ≤ pr ∧ pr ≤ 2 ∧ 1 ≤ le ∧ le ≤ 3192 ∧ (1 ≤ lp ∧ lp ≤ 65535) ∧ 1 ≤ n ∧ n ≤ 14)) := rfl
  have KL := Lib.hid (page_any lp)
  generalize mayM id fi pr le lp ps = rr at *
  generalize headM id fi pr le lp n = hh at *
  go_enter Try.func64, Try.ntmps64
  go_upto_region 2 with fail
  generalize w.alloc (.cells (recCs id fi pr le en pl lp A n c) 91) = w0 at *
  obtain ⟨idI, hidI⟩ : ∃ x : Int, (id : Int) = x := ⟨_, rfl⟩
  obtain ⟨fiI, hfiI⟩ : ∃ x : Int, (fi : Int) = x := ⟨_, rfl⟩
  rw [hidI] at c0
  rw [hfiI] at c1
  have HI1 := Lib.hid hidI
  have HI2 := Lib.hid hfiI
  clear hidI hfiI
  go_cut [4] (fun s4 wx => s4 = .bool hh ∧ wx = w0)
  case first =>
    have hcase : 2147483648 ≤ id ∨ (id < 2147483648 ∧ 2147483648 ≤ fi) ∨ (id < 2147483648 ∧ fi < 2147483648) := by omega
    rcases hcase with h1 | ⟨h1, h2⟩ | ⟨h1, h2⟩
    · obtain rfl : hh = false := by rw [HH.out, decide_eq_false_iff_not]; omega
      have k1 : decide (idI < 2147483648) = false := by rw [decide_eq_false_iff_not]; have := HI1.out; omega
      clear h1 HH HM
      go_wp2_with fail
      go_meet
      exact ⟨by simp, rfl⟩
    · obtain rfl : hh = false := by rw [HH.out, decide_eq_false_iff_not]; omega
      have k1 : decide (idI < 2147483648) = true := by rw [decide_eq_true_iff]; have := HI1.out; omega
      have k2 : decide (fiI < 2147483648) = false := by rw [decide_eq_false_iff_not]; have := HI2.out; omega
      clear h1 h2 HH HM
      go_wp2_with fail
      go_meet
      exact ⟨by simp, rfl⟩
    · have k1 : decide (idI < 2147483648) = true := by rw [decide_eq_true_iff]; have := HI1.out; omega
      have k2 : decide (fiI < 2147483648) = true := by rw [decide_eq_true_iff]; have := HI2.out; omega
      have HH2 : Hid (hh = decide (0 ≤ pr ∧ pr ≤ 2 ∧ 1 ≤ le ∧ le ≤ 3192 ∧ (1 ≤ lp ∧ lp ≤ 65535) ∧ 1 ≤ n ∧ n ≤ 14)) := by
        show _ = _
        rw [HH.out, decide_eq_decide]; omega
      clear h1 h2 HH HM
      rcases (by omega : pr < 0 ∨ (0 ≤ pr ∧ 2 < pr) ∨ (0 ≤ pr ∧ pr ≤ 2 ∧ le < 1) ∨ (0 ≤ pr ∧ pr ≤ 2 ∧ 1 ≤ le ∧ 3192 < le) ∨ (0 ≤ pr ∧ pr ≤ 2 ∧ 1 ≤ le ∧ le ≤ 3192 ∧ ¬ (1 ≤ lp ∧ lp ≤ 65535)) ∨ (0 ≤ pr ∧ pr ≤ 2 ∧ 1 ≤ le ∧ le ≤ 3192 ∧ (1 ≤ lp ∧ lp ≤ 65535) ∧ n < 1) ∨ (0 ≤ pr ∧ pr ≤ 2 ∧ 1 ≤ le ∧ le ≤ 3192 ∧ (1 ≤ lp ∧ lp ≤ 65535) ∧ 1 ≤ n ∧ 14 < n) ∨ (0 ≤ pr ∧ pr ≤ 2 ∧ 1 ≤ le ∧ le ≤ 3192 ∧ (1 ≤ lp ∧ lp ≤ 65535) ∧ 1 ≤ n ∧ n ≤ 14)) with g1 | ⟨g1, g2⟩ | ⟨g1, g2, g3⟩ | ⟨g1, g2, g3, g4⟩ | ⟨g1, g2, g3, g4, g5⟩ | ⟨g1, g2, g3, g4, g5, g6⟩ | ⟨g1, g2, g3, g4, g5, g6, g7⟩ | ⟨g1, g2, g3, g4, g5, g6, g7⟩
      · have hv : hh = false := by rw [HH2.out, decide_eq_false_iff_not]; omega
        subst hv
        clear HH2
        go_wp2_with (go_at_call 83; refine (KL.out _).mono ?_; rintro e w' ⟨rfl, rfl⟩; rw [hpg])
        go_meet
        exact ⟨by simp; try omega, rfl⟩
      · have hv : hh = false := by rw [HH2.out, decide_eq_false_iff_not]; omega
        subst hv
        clear HH2
        go_wp2_with (go_at_call 83; refine (KL.out _).mono ?_; rintro e w' ⟨rfl, rfl⟩; rw [hpg])
        go_meet
        exact ⟨by simp; try omega, rfl⟩
      · have hv : hh = false := by rw [HH2.out, decide_eq_false_iff_not]; omega
        subst hv
        clear HH2
        go_wp2_with (go_at_call 83; refine (KL.out _).mono ?_; rintro e w' ⟨rfl, rfl⟩; rw [hpg])
        go_meet
        exact ⟨by simp; try omega, rfl⟩
      · have hv : hh = false := by rw [HH2.out, decide_eq_false_iff_not]; omega
        subst hv
        clear HH2
        go_wp2_with (go_at_call 83; refine (KL.out _).mono ?_; rintro e w' ⟨rfl, rfl⟩; rw [hpg])
        go_meet
        exact ⟨by simp; try omega, rfl⟩
      · have hv : hh = false := by rw [HH2.out, decide_eq_false_iff_not]; omega
        subst hv
        clear HH2
        have hpg : pageOk lp = false := by unfold pageOk; rw [decide_eq_false_iff_not]; exact g5
        go_wp2_with (go_at_call 83; refine (KL.out _).mono ?_; rintro e w' ⟨rfl, rfl⟩; rw [hpg])
        go_meet
        exact ⟨by simp; try omega, rfl⟩
      · have hv : hh = false := by rw [HH2.out, decide_eq_false_iff_not]; omega
        subst hv
        clear HH2
        have hpg : pageOk lp = true := by unfold pageOk; rw [decide_eq_true_iff]; exact g5
        go_wp2_with (go_at_call 83; refine (KL.out _).mono ?_; rintro e w' ⟨rfl, rfl⟩; rw [hpg])
        go_meet
        exact ⟨by simp; try omega, rfl⟩
      · have hv : hh = false := by rw [HH2.out, decide_eq_false_iff_not]; omega
        subst hv
        clear HH2
        have hpg : pageOk lp = true := by unfold pageOk; rw [decide_eq_true_iff]; exact g5
        go_wp2_with (go_at_call 83; refine (KL.out _).mono ?_; rintro e w' ⟨rfl, rfl⟩; rw [hpg])
        go_meet
        exact ⟨by simp; try omega, rfl⟩
      · have hv : hh = true := by rw [HH2.out, decide_eq_true_iff]; omega
        subst hv
        clear HH2
        have hpg : pageOk lp = true := by unfold pageOk; rw [decide_eq_true_iff]; exact g5
        go_wp2_with (go_at_call 83; refine (KL.out _).mono ?_; rintro e w' ⟨rfl, rfl⟩; rw [hpg])
        go_meet
        exact ⟨by simp; try omega, rfl⟩
  obtain ⟨rfl, rfl⟩ := hcut
  clear c0 c1 c2 c3 c4 c5 c6 KL HH
  go_wp2_with fail
  go_loopw [4, 56] (fun s i wr => ∃ j : Nat, j ≤ n ∧ i = .int .i64 j ∧ s = .bool (hh && allP ps j) ∧ Below wc.heap.size wc wr) (fun _ i _ => n - (intOf i).toNat)
  case atStart => exact ⟨0, by omega, rfl, by simp [allP], Below.refl _ _⟩
  case round =>
    obtain ⟨j, hj, rfl, rfl, hBr⟩ := hrel
    by_cases hlt : j < n
    · obtain ⟨ad, rfl⟩ := hx.some_of_pos (by omega)
      have e0 := (hx.below hBr).icell j (by omega)
      have hgd : ps.getD j 0 = ps[j]'(by omega) := by rw [List.getD_eq_getElem?_getD, List.getElem?_eq_getElem (by omega)]; rfl
      have hst : Hid (allP ps (j + 1) = (allP ps j && pageOk (ps[j]'(by omega)))) := by show _ = _; rw [allP, hgd]
      have KG := Lib.hid (page_any (ps[j]'(by omega)))
      have hjl : (j : Int) < n := by omega
      clear hgd hx c7
      generalize ps[j]'(by omega) = pg at *
      cases hcur : (hh && allP ps j) with
      | false =>
        have hnx : Hid ((hh && allP ps (j + 1)) = false) := by show _ = _; rw [hst.out, ← Bool.and_assoc, hcur]; rfl
        clear hst HM
        go_wp2_with fail
        go_roundw
        case rel => exact ⟨j + 1, by omega, by go_num, by rw [hnx.out], hBr⟩
        case measure => simp [intOf]; omega
      | true =>
        have hnx : Hid ((hh && allP ps (j + 1)) = pageOk pg) := by show _ = _; rw [hst.out, ← Bool.and_assoc, hcur]; rfl
        clear hst HM
        generalize pageOk pg = pb at *
        go_wp2_with (go_at_call 83; refine (KG.out _).mono ?_; rintro e w' ⟨rfl, rfl⟩)
        go_roundw
        case rel => exact ⟨j + 1, by omega, by go_num, by rw [hnx.out], hBr⟩
        case measure => simp [intOf]; omega
    · obtain rfl : j = n := by omega
      have hr := HM.out
      clear hx HM c7
      cases hcur : (hh && allP ps j) with
      | false =>
        obtain rfl : rr = false := hr.trans hcur
        clear hr hcur
        go_wp2_with fail
        go_ret
        exact ⟨by simp, hB.trans (below_of hBr hB.size)⟩
      | true =>
        obtain rfl : rr = true := hr.trans hcur
        clear hr hcur
        go_wp2_with fail
        go_ret
        exact ⟨by simp, hB.trans (below_of hBr hB.size)⟩
end Go.Proofs.Ythkabhejfkekjaa
