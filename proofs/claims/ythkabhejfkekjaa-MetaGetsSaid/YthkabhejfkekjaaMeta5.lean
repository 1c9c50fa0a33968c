/- Contracts: whether two records are the same (meta.Same, the reference's). No condition but the rows' lengths. -/
import Derived.Test.YthkabhejfkekjaaMeta2
import Derived.Deep.DeepCutAuto
namespace Go.Proofs.Ythkabhejfkekjaa
open Go.RowKit

def sameM (id fi : Nat) (pr le : Int) (en : Nat) (pl : Bool) (lp : Int) (ps : List Int) (id2 fi2 : Nat) (pr2 le2 : Int) (en2 : Nat) (pl2 : Bool) (lp2 : Int) (qs : List Int) : Bool := decide (id = id2 ∧ fi = fi2 ∧ pr = pr2 ∧ le = le2 ∧ en = en2 ∧ pl = pl2 ∧ lp = lp2 ∧ ps = qs)
theorem rec_cells2 (w : World) (cs ds : Array Value) (T : TypeId) (h : ds.size = 8) :
    Below w.heap.size w ((w.alloc (.cells cs T)).alloc (.cells ds T)) ∧ (∀ o v, cs[o]? = some v → ((w.alloc (.cells cs T)).alloc (.cells ds T)).cell? ⟨w.heap.size, o, none⟩ = some v) ∧ (∀ o v, ds[o]? = some v → ((w.alloc (.cells cs T)).alloc (.cells ds T)).cell? ⟨w.heap.size + 1, o, none⟩ = some v) := two_cells w cs ds T T

set_option maxRecDepth 100000 in
set_option maxHeartbeats 4000000 in
theorem msame_any (id fi : Nat) (pr le : Int) (en : Nat) (pl : Bool) (lp : Int) (ps : List Int) (id2 fi2 : Nat) (pr2 le2 : Int) (en2 : Nat) (pl2 : Bool) (lp2 : Int) (qs : List Int) (A B : Option Addr) (n c m k : Nat) (w : World) (hx : RdI w A n c ps) (hy : RdI w B m k qs) (hN : n ≤ 1000000) (hM : m ≤ 1000000) :
    Calls Try.prog 65 #[recV id fi pr le en pl lp A n c, recV id2 fi2 pr2 le2 en2 pl2 lp2 B m k] w fun e w' => e = .returned (.bool (sameM id fi pr le en pl lp ps id2 fi2 pr2 le2 en2 pl2 lp2 qs)) ∧ Below w.heap.size w w' := by
  obtain ⟨hB, hca, hcb⟩ := rec_cells2 w (recCs id fi pr le en pl lp A n c) (recCs id2 fi2 pr2 le2 en2 pl2 lp2 B m k) 91 rfl
  have a0 := hca 0 (.int .u64 (id : Int)) rfl
  have a1 := hca 1 (.int .u64 (fi : Int)) rfl
  have a2 := hca 2 (.int .i64 pr) rfl
  have a3 := hca 3 (.int .i64 le) rfl
  have a4 := hca 4 (.int .u64 (en : Int)) rfl
  have a5 := hca 5 (.bool pl) rfl
  have a6 := hca 6 (.int .i64 lp) rfl
  have a7 := hca 7 (.slice A n c) rfl
  have b0 := hcb 0 (.int .u64 (id2 : Int)) rfl
  have b1 := hcb 1 (.int .u64 (fi2 : Int)) rfl
  have b2 := hcb 2 (.int .i64 pr2) rfl
  have b3 := hcb 3 (.int .i64 le2) rfl
  have b4 := hcb 4 (.int .u64 (en2 : Int)) rfl
  have b5 := hcb 5 (.bool pl2) rfl
  have b6 := hcb 6 (.int .i64 lp2) rfl
  have b7 := hcb 7 (.slice B m k) rfl
  have hc1 := hx.cm
  have hc2 := hy.cm
  unfold maxLen at hc1 hc2
  have KI := fun W h1 h2 => Lib.hid (iequal_any ps qs A B n c m k W h1 h2 hN hM)
  have HS : Hid (sameM id fi pr le en pl lp ps id2 fi2 pr2 le2 en2 pl2 lp2 qs = decide (id = id2 ∧ fi = fi2 ∧ pr = pr2 ∧ le = le2 ∧ en = en2 ∧ pl = pl2 ∧ lp = lp2 ∧ ps = qs)) := rfl
  generalize sameM id fi pr le en pl lp ps id2 fi2 pr2 le2 en2 pl2 lp2 qs = r at *
  replace hx := hx.below hB
  replace hy := hy.below hB
  clear hca hcb
  go_enter Try.func65, Try.ntmps65
  go_upto_region 1 with fail
  generalize (w.alloc (.cells (recCs id fi pr le en pl lp A n c) 91)).alloc (.cells (recCs id2 fi2 pr2 le2 en2 pl2 lp2 B m k) 91) = w0 at *
  by_cases q : ps = qs
  · subst q
    by_cases q : id = id2
    · subst q
      by_cases q : fi = fi2
      · subst q
        by_cases q : pr = pr2
        · subst q
          by_cases q : le = le2
          · subst q
            by_cases q : en = en2
            · subst q
              by_cases q : pl = pl2
              · subst q
                by_cases q : lp = lp2
                · subst q
                  have hr : r = true := by rw [HS.out]; simp
                  subst hr
                  clear HS
                  have hp : decide (ps = ps) = true := by simp
                  go_wp2_with (go_at_call 84; refine (KI _ hx hy).out.mono ?_; rintro e w2 ⟨rfl, hb⟩; rw [hp]; replace hB := below_trans hB hb; replace a0 := cell_below hb a0; replace b0 := cell_below hb b0; replace a1 := cell_below hb a1; replace b1 := cell_below hb b1; replace a2 := cell_below hb a2; replace b2 := cell_below hb b2; replace a3 := cell_below hb a3; replace b3 := cell_below hb b3; replace a4 := cell_below hb a4; replace b4 := cell_below hb b4; replace a5 := cell_below hb a5; replace b5 := cell_below hb b5; replace a6 := cell_below hb a6; replace b6 := cell_below hb b6; replace a7 := cell_below hb a7; replace b7 := cell_below hb b7)
                  go_ret
                  exact ⟨ret_bool (by simp), hB⟩
                · have hr : r = false := by rw [HS.out, decide_eq_false_iff_not]; intro h; exact q (by simp_all)
                  subst hr
                  clear HS
                  have n1 : (lp == lp2) = false := by rw [beq_eq_false_iff_ne]; exact q
                  have n3 : decide (lp = lp2) = false := by rw [decide_eq_false_iff_not]; exact q
                  have hp : decide (ps = ps) = true := by simp
                  go_wp2_with (go_at_call 84; refine (KI _ hx hy).out.mono ?_; rintro e w2 ⟨rfl, hb⟩; rw [hp]; replace hB := below_trans hB hb; replace a0 := cell_below hb a0; replace b0 := cell_below hb b0; replace a1 := cell_below hb a1; replace b1 := cell_below hb b1; replace a2 := cell_below hb a2; replace b2 := cell_below hb b2; replace a3 := cell_below hb a3; replace b3 := cell_below hb b3; replace a4 := cell_below hb a4; replace b4 := cell_below hb b4; replace a5 := cell_below hb a5; replace b5 := cell_below hb b5; replace a6 := cell_below hb a6; replace b6 := cell_below hb b6; replace a7 := cell_below hb a7; replace b7 := cell_below hb b7)
                  go_ret
                  exact ⟨ret_bool (by simp), hB⟩
              · have hr : r = false := by rw [HS.out, decide_eq_false_iff_not]; intro h; exact q (by simp_all)
                subst hr
                clear HS
                have n1 : (pl == pl2) = false := by cases pl <;> cases pl2 <;> simp_all
                have n3 : decide (pl = pl2) = false := by rw [decide_eq_false_iff_not]; exact q
                have hp : decide (ps = ps) = true := by simp
                go_wp2_with (go_at_call 84; refine (KI _ hx hy).out.mono ?_; rintro e w2 ⟨rfl, hb⟩; rw [hp]; replace hB := below_trans hB hb; replace a0 := cell_below hb a0; replace b0 := cell_below hb b0; replace a1 := cell_below hb a1; replace b1 := cell_below hb b1; replace a2 := cell_below hb a2; replace b2 := cell_below hb b2; replace a3 := cell_below hb a3; replace b3 := cell_below hb b3; replace a4 := cell_below hb a4; replace b4 := cell_below hb b4; replace a5 := cell_below hb a5; replace b5 := cell_below hb b5; replace a6 := cell_below hb a6; replace b6 := cell_below hb b6; replace a7 := cell_below hb a7; replace b7 := cell_below hb b7)
                go_ret
                exact ⟨ret_bool (by simp), hB⟩
            · have hr : r = false := by rw [HS.out, decide_eq_false_iff_not]; intro h; exact q (by simp_all)
              subst hr
              clear HS
              have n1 : ((en : Int) == en2) = false := by rw [beq_eq_false_iff_ne]; omega
              have n2 : ¬ ((en : Int) = en2) := by omega
              have n3 : decide ((en : Int) = en2) = false := by rw [decide_eq_false_iff_not]; omega
              have hp : decide (ps = ps) = true := by simp
              go_wp2_with (go_at_call 84; refine (KI _ hx hy).out.mono ?_; rintro e w2 ⟨rfl, hb⟩; rw [hp]; replace hB := below_trans hB hb; replace a0 := cell_below hb a0; replace b0 := cell_below hb b0; replace a1 := cell_below hb a1; replace b1 := cell_below hb b1; replace a2 := cell_below hb a2; replace b2 := cell_below hb b2; replace a3 := cell_below hb a3; replace b3 := cell_below hb b3; replace a4 := cell_below hb a4; replace b4 := cell_below hb b4; replace a5 := cell_below hb a5; replace b5 := cell_below hb b5; replace a6 := cell_below hb a6; replace b6 := cell_below hb b6; replace a7 := cell_below hb a7; replace b7 := cell_below hb b7)
              go_ret
              exact ⟨ret_bool (by simp), hB⟩
          · have hr : r = false := by rw [HS.out, decide_eq_false_iff_not]; intro h; exact q (by simp_all)
            subst hr
            clear HS
            have n1 : (le == le2) = false := by rw [beq_eq_false_iff_ne]; exact q
            have n3 : decide (le = le2) = false := by rw [decide_eq_false_iff_not]; exact q
            have hp : decide (ps = ps) = true := by simp
            go_wp2_with (go_at_call 84; refine (KI _ hx hy).out.mono ?_; rintro e w2 ⟨rfl, hb⟩; rw [hp]; replace hB := below_trans hB hb; replace a0 := cell_below hb a0; replace b0 := cell_below hb b0; replace a1 := cell_below hb a1; replace b1 := cell_below hb b1; replace a2 := cell_below hb a2; replace b2 := cell_below hb b2; replace a3 := cell_below hb a3; replace b3 := cell_below hb b3; replace a4 := cell_below hb a4; replace b4 := cell_below hb b4; replace a5 := cell_below hb a5; replace b5 := cell_below hb b5; replace a6 := cell_below hb a6; replace b6 := cell_below hb b6; replace a7 := cell_below hb a7; replace b7 := cell_below hb b7)
            go_ret
            exact ⟨ret_bool (by simp), hB⟩
        · have hr : r = false := by rw [HS.out, decide_eq_false_iff_not]; intro h; exact q (by simp_all)
          subst hr
          clear HS
          have n1 : (pr == pr2) = false := by rw [beq_eq_false_iff_ne]; exact q
          have n3 : decide (pr = pr2) = false := by rw [decide_eq_false_iff_not]; exact q
          have hp : decide (ps = ps) = true := by simp
          go_wp2_with (go_at_call 84; refine (KI _ hx hy).out.mono ?_; rintro e w2 ⟨rfl, hb⟩; rw [hp]; replace hB := below_trans hB hb; replace a0 := cell_below hb a0; replace b0 := cell_below hb b0; replace a1 := cell_below hb a1; replace b1 := cell_below hb b1; replace a2 := cell_below hb a2; replace b2 := cell_below hb b2; replace a3 := cell_below hb a3; replace b3 := cell_below hb b3; replace a4 := cell_below hb a4; replace b4 := cell_below hb b4; replace a5 := cell_below hb a5; replace b5 := cell_below hb b5; replace a6 := cell_below hb a6; replace b6 := cell_below hb b6; replace a7 := cell_below hb a7; replace b7 := cell_below hb b7)
          go_ret
          exact ⟨ret_bool (by simp), hB⟩
      · have hr : r = false := by rw [HS.out, decide_eq_false_iff_not]; intro h; exact q (by simp_all)
        subst hr
        clear HS
        have n1 : ((fi : Int) == fi2) = false := by rw [beq_eq_false_iff_ne]; omega
        have n2 : ¬ ((fi : Int) = fi2) := by omega
        have n3 : decide ((fi : Int) = fi2) = false := by rw [decide_eq_false_iff_not]; omega
        have hp : decide (ps = ps) = true := by simp
        go_wp2_with (go_at_call 84; refine (KI _ hx hy).out.mono ?_; rintro e w2 ⟨rfl, hb⟩; rw [hp]; replace hB := below_trans hB hb; replace a0 := cell_below hb a0; replace b0 := cell_below hb b0; replace a1 := cell_below hb a1; replace b1 := cell_below hb b1; replace a2 := cell_below hb a2; replace b2 := cell_below hb b2; replace a3 := cell_below hb a3; replace b3 := cell_below hb b3; replace a4 := cell_below hb a4; replace b4 := cell_below hb b4; replace a5 := cell_below hb a5; replace b5 := cell_below hb b5; replace a6 := cell_below hb a6; replace b6 := cell_below hb b6; replace a7 := cell_below hb a7; replace b7 := cell_below hb b7)
        go_ret
        exact ⟨ret_bool (by simp), hB⟩
    · have hr : r = false := by rw [HS.out, decide_eq_false_iff_not]; intro h; exact q (by simp_all)
      subst hr
      clear HS
      have n1 : ((id : Int) == id2) = false := by rw [beq_eq_false_iff_ne]; omega
      have n2 : ¬ ((id : Int) = id2) := by omega
      have n3 : decide ((id : Int) = id2) = false := by rw [decide_eq_false_iff_not]; omega
      have hp : decide (ps = ps) = true := by simp
      go_wp2_with (go_at_call 84; refine (KI _ hx hy).out.mono ?_; rintro e w2 ⟨rfl, hb⟩; rw [hp]; replace hB := below_trans hB hb; replace a0 := cell_below hb a0; replace b0 := cell_below hb b0; replace a1 := cell_below hb a1; replace b1 := cell_below hb b1; replace a2 := cell_below hb a2; replace b2 := cell_below hb b2; replace a3 := cell_below hb a3; replace b3 := cell_below hb b3; replace a4 := cell_below hb a4; replace b4 := cell_below hb b4; replace a5 := cell_below hb a5; replace b5 := cell_below hb b5; replace a6 := cell_below hb a6; replace b6 := cell_below hb b6; replace a7 := cell_below hb a7; replace b7 := cell_below hb b7)
      go_ret
      exact ⟨ret_bool (by simp), hB⟩
  · have hr : r = false := by rw [HS.out, decide_eq_false_iff_not]; intro h; exact q (by simp_all)
    subst hr
    clear HS
    have hp : decide (ps = qs) = false := by rw [decide_eq_false_iff_not]; exact q
    clear q
    go_wp2_with (go_at_call 84; refine (KI _ hx hy).out.mono ?_; rintro e w2 ⟨rfl, hb⟩; rw [hp]; replace hB := below_trans hB hb; replace a0 := cell_below hb a0; replace b0 := cell_below hb b0; replace a1 := cell_below hb a1; replace b1 := cell_below hb b1; replace a2 := cell_below hb a2; replace b2 := cell_below hb b2; replace a3 := cell_below hb a3; replace b3 := cell_below hb b3; replace a4 := cell_below hb a4; replace b4 := cell_below hb b4; replace a5 := cell_below hb a5; replace b5 := cell_below hb b5; replace a6 := cell_below hb a6; replace b6 := cell_below hb b6; replace a7 := cell_below hb a7; replace b7 := cell_below hb b7)
    go_ret
    exact ⟨ret_bool (by simp), hB⟩

set_option maxRecDepth 100000 in
set_option maxHeartbeats 4000000 in
theorem refsame26_any (id fi : Nat) (pr le : Int) (en : Nat) (pl : Bool) (lp : Int) (ps : List Int) (id2 fi2 : Nat) (pr2 le2 : Int) (en2 : Nat) (pl2 : Bool) (lp2 : Int) (qs : List Int) (A B : Option Addr) (n c m k : Nat) (w : World) (hx : RdI w A n c ps) (hy : RdI w B m k qs) (hN : n ≤ 1000000) (hM : m ≤ 1000000) :
    Calls Try.prog 66 #[recV id fi pr le en pl lp A n c, recV id2 fi2 pr2 le2 en2 pl2 lp2 B m k] w fun e w' => e = .returned (.bool (sameM id fi pr le en pl lp ps id2 fi2 pr2 le2 en2 pl2 lp2 qs)) ∧ Below w.heap.size w w' := by
  obtain ⟨hB, hca, hcb⟩ := rec_cells2 w (recCs id fi pr le en pl lp A n c) (recCs id2 fi2 pr2 le2 en2 pl2 lp2 B m k) 91 rfl
  have a0 := hca 0 (.int .u64 (id : Int)) rfl
  have a1 := hca 1 (.int .u64 (fi : Int)) rfl
  have a2 := hca 2 (.int .i64 pr) rfl
  have a3 := hca 3 (.int .i64 le) rfl
  have a4 := hca 4 (.int .u64 (en : Int)) rfl
  have a5 := hca 5 (.bool pl) rfl
  have a6 := hca 6 (.int .i64 lp) rfl
  have a7 := hca 7 (.slice A n c) rfl
  have b0 := hcb 0 (.int .u64 (id2 : Int)) rfl
  have b1 := hcb 1 (.int .u64 (fi2 : Int)) rfl
  have b2 := hcb 2 (.int .i64 pr2) rfl
  have b3 := hcb 3 (.int .i64 le2) rfl
  have b4 := hcb 4 (.int .u64 (en2 : Int)) rfl
  have b5 := hcb 5 (.bool pl2) rfl
  have b6 := hcb 6 (.int .i64 lp2) rfl
  have b7 := hcb 7 (.slice B m k) rfl
  have hc1 := hx.cm
  have hc2 := hy.cm
  unfold maxLen at hc1 hc2
  have KI := fun W h1 h2 => Lib.hid (refints_any ps qs A B n c m k W h1 h2 hN hM)
  have HS : Hid (sameM id fi pr le en pl lp ps id2 fi2 pr2 le2 en2 pl2 lp2 qs = decide (id = id2 ∧ fi = fi2 ∧ pr = pr2 ∧ le = le2 ∧ en = en2 ∧ pl = pl2 ∧ lp = lp2 ∧ ps = qs)) := rfl
  generalize sameM id fi pr le en pl lp ps id2 fi2 pr2 le2 en2 pl2 lp2 qs = r at *
  replace hx := hx.below hB
  replace hy := hy.below hB
  clear hca hcb
  go_enter Try.func66, Try.ntmps66
  go_upto_region 1 with fail
  generalize (w.alloc (.cells (recCs id fi pr le en pl lp A n c) 91)).alloc (.cells (recCs id2 fi2 pr2 le2 en2 pl2 lp2 B m k) 91) = w0 at *
  by_cases q : id = id2
  · subst q
    by_cases q : fi = fi2
    · subst q
      by_cases q : pr = pr2
      · subst q
        by_cases q : le = le2
        · subst q
          by_cases q : en = en2
          · subst q
            by_cases q : pl = pl2
            · subst q
              by_cases q : lp = lp2
              · subst q
                by_cases q : ps = qs
                · subst q
                  have hr : r = true := by rw [HS.out]; simp
                  subst hr
                  clear HS
                  have hp : decide (ps = ps) = true := by simp
                  go_wp2_with (go_at_call 85; refine (KI _ hx hy).out.mono ?_; rintro e w2 ⟨rfl, hb⟩; rw [hp]; replace hB := below_trans hB hb; replace a0 := cell_below hb a0; replace b0 := cell_below hb b0; replace a1 := cell_below hb a1; replace b1 := cell_below hb b1; replace a2 := cell_below hb a2; replace b2 := cell_below hb b2; replace a3 := cell_below hb a3; replace b3 := cell_below hb b3; replace a4 := cell_below hb a4; replace b4 := cell_below hb b4; replace a5 := cell_below hb a5; replace b5 := cell_below hb b5; replace a6 := cell_below hb a6; replace b6 := cell_below hb b6; replace a7 := cell_below hb a7; replace b7 := cell_below hb b7)
                  go_ret
                  exact ⟨ret_bool (by simp), hB⟩
                · have hr : r = false := by rw [HS.out, decide_eq_false_iff_not]; intro h; exact q (by simp_all)
                  subst hr
                  clear HS
                  have hp : decide (ps = qs) = false := by rw [decide_eq_false_iff_not]; exact q
                  clear q
                  go_wp2_with (go_at_call 85; refine (KI _ hx hy).out.mono ?_; rintro e w2 ⟨rfl, hb⟩; rw [hp]; replace hB := below_trans hB hb; replace a0 := cell_below hb a0; replace b0 := cell_below hb b0; replace a1 := cell_below hb a1; replace b1 := cell_below hb b1; replace a2 := cell_below hb a2; replace b2 := cell_below hb b2; replace a3 := cell_below hb a3; replace b3 := cell_below hb b3; replace a4 := cell_below hb a4; replace b4 := cell_below hb b4; replace a5 := cell_below hb a5; replace b5 := cell_below hb b5; replace a6 := cell_below hb a6; replace b6 := cell_below hb b6; replace a7 := cell_below hb a7; replace b7 := cell_below hb b7)
                  go_ret
                  exact ⟨ret_bool (by simp), hB⟩
              · have hr : r = false := by rw [HS.out, decide_eq_false_iff_not]; intro h; exact q (by simp_all)
                subst hr
                clear HS
                have n1 : (lp == lp2) = false := by rw [beq_eq_false_iff_ne]; exact q
                have n3 : decide (lp = lp2) = false := by rw [decide_eq_false_iff_not]; exact q
                have hp : decide (ps = qs) = decide (ps = qs) := rfl
                go_wp2_with (go_at_call 85; refine (KI _ hx hy).out.mono ?_; rintro e w2 ⟨rfl, hb⟩; rw [hp]; replace hB := below_trans hB hb; replace a0 := cell_below hb a0; replace b0 := cell_below hb b0; replace a1 := cell_below hb a1; replace b1 := cell_below hb b1; replace a2 := cell_below hb a2; replace b2 := cell_below hb b2; replace a3 := cell_below hb a3; replace b3 := cell_below hb b3; replace a4 := cell_below hb a4; replace b4 := cell_below hb b4; replace a5 := cell_below hb a5; replace b5 := cell_below hb b5; replace a6 := cell_below hb a6; replace b6 := cell_below hb b6; replace a7 := cell_below hb a7; replace b7 := cell_below hb b7)
                go_ret
                exact ⟨ret_bool (by simp), hB⟩
            · have hr : r = false := by rw [HS.out, decide_eq_false_iff_not]; intro h; exact q (by simp_all)
              subst hr
              clear HS
              have n1 : (pl == pl2) = false := by cases pl <;> cases pl2 <;> simp_all
              have n3 : decide (pl = pl2) = false := by rw [decide_eq_false_iff_not]; exact q
              have hp : decide (ps = qs) = decide (ps = qs) := rfl
              go_wp2_with (go_at_call 85; refine (KI _ hx hy).out.mono ?_; rintro e w2 ⟨rfl, hb⟩; rw [hp]; replace hB := below_trans hB hb; replace a0 := cell_below hb a0; replace b0 := cell_below hb b0; replace a1 := cell_below hb a1; replace b1 := cell_below hb b1; replace a2 := cell_below hb a2; replace b2 := cell_below hb b2; replace a3 := cell_below hb a3; replace b3 := cell_below hb b3; replace a4 := cell_below hb a4; replace b4 := cell_below hb b4; replace a5 := cell_below hb a5; replace b5 := cell_below hb b5; replace a6 := cell_below hb a6; replace b6 := cell_below hb b6; replace a7 := cell_below hb a7; replace b7 := cell_below hb b7)
              go_ret
              exact ⟨ret_bool (by simp), hB⟩
          · have hr : r = false := by rw [HS.out, decide_eq_false_iff_not]; intro h; exact q (by simp_all)
            subst hr
            clear HS
            have n1 : ((en : Int) == en2) = false := by rw [beq_eq_false_iff_ne]; omega
            have n2 : ¬ ((en : Int) = en2) := by omega
            have n3 : decide ((en : Int) = en2) = false := by rw [decide_eq_false_iff_not]; omega
            have hp : decide (ps = qs) = decide (ps = qs) := rfl
            go_wp2_with (go_at_call 85; refine (KI _ hx hy).out.mono ?_; rintro e w2 ⟨rfl, hb⟩; rw [hp]; replace hB := below_trans hB hb; replace a0 := cell_below hb a0; replace b0 := cell_below hb b0; replace a1 := cell_below hb a1; replace b1 := cell_below hb b1; replace a2 := cell_below hb a2; replace b2 := cell_below hb b2; replace a3 := cell_below hb a3; replace b3 := cell_below hb b3; replace a4 := cell_below hb a4; replace b4 := cell_below hb b4; replace a5 := cell_below hb a5; replace b5 := cell_below hb b5; replace a6 := cell_below hb a6; replace b6 := cell_below hb b6; replace a7 := cell_below hb a7; replace b7 := cell_below hb b7)
            go_ret
            exact ⟨ret_bool (by simp), hB⟩
        · have hr : r = false := by rw [HS.out, decide_eq_false_iff_not]; intro h; exact q (by simp_all)
          subst hr
          clear HS
          have n1 : (le == le2) = false := by rw [beq_eq_false_iff_ne]; exact q
          have n3 : decide (le = le2) = false := by rw [decide_eq_false_iff_not]; exact q
          have hp : decide (ps = qs) = decide (ps = qs) := rfl
          go_wp2_with (go_at_call 85; refine (KI _ hx hy).out.mono ?_; rintro e w2 ⟨rfl, hb⟩; rw [hp]; replace hB := below_trans hB hb; replace a0 := cell_below hb a0; replace b0 := cell_below hb b0; replace a1 := cell_below hb a1; replace b1 := cell_below hb b1; replace a2 := cell_below hb a2; replace b2 := cell_below hb b2; replace a3 := cell_below hb a3; replace b3 := cell_below hb b3; replace a4 := cell_below hb a4; replace b4 := cell_below hb b4; replace a5 := cell_below hb a5; replace b5 := cell_below hb b5; replace a6 := cell_below hb a6; replace b6 := cell_below hb b6; replace a7 := cell_below hb a7; replace b7 := cell_below hb b7)
          go_ret
          exact ⟨ret_bool (by simp), hB⟩
      · have hr : r = false := by rw [HS.out, decide_eq_false_iff_not]; intro h; exact q (by simp_all)
        subst hr
        clear HS
        have n1 : (pr == pr2) = false := by rw [beq_eq_false_iff_ne]; exact q
        have n3 : decide (pr = pr2) = false := by rw [decide_eq_false_iff_not]; exact q
        have hp : decide (ps = qs) = decide (ps = qs) := rfl
        go_wp2_with (go_at_call 85; refine (KI _ hx hy).out.mono ?_; rintro e w2 ⟨rfl, hb⟩; rw [hp]; replace hB := below_trans hB hb; replace a0 := cell_below hb a0; replace b0 := cell_below hb b0; replace a1 := cell_below hb a1; replace b1 := cell_below hb b1; replace a2 := cell_below hb a2; replace b2 := cell_below hb b2; replace a3 := cell_below hb a3; replace b3 := cell_below hb b3; replace a4 := cell_below hb a4; replace b4 := cell_below hb b4; replace a5 := cell_below hb a5; replace b5 := cell_below hb b5; replace a6 := cell_below hb a6; replace b6 := cell_below hb b6; replace a7 := cell_below hb a7; replace b7 := cell_below hb b7)
        go_ret
        exact ⟨ret_bool (by simp), hB⟩
    · have hr : r = false := by rw [HS.out, decide_eq_false_iff_not]; intro h; exact q (by simp_all)
      subst hr
      clear HS
      have n1 : ((fi : Int) == fi2) = false := by rw [beq_eq_false_iff_ne]; omega
      have n2 : ¬ ((fi : Int) = fi2) := by omega
      have n3 : decide ((fi : Int) = fi2) = false := by rw [decide_eq_false_iff_not]; omega
      have hp : decide (ps = qs) = decide (ps = qs) := rfl
      go_wp2_with (go_at_call 85; refine (KI _ hx hy).out.mono ?_; rintro e w2 ⟨rfl, hb⟩; rw [hp]; replace hB := below_trans hB hb; replace a0 := cell_below hb a0; replace b0 := cell_below hb b0; replace a1 := cell_below hb a1; replace b1 := cell_below hb b1; replace a2 := cell_below hb a2; replace b2 := cell_below hb b2; replace a3 := cell_below hb a3; replace b3 := cell_below hb b3; replace a4 := cell_below hb a4; replace b4 := cell_below hb b4; replace a5 := cell_below hb a5; replace b5 := cell_below hb b5; replace a6 := cell_below hb a6; replace b6 := cell_below hb b6; replace a7 := cell_below hb a7; replace b7 := cell_below hb b7)
      go_ret
      exact ⟨ret_bool (by simp), hB⟩
  · have hr : r = false := by rw [HS.out, decide_eq_false_iff_not]; intro h; exact q (by simp_all)
    subst hr
    clear HS
    have n1 : ((id : Int) == id2) = false := by rw [beq_eq_false_iff_ne]; omega
    have n2 : ¬ ((id : Int) = id2) := by omega
    have n3 : decide ((id : Int) = id2) = false := by rw [decide_eq_false_iff_not]; omega
    have hp : decide (ps = qs) = decide (ps = qs) := rfl
    go_wp2_with (go_at_call 85; refine (KI _ hx hy).out.mono ?_; rintro e w2 ⟨rfl, hb⟩; rw [hp]; replace hB := below_trans hB hb; replace a0 := cell_below hb a0; replace b0 := cell_below hb b0; replace a1 := cell_below hb a1; replace b1 := cell_below hb b1; replace a2 := cell_below hb a2; replace b2 := cell_below hb b2; replace a3 := cell_below hb a3; replace b3 := cell_below hb b3; replace a4 := cell_below hb a4; replace b4 := cell_below hb b4; replace a5 := cell_below hb a5; replace b5 := cell_below hb b5; replace a6 := cell_below hb a6; replace b6 := cell_below hb b6; replace a7 := cell_below hb a7; replace b7 := cell_below hb b7)
    go_ret
    exact ⟨ret_bool (by simp), hB⟩
end Go.Proofs.Ythkabhejfkekjaa
