/- Layer 41 (tape): contracts of slices.Equal of numbers and of steps, of Same's closure, of slices.EqualFunc of faults. No condition but lengths' bounds. -/
import Derived.Test.YtefipigdkdopcaaTap19
import Derived.Laws.StructEq
namespace Go.Proofs.Ytefipigdkdopcaa
open Go.RowKit

deriving instance DecidableEq for StV

set_option maxRecDepth 100000 in
set_option maxHeartbeats 4000000 in
theorem iequal_any (fs gs : List (Int)) (A B : Option Addr) (n c m k : Nat) (w : World) (hx : Rd w A n c 1 (inCs fs)) (hy : Rd w B m k 1 (inCs gs)) (hN : n ≤ 1000000) (hM : m ≤ 1000000) :
    Calls Try.prog 83 #[.slice A n c, .slice B m k] w fun e w' => e = .returned (.bool (decide (fs = gs))) ∧ Below w.heap.size w w' := by
  have hxl := hx.ilen
  have hyl := hy.ilen
  have hB := Below.refl w.heap.size w
  have hc1 := hx.cm
  have hc2 := hy.cm
  unfold maxLen at hc1 hc2
  by_cases hne : n = m
  · subst hne
    go_enter Try.func83, Try.ntmps83
    go_wp2_with fail
    go_loopw [13] (fun i wr => ∃ j : Nat, j ≤ n ∧ i = .int .i64 j ∧ fs.take j = gs.take j ∧ Below w.heap.size w wr) (fun i _ => n - (intOf i).toNat)
    case atStart => exact ⟨0, by omega, rfl, rfl, hB⟩
    case round =>
      obtain ⟨j, hj, rfl, het, hBr⟩ := hrel
      by_cases hlt : j < n
      · obtain ⟨ad, rfl⟩ := hx.some_of_pos (by omega)
        obtain ⟨bd, rfl⟩ := hy.some_of_pos (by omega)
        have e0 := (hx.below hBr).icell j (by omega)
        have g0 := (hy.below hBr).icell j (by omega)
        have HT := Lib.hid (take_succ_eq (fs := fs) (gs := gs) (j := j) (by omega) (by omega) het)
        have HN := Lib.hid (ne_of_at (fs := fs) (gs := gs) (j := j) (by omega) (by omega))
        have hq1 : (j : Int) < n := by omega
        clear het hx hy
        generalize fs[j] = f at *
        generalize gs[j] = g at *

        by_cases heq : f = g
        · obtain rfl := heq
          have HT2 := Lib.hid (HT.out rfl)
          clear HT HN
          go_wp2_with fail
          go_quiet (fail)
          go_wp2_with fail
          go_roundw
          case rel => exact ⟨j + 1, by omega, by go_num, HT2.out, below_drewN hBr _⟩
          case measure => simp [intOf]; omega
        · have HN2 : Hid (decide (fs = gs) = false) := by
            show _ = _
            rw [decide_eq_false_iff_not]
            refine HN.out (fun h => heq ?_)
            exact h
          have b1 : (f == g) = false := by rw [beq_eq_false_iff_ne]; exact heq
          have b3 : decide (f = g) = false := by rw [decide_eq_false_iff_not]; exact heq
          clear HT HN heq
          all_goals
            go_wp2_with fail
            go_quiet (fail)
            go_wp2_with fail
            go_ret
            exact ⟨ret_bool HN2.out.symm, below_drewN hBr _⟩
      · obtain rfl : j = n := by omega
        rw [List.take_of_length_le (by omega), List.take_of_length_le (by omega)] at het
        subst het
        have hjn : ¬ (j : Int) < (j : Int) := by omega
        clear hx hy
        go_wp2_with fail
        go_ret
        exact ⟨ret_bool (by simp), hBr⟩
  · have hd : decide (fs = gs) = false := by rw [decide_eq_false_iff_not]; intro h; subst h; omega
    rw [hd]
    have h1 : ((n : Int) != (m : Int)) = true := by rw [bne_iff_ne]; omega
    clear hd hne
    go_enter Try.func83, Try.ntmps83
    go_wp2_with fail
    go_ret
    exact ⟨rfl, hB⟩

theorem run_eq_st (s t : StV) (W : World) : (Op.equalIn 10000 78 (.agg (stA s)) (.agg (stA t))).run Try.prog W = .ok (decide (s = t)) W := by
  obtain ⟨k, d, p, a, b⟩ := s
  obtain ⟨k', d', p', a', b'⟩ := t
  have hS : Try.prog.underlying 78 = some (.struct (Try.prog.fieldsOf 78)) := by kernel_rfl
  have hp : Try.prog.stoodInHeld 78 = false := by kernel_rfl
  have u1 := Try.underlying3
  have u2 := Try.underlying9
  have u3 := Try.underlying22
  rw [show (10000 : Nat) = 9999 + 1 from rfl, run_equalIn_agg W 9999 78 _ _ hS hp]
  simp only [Program.fieldsOf, Try.underlying78]
  go_simp
  have e4 : ((a : Int) = a') ↔ (a = a') := by omega
  have e5 : ((b : Int) = b') ↔ (b = b') := by omega
  by_cases h1 : k = k' <;> by_cases h2 : d = d' <;> by_cases h3 : p = p' <;> by_cases h4 : a = a' <;> by_cases h5 : b = b' <;> simp [h1, h2, h3, h4, h5, e4, e5]

set_option maxRecDepth 100000 in
set_option maxHeartbeats 4000000 in
theorem stequal_any (fs gs : List StV) (A B : Option Addr) (n c m k : Nat) (w : World) (hx : Rd w A n c 5 (stCs fs)) (hy : Rd w B m k 5 (stCs gs)) (hN : n ≤ 1000000) (hM : m ≤ 1000000) :
    Calls Try.prog 105 #[.slice A n c, .slice B m k] w fun e w' => e = .returned (.bool (decide (fs = gs))) ∧ Below w.heap.size w w' := by
  have hxl := hx.stlen
  have hyl := hy.stlen
  have hB := Below.refl w.heap.size w
  have hc1 := hx.cm
  have hc2 := hy.cm
  unfold maxLen at hc1 hc2
  by_cases hne : n = m
  · subst hne
    go_enter Try.func105, Try.ntmps105
    go_wp2_with fail
    go_loopw [13] (fun i wr => ∃ j : Nat, j ≤ n ∧ i = .int .i64 j ∧ fs.take j = gs.take j ∧ Below w.heap.size w wr) (fun i _ => n - (intOf i).toNat)
    case atStart => exact ⟨0, by omega, rfl, rfl, hB⟩
    case round =>
      obtain ⟨j, hj, rfl, het, hBr⟩ := hrel
      by_cases hlt : j < n
      · obtain ⟨ad, rfl⟩ := hx.some_of_pos (by omega)
        obtain ⟨bd, rfl⟩ := hy.some_of_pos (by omega)
        obtain ⟨e0, e1, e2, e3, e4⟩ := (hx.below hBr).step j (by omega)
        obtain ⟨g0, g1, g2, g3, g4⟩ := (hy.below hBr).step j (by omega)
        have HT := Lib.hid (take_succ_eq (fs := fs) (gs := gs) (j := j) (by omega) (by omega) het)
        have HN := Lib.hid (ne_of_at (fs := fs) (gs := gs) (j := j) (by omega) (by omega))
        have hq1 : (j : Int) < n := by omega
        clear het hx hy
        generalize fs[j] = f at *
        generalize gs[j] = g at *

        have HEQ := Lib.hid (fun W => run_eq_st f g W)
        obtain ⟨fk, fd, fp, fa, fb⟩ := f
        obtain ⟨gk, gd, gp, ga, gb⟩ := g
        dsimp only at e0 e1 e2 e3 e4 g0 g1 g2 g3 g4
        by_cases heq : (⟨fk, fd, fp, fa, fb⟩ : StV) = ⟨gk, gd, gp, ga, gb⟩
        · have HT2 := Lib.hid (HT.out heq)
          have hEq : ∀ W : World, (Op.equalIn 10000 78 (.agg #[.int .i64 fk, .string ⟨fd.toArray⟩, .int .i64 fp, .int .u64 (fa : Int), .int .u64 (fb : Int)]) (.agg #[.int .i64 gk, .string ⟨gd.toArray⟩, .int .i64 gp, .int .u64 (ga : Int), .int .u64 (gb : Int)])).run Try.prog W = .ok true W := fun W => (HEQ.out W).trans (by rw [decide_eq_true heq])
          clear HT HN HEQ heq
          go_wp2_with fail
          go_quiet (fail)
          go_wp2_with fail
          go_roundw
          case rel => exact ⟨j + 1, by omega, by go_num, HT2.out, below_drewN hBr _⟩
          case measure => simp [intOf]; omega
        · have HN2 : Hid (decide (fs = gs) = false) := by
            show _ = _
            rw [decide_eq_false_iff_not]
            exact HN.out heq
          have hEq : ∀ W : World, (Op.equalIn 10000 78 (.agg #[.int .i64 fk, .string ⟨fd.toArray⟩, .int .i64 fp, .int .u64 (fa : Int), .int .u64 (fb : Int)]) (.agg #[.int .i64 gk, .string ⟨gd.toArray⟩, .int .i64 gp, .int .u64 (ga : Int), .int .u64 (gb : Int)])).run Try.prog W = .ok false W := fun W => (HEQ.out W).trans (by rw [decide_eq_false heq])
          clear HT HN HEQ heq
          go_wp2_with fail
          go_quiet (fail)
          go_wp2_with fail
          go_ret
          exact ⟨ret_bool HN2.out.symm, below_drewN hBr _⟩
      · obtain rfl : j = n := by omega
        rw [List.take_of_length_le (by omega), List.take_of_length_le (by omega)] at het
        subst het
        have hjn : ¬ (j : Int) < (j : Int) := by omega
        clear hx hy
        go_wp2_with fail
        go_ret
        exact ⟨ret_bool (by simp), hBr⟩
  · have hd : decide (fs = gs) = false := by rw [decide_eq_false_iff_not]; intro h; subst h; omega
    rw [hd]
    have h1 : ((n : Int) != (m : Int)) = true := by rw [bne_iff_ne]; omega
    clear hd hne
    go_enter Try.func105, Try.ntmps105
    go_wp2_with fail
    go_ret
    exact ⟨rfl, hB⟩

set_option maxRecDepth 100000 in
set_option maxHeartbeats 4000000 in
theorem tsame1_any (f g : FtV) (w : World) (hx : RdB w f.A f.m f.c f.x) (hy : RdB w g.A g.m g.c g.x) : Calls Try.prog 103 #[.agg (ftA f), .agg (ftA g)] w fun e w' => e = .returned (.bool (decide (ftP f = ftP g))) ∧ Below w.heap.size w w' := by
  have HD : Hid (ftP f = ftP g ↔ f.at_ = g.at_ ∧ f.k = g.k ∧ f.x = g.x) := by show _ ↔ _; unfold ftP; simp
  generalize hR : decide (ftP f = ftP g) = R at *
  replace hR := Lib.hid hR
  obtain ⟨ft, fk, fA, fm, fc, fx⟩ := f
  obtain ⟨gt, gk, gA, gm, gc, gx⟩ := g
  dsimp only at hx hy HD
  obtain ⟨hB, hca, hcb⟩ := two_cells w #[.int .i64 ft, .int .i64 fk, .slice fA fm fc] #[.int .i64 gt, .int .i64 gk, .slice gA gm gc] 130 130
  have p0 := hca 0 (.int .i64 ft) rfl
  have p1 := hca 1 (.int .i64 fk) rfl
  have p2 := hca 2 (.slice fA fm fc) rfl
  have q0 := hcb 0 (.int .i64 gt) rfl
  have q1 := hcb 1 (.int .i64 gk) rfl
  have q2 := hcb 2 (.slice gA gm gc) rfl
  clear hca hcb
  replace hx := hx.below hB
  replace hy := hy.below hB
  by_cases h1 : ft = gt
  case neg =>
    have HR : Hid (R = false) := by show _ = _; rw [← hR.out, decide_eq_false_iff_not]; exact fun h => h1 (HD.out.1 h).1
    have d1 : (ft == gt) = false := by rw [beq_eq_false_iff_ne]; exact h1
    have d3 : decide (ft = gt) = false := by rw [decide_eq_false_iff_not]; exact h1
    clear HD hR h1
    go_enter Try.func103, Try.ntmps103
    go_wp2_with fail
    go_ret
    exact ⟨ret_bool HR.out.symm, hB⟩
  subst h1
  by_cases h1 : fk = gk
  case neg =>
    have HR : Hid (R = false) := by show _ = _; rw [← hR.out, decide_eq_false_iff_not]; exact fun h => h1 (HD.out.1 h).2.1
    have d1 : (fk == gk) = false := by rw [beq_eq_false_iff_ne]; exact h1
    have d3 : decide (fk = gk) = false := by rw [decide_eq_false_iff_not]; exact h1
    clear HD hR h1
    go_enter Try.func103, Try.ntmps103
    go_wp2_with fail
    go_ret
    exact ⟨ret_bool HR.out.symm, hB⟩
  subst h1
  have k1 := run_string_of (P := Try.prog) 53 9 5 Try.underlying53 Try.underlying5 Try.underlying9 hx
  have k2 := run_string_of (P := Try.prog) 53 9 5 Try.underlying53 Try.underlying5 Try.underlying9 hy
  by_cases h1 : fx = gx
  · have HR : Hid (R = true) := by show _ = _; rw [← hR.out, decide_eq_true_iff]; exact HD.out.2 ⟨rfl, rfl, h1⟩
    subst h1
    clear HD hR hx hy
    go_enter Try.func103, Try.ntmps103
    go_upto_region 1 with fail
    generalize (w.alloc (.cells #[.int .i64 ft, .int .i64 fk, .slice fA fm fc] 130)).alloc (.cells #[.int .i64 ft, .int .i64 fk, .slice gA gm gc] 130) = w1 at *
    go_wp2_with fail
    go_ret
    exact ⟨ret_bool HR.out.symm, hB⟩
  · have HR : Hid (R = false) := by show _ = _; rw [← hR.out, decide_eq_false_iff_not]; exact fun h => h1 (HD.out.1 h).2.2
    have d1 : (fx == gx) = false := by rw [beq_eq_false_iff_ne]; exact h1
    have d3 : decide (fx = gx) = false := by rw [decide_eq_false_iff_not]; exact h1
    clear HD hR hx hy h1
    go_enter Try.func103, Try.ntmps103
    go_upto_region 1 with fail
    generalize (w.alloc (.cells #[.int .i64 ft, .int .i64 fk, .slice fA fm fc] 130)).alloc (.cells #[.int .i64 ft, .int .i64 fk, .slice gA gm gc] 130) = w1 at *
    go_wp2_with fail
    go_ret
    exact ⟨ret_bool HR.out.symm, hB⟩

set_option maxRecDepth 100000 in
set_option maxHeartbeats 4000000 in
theorem tequal_any (fs gs : List FtV) (A B : Option Addr) (n c m k : Nat) (w : World) (hx : Rd w A n c 3 (ftCs fs)) (hy : Rd w B m k 3 (ftCs gs)) (hN : n ≤ 1000000) (hM : m ≤ 1000000) (ha : AllFt w fs) (hb' : AllFt w gs) :
    Calls Try.prog 104 #[.slice A n c, .slice B m k, .func (.func 103) #[] #[]] w fun e w' => e = .returned (.bool (decide (fs.map ftP = gs.map ftP))) ∧ Below w.heap.size w w' := by
  have hxl := hx.ftlen
  have hyl := hy.ftlen
  have hB := Below.refl w.heap.size w
  have hc1 := hx.cm
  have hc2 := hy.cm
  unfold maxLen at hc1 hc2
  by_cases hne : n = m
  · subst hne
    go_enter Try.func104, Try.ntmps104
    go_wp2_with fail
    go_loopw [7, 8, 9, 17] (fun _ _ _ i wr => ∃ j : Nat, j ≤ n ∧ i = .int .i64 j ∧ (fs.map ftP).take j = (gs.map ftP).take j ∧ Below w.heap.size w wr) (fun _ _ _ i _ => n - (intOf i).toNat)
    case atStart => exact ⟨0, by omega, rfl, rfl, hB⟩
    case round =>
      obtain ⟨j, hj, rfl, het, hBr⟩ := hrel
      by_cases hlt : j < n
      · obtain ⟨ad, rfl⟩ := hx.some_of_pos (by omega)
        obtain ⟨bd, rfl⟩ := hy.some_of_pos (by omega)
        obtain ⟨e0, e1, e2⟩ := (hx.below hBr).fault j (by omega)
        obtain ⟨g0, g1, g2⟩ := (hy.below hBr).fault j (by omega)
        have HT := Lib.hid (take_succ_eq (fs := fs.map ftP) (gs := gs.map ftP) (j := j) (by simp; omega) (by simp; omega) het)
        have HN := Lib.hid (ne_of_at (fs := fs.map ftP) (gs := gs.map ftP) (j := j) (by simp; omega) (by simp; omega))
        have h1 := (ha fs[j] (List.getElem_mem _)).below hBr
        have h2 := (hb' gs[j] (List.getElem_mem _)).below hBr
        rw [List.getElem_map, List.getElem_map] at HT HN
        have hq1 : (j : Int) < n := by omega
        clear het hx hy ha hb'
        generalize fs[j] = f at *
        generalize gs[j] = g at *
        have KC := fun W h h' => Lib.hid (tsame1_any f g W h h')
        have HD : Hid (decide (ftP f = ftP g) = true → ftP f = ftP g) := fun h => of_decide_eq_true h
        have HD2 : Hid (decide (ftP f = ftP g) = false → ftP f ≠ ftP g) := fun h => of_decide_eq_false h
        generalize decide (ftP f = ftP g) = q at *
        obtain ⟨f0, f1, f2, f3, f4, f5⟩ := f
        obtain ⟨k0, k1, k2, k3, k4, k5⟩ := g
        dsimp only at e0 e1 e2 g0 g1 g2 h1 h2 KC
        have hBr2 := hBr
        obtain ⟨hb1, hca⟩ := one_cells wr #[.int .i64 f0, .int .i64 f1, .slice f2 f3 f4] 130
        have p0 := hca 0 (.int .i64 f0) rfl
        have p1 := hca 1 (.int .i64 f1) rfl
        have p2 := hca 2 (.slice f2 f3 f4) rfl
        replace g0 := cell_below hb1 g0
        replace g1 := cell_below hb1 g1
        replace g2 := cell_below hb1 g2
        replace h1 := h1.below hb1
        replace h2 := h2.below hb1
        replace hBr := below_trans hBr hb1
        clear hb1 hca hBr2
        go_upto_region 6 with fail
        generalize wr.alloc (.cells #[.int .i64 f0, .int .i64 f1, .slice f2 f3 f4] 130) = w4 at *
        obtain ⟨hb1, hca⟩ := one_cells w4 #[.int .i64 k0, .int .i64 k1, .slice k2 k3 k4] 130
        have q0 := hca 0 (.int .i64 k0) rfl
        have q1 := hca 1 (.int .i64 k1) rfl
        have q2 := hca 2 (.slice k2 k3 k4) rfl
        replace p0 := cell_below hb1 p0
        replace p1 := cell_below hb1 p1
        replace p2 := cell_below hb1 p2
        replace h1 := h1.below hb1
        replace h2 := h2.below hb1
        replace hBr := below_trans hBr hb1
        clear hb1 hca e0 e1 e2
        go_upto_region 7 with fail
        generalize w4.alloc (.cells #[.int .i64 k0, .int .i64 k1, .slice k2 k3 k4] 130) = w5 at *
        clear g0 g1 g2
        go_wp2_with fail
        refine (KC _ h1 h2).out.mono ?_
        rintro e w6 ⟨rfl, hb⟩
        clear KC
        replace hBr := below_trans hBr hb
        clear hb p0 p1 p2 q0 q1 q2 h1 h2
        cases q with
        | true =>
          have HT2 := Lib.hid (HT.out (HD.out rfl))
          clear HT HN HD HD2
          go_wp2_with fail
          go_roundw
          case rel => exact ⟨j + 1, by omega, by go_num, HT2.out, hBr⟩
          case measure => simp [intOf]; omega
        | false =>
          have HN2 : Hid (decide (fs.map ftP = gs.map ftP) = false) := by
            show _ = _
            rw [decide_eq_false_iff_not]
            exact HN.out (HD2.out rfl)
          clear HT HN HD HD2
          go_wp2_with fail
          go_ret
          exact ⟨ret_bool HN2.out.symm, hBr⟩
      · obtain rfl : j = n := by omega
        rw [List.take_of_length_le (by simp; omega), List.take_of_length_le (by simp; omega)] at het
        have HE : Hid (decide (fs.map ftP = gs.map ftP) = true) := by show _ = _; rw [decide_eq_true_iff]; exact het
        have hjn : ¬ (j : Int) < (j : Int) := by omega
        clear hx hy het
        go_wp2_with fail
        go_ret
        exact ⟨ret_bool HE.out.symm, hBr⟩
  · have hd : decide (fs.map ftP = gs.map ftP) = false := by rw [decide_eq_false_iff_not]; intro h; have := congrArg List.length h; simp at this; omega
    rw [hd]
    have h1 : ((n : Int) != (m : Int)) = true := by rw [bne_iff_ne]; omega
    clear hd hne
    go_enter Try.func104, Try.ntmps104
    go_wp2_with fail
    go_ret
    exact ⟨rfl, hB⟩
end Go.Proofs.Ytefipigdkdopcaa
