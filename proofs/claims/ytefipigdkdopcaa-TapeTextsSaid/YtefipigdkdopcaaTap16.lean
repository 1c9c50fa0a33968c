/- Layer 41's reference: contract of May. No condition but lengths' bounds. -/
import Derived.Test.YtefipigdkdopcaaTap15
namespace Go.Proofs.Ytefipigdkdopcaa
open Go.RowKit

open Classical in
noncomputable def mayB (x y z : Int) (bs : List Int) (fs : List FtV) (ss : List StV) : Bool := decide (ScOk x y z bs fs ss)
theorem may_yes {x y z : Int} {bs : List Int} {fs : List FtV} {ss : List StV} (h : ScOk x y z bs fs ss) : mayB x y z bs fs ss = true := by unfold mayB; simpa using h
theorem may_no {x y z : Int} {bs : List Int} {fs : List FtV} {ss : List StV} (h : ¬ ScOk x y z bs fs ss) : mayB x y z bs fs ss = false := by unfold mayB; simpa using h

set_option maxRecDepth 100000 in
set_option maxHeartbeats 8000000 in
theorem may41_any (x y z : Int) (bs : List Int) (fs : List FtV) (ss : List StV) (B : Option Addr) (b1 b2 : Nat) (F : Option Addr) (f1 f2 : Nat) (S : Option Addr) (s1 s2 : Nat) (w : World)
    (h : Sc3 w bs fs ss B b1 b2 F f1 f2 S s1 s2) (hN : b1 ≤ 1000000 ∧ f1 ≤ 1000000 ∧ s1 ≤ 1000000) (hd : ∀ s ∈ ss, s.d.length ≤ 9223372036854775807) :
    Calls Try.prog 42 #[.agg (scA x y z B b1 b2 F f1 f2 S s1 s2)] w fun e w' => e = .returned (.bool (mayB x y z bs fs ss)) ∧ Below w.heap.size w w' := by
  obtain ⟨hN1, hN2, hN3⟩ := hN
  have hbl := h.b.ilen
  have hfl := h.f.ftlen
  have hsl := h.s.stlen
  obtain ⟨hB, hca⟩ := one_cells w (scA x y z B b1 b2 F f1 f2 S s1 s2) 73
  have p0 := hca 0 (.int .i64 x) rfl
  have p1 := hca 1 (.int .i64 y) rfl
  have p2 := hca 2 (.int .i64 z) rfl
  have p3 := hca 3 (.slice B b1 b2) rfl
  have p4 := hca 4 (.slice F f1 f2) rfl
  have p5 := hca 5 (.slice S s1 s2) rfl
  replace h := h.below hB
  clear hca
  have KG := fun W => Lib.hid (right_any x y z W)
  have HD := Lib.hid hd
  have HZ : Hid (ScOk x y z bs fs ss → mayB x y z bs fs ss = true) := may_yes
  have HT : Hid (¬ ScOk x y z bs fs ss → mayB x y z bs fs ss = false) := may_no
  clear hd
  generalize mayB x y z bs fs ss = R at *
  cases h1 : geomOk x y z with
  | false =>
    rw [h1] at KG
    have HR : Hid (R = false) := HT.out (fun o => by rw [o.g] at h1; cases h1)
    clear HZ HT h1
    go_enter Try.func42, Try.ntmps42
    go_wp2_with fail
    refine (KG _).out.mono ?_
    rintro e w2 ⟨rfl, hb⟩
    replace p3 := cell_below hb p3
    replace p4 := cell_below hb p4
    replace p5 := cell_below hb p5
    replace h := h.below hb
    replace hB := below_trans hB hb
    clear hb KG p0 p1 p2
    go_wp2_with fail
    go_ret
    exact ⟨ret_bool HR.out.symm, hB⟩
  | true =>
  rw [h1] at KG
  by_cases lb1 : 34 < b1
  · have d1 : decide ((34 : Int) < b1) = true := by rw [decide_eq_true_iff]; omega
    have d2 : decide (34 < b1) = true := by rw [decide_eq_true_iff]; omega
    have HR : Hid (R = false) := HT.out (fun o => by have := o.b1; omega)
    clear HZ HT
    go_enter Try.func42, Try.ntmps42
    go_wp2_with fail
    refine (KG _).out.mono ?_
    rintro e w2 ⟨rfl, hb⟩
    replace p3 := cell_below hb p3
    replace p4 := cell_below hb p4
    replace p5 := cell_below hb p5
    replace h := h.below hb
    replace hB := below_trans hB hb
    clear hb KG p0 p1 p2
    go_wp2_with fail
    go_ret
    exact ⟨ret_bool HR.out.symm, hB⟩
  have d1b1 : decide ((34 : Int) < b1) = false := by rw [decide_eq_false_iff_not]; omega
  have d2b1 : decide (34 < b1) = false := by rw [decide_eq_false_iff_not]; omega
  by_cases lf1 : 64 < f1
  · have d1 : decide ((64 : Int) < f1) = true := by rw [decide_eq_true_iff]; omega
    have d2 : decide (64 < f1) = true := by rw [decide_eq_true_iff]; omega
    have HR : Hid (R = false) := HT.out (fun o => by have := o.f1; omega)
    clear HZ HT
    go_enter Try.func42, Try.ntmps42
    go_wp2_with fail
    refine (KG _).out.mono ?_
    rintro e w2 ⟨rfl, hb⟩
    replace p3 := cell_below hb p3
    replace p4 := cell_below hb p4
    replace p5 := cell_below hb p5
    replace h := h.below hb
    replace hB := below_trans hB hb
    clear hb KG p0 p1 p2
    go_wp2_with fail
    go_ret
    exact ⟨ret_bool HR.out.symm, hB⟩
  have d1f1 : decide ((64 : Int) < f1) = false := by rw [decide_eq_false_iff_not]; omega
  have d2f1 : decide (64 < f1) = false := by rw [decide_eq_false_iff_not]; omega
  by_cases ls1 : 4096 < s1
  · have d1 : decide ((4096 : Int) < s1) = true := by rw [decide_eq_true_iff]; omega
    have d2 : decide (4096 < s1) = true := by rw [decide_eq_true_iff]; omega
    have HR : Hid (R = false) := HT.out (fun o => by have := o.s1; omega)
    clear HZ HT
    go_enter Try.func42, Try.ntmps42
    go_wp2_with fail
    refine (KG _).out.mono ?_
    rintro e w2 ⟨rfl, hb⟩
    replace p3 := cell_below hb p3
    replace p4 := cell_below hb p4
    replace p5 := cell_below hb p5
    replace h := h.below hb
    replace hB := below_trans hB hb
    clear hb KG p0 p1 p2
    go_wp2_with fail
    go_ret
    exact ⟨ret_bool HR.out.symm, hB⟩
  have d1s1 : decide ((4096 : Int) < s1) = false := by rw [decide_eq_false_iff_not]; omega
  have d2s1 : decide (4096 < s1) = false := by rw [decide_eq_false_iff_not]; omega
  have HG := Lib.hid h1
  clear h1
  go_enter Try.func42, Try.ntmps42
  go_wp2_with fail
  refine (KG _).out.mono ?_
  rintro e w2 ⟨rfl, hb⟩
  replace p3 := cell_below hb p3
  replace p4 := cell_below hb p4
  replace p5 := cell_below hb p5
  replace h := h.below hb
  replace hB := below_trans hB hb
  clear hb KG p0 p1 p2
  go_wp2_with fail
  go_loopw [3] (fun i wr => ∃ j : Nat, i = .int .i64 j ∧ j ≤ b1 ∧ Hid ((bs.take j).all badOk = true) ∧ Below w2.heap.size w2 wr) (fun i _ => b1 - (intOf i).toNat)
  case atStart => exact ⟨0, rfl, by omega, Lib.hid (by simp), Below.refl _ _⟩
  case round =>
    obtain ⟨j, rfl, hj, HA, hBr⟩ := hrel
    have r3 := cell_below hBr p3
    by_cases hlt : j < b1
    · obtain ⟨ad, rfl⟩ := h.b.some_of_pos (by omega)
      have e0 := (h.b.below hBr).icell j (by omega)
      have HS := Lib.hid (all_take_succ badOk bs j (by omega))
      have HF := Lib.hid (all_false_of badOk bs j (by omega))
      have hq1 : (j : Int) < b1 := by omega
      have hcm := h.b.cm
      have hnc := h.b.nc
      unfold maxLen at hcm
      clear h p4 p5
      generalize bs[j] = f at *
      have HB : Hid (badOk f = decide (0 ≤ f ∧ f ≤ 33)) := rfl
      rcases (by omega : f < 0 ∨ (0 ≤ f ∧ 33 < f) ∨ (0 ≤ f ∧ f ≤ 33)) with g1 | ⟨g1, g2⟩ | ⟨g1, g2⟩
      · have HR : Hid (R = false) := HT.out (fun o => by have h1 := HF.out (by rw [HB.out, decide_eq_false_iff_not]; omega); rw [o.b] at h1; cases h1)
        have e1 : decide (f < 0) = true := by rw [decide_eq_true_iff]; exact g1
        clear HZ HT HS HF HB
        go_wp2_with fail
        go_ret
        exact ⟨ret_bool HR.out.symm, below_trans hB hBr⟩
      · have HR : Hid (R = false) := HT.out (fun o => by have h1 := HF.out (by rw [HB.out, decide_eq_false_iff_not]; omega); rw [o.b] at h1; cases h1)
        have e1 : decide (f < 0) = false := by rw [decide_eq_false_iff_not]; omega
        have e2 : decide (33 < f) = true := by rw [decide_eq_true_iff]; exact g2
        clear HZ HT HS HF HB
        go_wp2_with fail
        go_ret
        exact ⟨ret_bool HR.out.symm, below_trans hB hBr⟩
      · have HS2 : Hid ((bs.take (j + 1)).all badOk = true) := by show _ = _; rw [HS.out, HA.out, HB.out, decide_eq_true ⟨g1, g2⟩]; rfl
        have e1 : decide (f < 0) = false := by rw [decide_eq_false_iff_not]; omega
        have e2 : decide (33 < f) = false := by rw [decide_eq_false_iff_not]; omega
        clear HZ HT HS HF HB HA
        go_wp2_with fail
        go_roundw
        case rel => exact ⟨j + 1, by go_num, by omega, HS2, hBr⟩
        case measure => simp [intOf]; omega
    · obtain rfl : j = b1 := by omega
      have hjn : ¬ (j : Int) < (j : Int) := by omega
      have HA2 := HA.out
      rw [List.take_of_length_le (by omega)] at HA2
      replace HA2 := Lib.hid HA2
      clear HA
      go_wp2_with fail
      clear r3
      go_loopw [4, 5] (fun i _ wr => ∃ k : Nat, i = .int .i64 k ∧ k ≤ f1 ∧ Hid ((fs.take k).all faultOk = true) ∧ Below w2.heap.size w2 wr) (fun i _ _ => f1 - (intOf i).toNat)
      case atStart => exact ⟨0, rfl, by omega, Lib.hid (by simp), hBr⟩
      case round =>
        clear hBr
        obtain ⟨k, rfl, hk, HA, hBr⟩ := hrel
        have r4 := cell_below hBr p4
        by_cases hlt : k < f1
        · obtain ⟨ad, rfl⟩ := h.f.some_of_pos (by omega)
          obtain ⟨e0, e1, e2⟩ := (h.f.below hBr).fault k (by omega)
          have HS := Lib.hid (all_take_succ faultOk fs k (by omega))
          have HF := Lib.hid (all_false_of faultOk fs k (by omega))
          have hq1 : (k : Int) < f1 := by omega
          have hcm := h.f.cm
          have hnc := h.f.nc
          unfold maxLen at hcm
          clear h p5
          generalize fs[k] = f at *
          have HB : Hid (faultOk f = decide ((0 ≤ f.at_ ∧ f.at_ ≤ 1048576) ∧ (f.k = 1 ∨ f.k = 2) ∧ f.m ≤ 256)) := rfl
          obtain ⟨hb1, hca⟩ := one_cells wr (ftA f) 130
          have q0 := hca 0 (.int .i64 f.at_) rfl
          have q1 := hca 1 (.int .i64 f.k) rfl
          have q2 := hca 2 (.slice f.A f.m f.c) rfl
          replace hBr := below_trans hBr hb1
          generalize faultOk f = fo at *
          clear hb1 hca
          obtain ⟨ft, fk, fA, fm, fc, fxs⟩ := f
          dsimp only at e0 e1 e2 q0 q1 q2 HB
          go_upto_region 12 with fail
          generalize wr.alloc (.cells #[.int .i64 ft, .int .i64 fk, .slice fA fm fc] 130) = w5 at *
          clear e0 e1 e2 r4

          by_cases g0 : ft < 0
          case pos =>
            have HR : Hid (R = false) := HT.out (fun o => by have h1 := HF.out (by rw [HB.out, decide_eq_false_iff_not]; omega); rw [o.f] at h1; cases h1)
            have d0 : decide (ft < 0) = true := by rw [decide_eq_true_iff]; omega
            clear HZ HT HS HF HB HA
            go_wp2_with fail
            go_ret
            exact ⟨ret_bool HR.out.symm, below_trans hB hBr⟩
          have d0 : decide (ft < 0) = false := by rw [decide_eq_false_iff_not]; omega
          by_cases g1 : 1048576 < ft
          case pos =>
            have HR : Hid (R = false) := HT.out (fun o => by have h1 := HF.out (by rw [HB.out, decide_eq_false_iff_not]; omega); rw [o.f] at h1; cases h1)
            have d1 : decide (1048576 < ft) = true := by rw [decide_eq_true_iff]; omega
            clear HZ HT HS HF HB HA
            go_wp2_with fail
            go_ret
            exact ⟨ret_bool HR.out.symm, below_trans hB hBr⟩
          have d1 : decide (1048576 < ft) = false := by rw [decide_eq_false_iff_not]; omega
          by_cases g2 : fk < 1
          case pos =>
            have HR : Hid (R = false) := HT.out (fun o => by have h1 := HF.out (by rw [HB.out, decide_eq_false_iff_not]; omega); rw [o.f] at h1; cases h1)
            have d2 : decide (fk < 1) = true := by rw [decide_eq_true_iff]; omega
            clear HZ HT HS HF HB HA
            go_wp2_with fail
            go_ret
            exact ⟨ret_bool HR.out.symm, below_trans hB hBr⟩
          have d2 : decide (fk < 1) = false := by rw [decide_eq_false_iff_not]; omega
          by_cases g3 : 2 < fk
          case pos =>
            have HR : Hid (R = false) := HT.out (fun o => by have h1 := HF.out (by rw [HB.out, decide_eq_false_iff_not]; omega); rw [o.f] at h1; cases h1)
            have d3 : decide (2 < fk) = true := by rw [decide_eq_true_iff]; omega
            clear HZ HT HS HF HB HA
            go_wp2_with fail
            go_ret
            exact ⟨ret_bool HR.out.symm, below_trans hB hBr⟩
          have d3 : decide (2 < fk) = false := by rw [decide_eq_false_iff_not]; omega
          by_cases g4 : 256 < fm
          case pos =>
            have HR : Hid (R = false) := HT.out (fun o => by have h1 := HF.out (by rw [HB.out, decide_eq_false_iff_not]; omega); rw [o.f] at h1; cases h1)
            have d4 : decide ((256 : Int) < (fm : Int)) = true := by rw [decide_eq_true_iff]; omega
            have d5 : decide (256 < fm) = true := by rw [decide_eq_true_iff]; omega
            clear HZ HT HS HF HB HA
            go_wp2_with fail
            go_ret
            exact ⟨ret_bool HR.out.symm, below_trans hB hBr⟩
          have d4 : decide ((256 : Int) < (fm : Int)) = false := by rw [decide_eq_false_iff_not]; omega
          have d5 : decide (256 < fm) = false := by rw [decide_eq_false_iff_not]; omega
          have HS2 : Hid ((fs.take (k + 1)).all faultOk = true) := by
            have : fo = true := by rw [HB.out, decide_eq_true_iff]; omega
            show _ = _
            rw [HS.out, HA.out, this]; rfl
          clear HZ HT HS HF HB HA
          go_wp2_with fail
          go_roundw
          case rel => exact ⟨k + 1, by go_num, by omega, HS2, hBr⟩
          case measure => simp [intOf]; omega
        · obtain rfl : k = f1 := by omega
          have hkn : ¬ (k : Int) < (k : Int) := by omega
          have HA3 := HA.out
          rw [List.take_of_length_le (by omega)] at HA3
          replace HA3 := Lib.hid HA3
          clear HA
          go_wp2_with fail
          clear r4
          go_loopw [6] (fun i wr => ∃ l : Nat, i = .int .i64 l ∧ l ≤ s1 ∧ Hid ((ss.take l).all stepOk = true) ∧ Below w2.heap.size w2 wr) (fun i _ => s1 - (intOf i).toNat)
          case atStart => exact ⟨0, rfl, by omega, Lib.hid (by simp), hBr⟩
          case round =>
            clear hBr
            obtain ⟨l, rfl, hl, HA, hBr⟩ := hrel
            have r5 := cell_below hBr p5
            by_cases hlt : l < s1
            · obtain ⟨ad, rfl⟩ := h.s.some_of_pos (by omega)
              obtain ⟨e0, e1, e2, e3, e4⟩ := (h.s.below hBr).step l (by omega)
              have HS := Lib.hid (all_take_succ stepOk ss l (by omega))
              have HF := Lib.hid (all_false_of stepOk ss l (by omega))
              have hq1 : (l : Int) < s1 := by omega
              have KD := fun W => Lib.hid (r41step_any ss[l] W (HD.out _ (List.getElem_mem _)))
              have hcm := h.s.cm
              have hnc := h.s.nc
              unfold maxLen at hcm
              clear h
              generalize ss[l] = s at *
              cases hm : stepOk s with
              | true =>
                have HS2 : Hid ((ss.take (l + 1)).all stepOk = true) := by show _ = _; rw [HS.out, HA.out, hm]; rfl
                rw [hm] at KD
                clear HZ HT HS HF HA hm HD
                obtain ⟨sk, sd, sp, sa, sb⟩ := s
                dsimp only at e0 e1 e2 e3 e4
                go_wp2_with fail
                refine (KD _).out.mono ?_
                rintro e w6 ⟨rfl, hb6⟩
                replace hBr := below_trans hBr hb6
                clear hb6 KD e0 e1 e2 e3 e4
                go_wp2_with fail
                go_roundw
                case rel => exact ⟨l + 1, by go_num, by omega, HS2, hBr⟩
                case measure => simp [intOf]; omega
              | false =>
                have HR : Hid (R = false) := HT.out (fun o => by have h1 := HF.out hm; rw [o.s] at h1; cases h1)
                rw [hm] at KD
                clear HZ HT HS HF HA hm HD
                obtain ⟨sk, sd, sp, sa, sb⟩ := s
                dsimp only at e0 e1 e2 e3 e4
                go_wp2_with fail
                refine (KD _).out.mono ?_
                rintro e w6 ⟨rfl, hb6⟩
                replace hBr := below_trans hBr hb6
                clear hb6 KD e0 e1 e2 e3 e4
                go_wp2_with fail
                go_ret
                exact ⟨ret_bool HR.out.symm, below_trans hB hBr⟩
            · obtain rfl : l = s1 := by omega
              have hln : ¬ (l : Int) < (l : Int) := by omega
              have HA4 := HA.out
              rw [List.take_of_length_le (by omega)] at HA4
              have HR : Hid (R = true) := HZ.out ⟨HG.out, by omega, HA2.out, by omega, HA3.out, by omega, HA4⟩
              clear HA HA4
              go_wp2_with fail
              go_ret
              exact ⟨ret_bool HR.out.symm, below_trans hB hBr⟩
end Go.Proofs.Ytefipigdkdopcaa
