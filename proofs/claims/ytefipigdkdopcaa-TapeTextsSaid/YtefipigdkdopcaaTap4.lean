/- Layer 41 (tape): contract of Check. No condition but lengths' bounds. -/
import Derived.Test.YtefipigdkdopcaaTap3
namespace Go.Proofs.Ytefipigdkdopcaa
open Go.RowKit

abbrev scA (x y z : Int) (B : Option Addr) (b1 b2 : Nat) (F : Option Addr) (f1 f2 : Nat) (S : Option Addr) (s1 s2 : Nat) : Array Value := #[.int .i64 x, .int .i64 y, .int .i64 z, .slice B b1 b2, .slice F f1 f2, .slice S s1 s2]
/-- The rows of a script. -/
structure Sc3 (w : World) (bs : List Int) (fs : List FtV) (ss : List StV) (B : Option Addr) (b1 b2 : Nat) (F : Option Addr) (f1 f2 : Nat) (S : Option Addr) (s1 s2 : Nat) : Prop where
  b : Rd w B b1 b2 1 (inCs bs)
  f : Rd w F f1 f2 3 (ftCs fs)
  s : Rd w S s1 s2 5 (stCs ss)
theorem Sc3.below {w w' : World} {bs : List Int} {fs : List FtV} {ss : List StV} {B F S : Option Addr} {b1 b2 f1 f2 s1 s2 : Nat} (h : Sc3 w bs fs ss B b1 b2 F f1 f2 S s1 s2) (hb : Below w.heap.size w w') : Sc3 w' bs fs ss B b1 b2 F f1 f2 S s1 s2 :=
  ⟨h.b.below hb, h.f.below hb, h.s.below hb⟩
structure ScOk (x y z : Int) (bs : List Int) (fs : List FtV) (ss : List StV) : Prop where
  g : geomOk x y z = true
  b1 : bs.length ≤ 34
  b : bs.all badOk = true
  f1 : fs.length ≤ 64
  f : fs.all faultOk = true
  s1 : ss.length ≤ 4096
  s : ss.all stepOk = true
open Classical in
noncomputable def scE (x y z : Int) (bs : List Int) (fs : List FtV) (ss : List StV) : Nat := if ScOk x y z bs fs ss then 0 else 3
theorem scE_zero {x y z : Int} {bs : List Int} {fs : List FtV} {ss : List StV} : scE x y z bs fs ss = 0 ↔ ScOk x y z bs fs ss := by
  unfold scE
  split
  · rename_i h; exact ⟨fun _ => h, fun _ => rfl⟩
  · rename_i h; exact ⟨(fun e => by cases e), fun e => absurd e h⟩
theorem scE_three {x y z : Int} {bs : List Int} {fs : List FtV} {ss : List StV} (h : ¬ ScOk x y z bs fs ss) : scE x y z bs fs ss = 3 := by
  unfold scE; rw [if_neg h]

set_option maxRecDepth 100000 in
set_option maxHeartbeats 8000000 in
theorem tcheck_any (x y z : Int) (bs : List Int) (fs : List FtV) (ss : List StV) (B : Option Addr) (b1 b2 : Nat) (F : Option Addr) (f1 f2 : Nat) (S : Option Addr) (s1 s2 : Nat) (w : World)
    (h : Sc3 w bs fs ss B b1 b2 F f1 f2 S s1 s2) (hN : b1 ≤ 1000000 ∧ f1 ≤ 1000000 ∧ s1 ≤ 1000000) (hd : ∀ s ∈ ss, s.d.length ≤ 9223372036854775807) :
    Calls Try.prog 49 #[.agg (scA x y z B b1 b2 F f1 f2 S s1 s2)] w fun e w' => e = .returned (.int .i64 (scE x y z bs fs ss : Nat)) ∧ Below w.heap.size w w' := by
  obtain ⟨hN1, hN2, hN3⟩ := hN
  have hbl := h.b.ilen
  have hfl := h.f.ftlen
  have hsl := h.s.stlen
  obtain ⟨hB, hca⟩ := one_cells w (scA x y z B b1 b2 F f1 f2 S s1 s2) 69
  have p0 := hca 0 (.int .i64 x) rfl
  have p1 := hca 1 (.int .i64 y) rfl
  have p2 := hca 2 (.int .i64 z) rfl
  have p3 := hca 3 (.slice B b1 b2) rfl
  have p4 := hca 4 (.slice F f1 f2) rfl
  have p5 := hca 5 (.slice S s1 s2) rfl
  replace h := h.below hB
  clear hca
  have KG := fun W => Lib.hid (gcheck_any x y z W)
  have KB := fun W h => Lib.hid (bcontains_any bs B b1 b2 W h hN1)
  have KF := fun W h => Lib.hid (tcontains_any fs F f1 f2 W h hN2)
  have KS := fun W h => Lib.hid (scontains_any ss S s1 s2 W h hN3 hd)
  have HZ : Hid (ScOk x y z bs fs ss → scE x y z bs fs ss = 0) := scE_zero.2
  have HT : Hid (¬ ScOk x y z bs fs ss → scE x y z bs fs ss = 3) := scE_three
  clear hd
  generalize scE x y z bs fs ss = R at *
  cases h1 : geomOk x y z with
  | false =>
    have hgE : geomE x y z = 3 := by unfold geomE; rw [h1]; rfl
    rw [hgE] at KG
    have HR : Hid (R = 3) := HT.out (fun o => by rw [o.g] at h1; cases h1)
    clear HZ HT KB KF KS hgE h1
    go_enter Try.func49, Try.ntmps49
    go_wp2_with fail
    refine (KG _).out.mono ?_
    rintro e w2 ⟨rfl, hb⟩
    replace p3 := cell_below hb p3
    replace p4 := cell_below hb p4
    replace p5 := cell_below hb p5
    replace h := h.below hb
    replace hB := below_trans hB hb
    clear hb
    go_wp2_with fail
    go_ret
    exact ⟨by rw [HR.out]; rfl, hB⟩
  | true =>
  have hgE : geomE x y z = 0 := by unfold geomE; rw [h1]; rfl
  rw [hgE] at KG
  clear hgE
  by_cases l1 : 34 < b1
  · have d1 : decide ((34 : Int) < b1) = true := by rw [decide_eq_true_iff]; omega
    have d2 : decide (34 < b1) = true := by rw [decide_eq_true_iff]; omega
    have HR : Hid (R = 3) := HT.out (fun o => by have := o.b1; omega)
    clear HZ HT
    go_enter Try.func49, Try.ntmps49
    go_wp2_with fail
    refine (KG _).out.mono ?_
    rintro e w2 ⟨rfl, hb⟩
    replace p3 := cell_below hb p3
    replace p4 := cell_below hb p4
    replace p5 := cell_below hb p5
    replace h := h.below hb
    replace hB := below_trans hB hb
    clear hb
    go_wp2_with fail
    go_ret
    exact ⟨by rw [HR.out]; rfl, hB⟩
  have d1l1 : decide ((34 : Int) < b1) = false := by rw [decide_eq_false_iff_not]; omega
  have d2l1 : decide (34 < b1) = false := by rw [decide_eq_false_iff_not]; omega
  cases h2 : bs.all badOk with
  | false =>
    rw [h2] at KB
    have HR : Hid (R = 3) := HT.out (fun o => by rw [o.b] at h2; cases h2)
    clear HZ HT h2
    go_enter Try.func49, Try.ntmps49
    go_wp2_with fail
    refine (KG _).out.mono ?_
    rintro e w2 ⟨rfl, hb⟩
    replace p3 := cell_below hb p3
    replace p4 := cell_below hb p4
    replace p5 := cell_below hb p5
    replace h := h.below hb
    replace hB := below_trans hB hb
    clear hb
    go_wp2_with fail
    refine (KB _ h.b).out.mono ?_
    rintro e w3 ⟨rfl, hb⟩
    replace p3 := cell_below hb p3
    replace p4 := cell_below hb p4
    replace p5 := cell_below hb p5
    replace h := h.below hb
    replace hB := below_trans hB hb
    clear hb
    go_wp2_with fail
    go_ret
    exact ⟨by rw [HR.out]; rfl, hB⟩
  | true =>
  rw [h2] at KB
  by_cases l2 : 64 < f1
  · have d1 : decide ((64 : Int) < f1) = true := by rw [decide_eq_true_iff]; omega
    have d2 : decide (64 < f1) = true := by rw [decide_eq_true_iff]; omega
    have HR : Hid (R = 3) := HT.out (fun o => by have := o.f1; omega)
    clear HZ HT
    go_enter Try.func49, Try.ntmps49
    go_wp2_with fail
    refine (KG _).out.mono ?_
    rintro e w2 ⟨rfl, hb⟩
    replace p3 := cell_below hb p3
    replace p4 := cell_below hb p4
    replace p5 := cell_below hb p5
    replace h := h.below hb
    replace hB := below_trans hB hb
    clear hb
    go_wp2_with fail
    refine (KB _ h.b).out.mono ?_
    rintro e w3 ⟨rfl, hb⟩
    replace p3 := cell_below hb p3
    replace p4 := cell_below hb p4
    replace p5 := cell_below hb p5
    replace h := h.below hb
    replace hB := below_trans hB hb
    clear hb
    go_wp2_with fail
    go_ret
    exact ⟨by rw [HR.out]; rfl, hB⟩
  have d1l2 : decide ((64 : Int) < f1) = false := by rw [decide_eq_false_iff_not]; omega
  have d2l2 : decide (64 < f1) = false := by rw [decide_eq_false_iff_not]; omega
  cases h3 : fs.all faultOk with
  | false =>
    rw [h3] at KF
    have HR : Hid (R = 3) := HT.out (fun o => by rw [o.f] at h3; cases h3)
    clear HZ HT h3
    go_enter Try.func49, Try.ntmps49
    go_wp2_with fail
    refine (KG _).out.mono ?_
    rintro e w2 ⟨rfl, hb⟩
    replace p3 := cell_below hb p3
    replace p4 := cell_below hb p4
    replace p5 := cell_below hb p5
    replace h := h.below hb
    replace hB := below_trans hB hb
    clear hb
    go_wp2_with fail
    refine (KB _ h.b).out.mono ?_
    rintro e w3 ⟨rfl, hb⟩
    replace p3 := cell_below hb p3
    replace p4 := cell_below hb p4
    replace p5 := cell_below hb p5
    replace h := h.below hb
    replace hB := below_trans hB hb
    clear hb
    go_wp2_with fail
    refine (KF _ h.f).out.mono ?_
    rintro e w4 ⟨rfl, hb⟩
    replace p3 := cell_below hb p3
    replace p4 := cell_below hb p4
    replace p5 := cell_below hb p5
    replace h := h.below hb
    replace hB := below_trans hB hb
    clear hb
    go_wp2_with fail
    go_ret
    exact ⟨by rw [HR.out]; rfl, hB⟩
  | true =>
  rw [h3] at KF
  by_cases l3 : 4096 < s1
  · have d1 : decide ((4096 : Int) < s1) = true := by rw [decide_eq_true_iff]; omega
    have d2 : decide (4096 < s1) = true := by rw [decide_eq_true_iff]; omega
    have HR : Hid (R = 3) := HT.out (fun o => by have := o.s1; omega)
    clear HZ HT
    go_enter Try.func49, Try.ntmps49
    go_wp2_with fail
    refine (KG _).out.mono ?_
    rintro e w2 ⟨rfl, hb⟩
    replace p3 := cell_below hb p3
    replace p4 := cell_below hb p4
    replace p5 := cell_below hb p5
    replace h := h.below hb
    replace hB := below_trans hB hb
    clear hb
    go_wp2_with fail
    refine (KB _ h.b).out.mono ?_
    rintro e w3 ⟨rfl, hb⟩
    replace p3 := cell_below hb p3
    replace p4 := cell_below hb p4
    replace p5 := cell_below hb p5
    replace h := h.below hb
    replace hB := below_trans hB hb
    clear hb
    go_wp2_with fail
    refine (KF _ h.f).out.mono ?_
    rintro e w4 ⟨rfl, hb⟩
    replace p3 := cell_below hb p3
    replace p4 := cell_below hb p4
    replace p5 := cell_below hb p5
    replace h := h.below hb
    replace hB := below_trans hB hb
    clear hb
    go_wp2_with fail
    go_ret
    exact ⟨by rw [HR.out]; rfl, hB⟩
  have d1l3 : decide ((4096 : Int) < s1) = false := by rw [decide_eq_false_iff_not]; omega
  have d2l3 : decide (4096 < s1) = false := by rw [decide_eq_false_iff_not]; omega
  cases h4 : ss.all stepOk with
  | false =>
    rw [h4] at KS
    have HR : Hid (R = 3) := HT.out (fun o => by rw [o.s] at h4; cases h4)
    clear HZ HT h4
    go_enter Try.func49, Try.ntmps49
    go_wp2_with fail
    refine (KG _).out.mono ?_
    rintro e w2 ⟨rfl, hb⟩
    replace p3 := cell_below hb p3
    replace p4 := cell_below hb p4
    replace p5 := cell_below hb p5
    replace h := h.below hb
    replace hB := below_trans hB hb
    clear hb
    go_wp2_with fail
    refine (KB _ h.b).out.mono ?_
    rintro e w3 ⟨rfl, hb⟩
    replace p3 := cell_below hb p3
    replace p4 := cell_below hb p4
    replace p5 := cell_below hb p5
    replace h := h.below hb
    replace hB := below_trans hB hb
    clear hb
    go_wp2_with fail
    refine (KF _ h.f).out.mono ?_
    rintro e w4 ⟨rfl, hb⟩
    replace p3 := cell_below hb p3
    replace p4 := cell_below hb p4
    replace p5 := cell_below hb p5
    replace h := h.below hb
    replace hB := below_trans hB hb
    clear hb
    go_wp2_with fail
    refine (KS _ h.s).out.mono ?_
    rintro e w5 ⟨rfl, hb⟩
    replace p3 := cell_below hb p3
    replace p4 := cell_below hb p4
    replace p5 := cell_below hb p5
    replace h := h.below hb
    replace hB := below_trans hB hb
    clear hb
    go_wp2_with fail
    go_ret
    exact ⟨by rw [HR.out]; rfl, hB⟩
  | true =>
  rw [h4] at KS
  have HR : Hid (R = 0) := HZ.out ⟨h1, by omega, h2, by omega, h3, by omega, h4⟩
  clear HZ HT h1 h2 h3 h4
  go_enter Try.func49, Try.ntmps49
  go_wp2_with fail
  refine (KG _).out.mono ?_
  rintro e w2 ⟨rfl, hb⟩
  replace p3 := cell_below hb p3
  replace p4 := cell_below hb p4
  replace p5 := cell_below hb p5
  replace h := h.below hb
  replace hB := below_trans hB hb
  clear hb
  go_wp2_with fail
  refine (KB _ h.b).out.mono ?_
  rintro e w3 ⟨rfl, hb⟩
  replace p3 := cell_below hb p3
  replace p4 := cell_below hb p4
  replace p5 := cell_below hb p5
  replace h := h.below hb
  replace hB := below_trans hB hb
  clear hb
  go_wp2_with fail
  refine (KF _ h.f).out.mono ?_
  rintro e w4 ⟨rfl, hb⟩
  replace p3 := cell_below hb p3
  replace p4 := cell_below hb p4
  replace p5 := cell_below hb p5
  replace h := h.below hb
  replace hB := below_trans hB hb
  clear hb
  go_wp2_with fail
  refine (KS _ h.s).out.mono ?_
  rintro e w5 ⟨rfl, hb⟩
  replace p3 := cell_below hb p3
  replace p4 := cell_below hb p4
  replace p5 := cell_below hb p5
  replace h := h.below hb
  replace hB := below_trans hB hb
  clear hb
  go_wp2_with fail
  go_ret
  exact ⟨by rw [HR.out]; rfl, hB⟩
end Go.Proofs.Ytefipigdkdopcaa
