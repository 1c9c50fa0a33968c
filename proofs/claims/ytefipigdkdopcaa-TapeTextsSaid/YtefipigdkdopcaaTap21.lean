/- Layer 41: contracts of both Sames. No condition but lengths' bounds. -/
import Derived.Test.YtefipigdkdopcaaTap20
namespace Go.Proofs.Ytefipigdkdopcaa
open Go.RowKit

def sameP (a b : ScP) : Bool := decide ((a.x = b.x ∧ a.y = b.y ∧ a.z = b.z) ∧ a.bl = b.bl ∧ a.fl = b.fl ∧ a.ss = b.ss)
theorem sameP_refl (a : ScP) : sameP a a = true := by unfold sameP; simp
theorem run_eq_geom (x y z x' y' z' : Int) (W : World) : (Op.equalIn 10000 65 (.agg #[.int .i64 x, .int .i64 y, .int .i64 z]) (.agg #[.int .i64 x', .int .i64 y', .int .i64 z'])).run Try.prog W = .ok (decide (x = x' ∧ y = y' ∧ z = z')) W := by
  have hS : Try.prog.underlying 65 = some (.struct (Try.prog.fieldsOf 65)) := by kernel_rfl
  have hp : Try.prog.stoodInHeld 65 = false := by kernel_rfl
  have u1 := Try.underlying3
  rw [show (10000 : Nat) = 9999 + 1 from rfl, run_equalIn_agg W 9999 65 _ _ hS hp]
  simp only [Program.fieldsOf, Try.underlying65]
  go_simp
  by_cases h1 : x = x' <;> by_cases h2 : y = y' <;> by_cases h3 : z = z' <;> simp [h1, h2, h3]

set_option maxRecDepth 100000 in
set_option maxHeartbeats 16000000 in
theorem tsame_any (x y z : Int) (bl : List Int) (fs : List FtV) (ss : List StV) (B : Option Addr) (b1 b2 : Nat) (F : Option Addr) (f1 f2 : Nat) (S : Option Addr) (s1 s2 : Nat)
    (x' y' z' : Int) (bl' : List Int) (fs' : List FtV) (ss' : List StV) (B' : Option Addr) (b1' b2' : Nat) (F' : Option Addr) (f1' f2' : Nat) (S' : Option Addr) (s1' s2' : Nat) (w : World)
    (h : Sc3 w bl fs ss B b1 b2 F f1 f2 S s1 s2) (hm : AllFt w fs) (hN : b1 ≤ 1000000 ∧ f1 ≤ 1000000 ∧ s1 ≤ 1000000)
    (h' : Sc3 w bl' fs' ss' B' b1' b2' F' f1' f2' S' s1' s2') (hm' : AllFt w fs') (hN' : b1' ≤ 1000000 ∧ f1' ≤ 1000000 ∧ s1' ≤ 1000000) :
    Calls Try.prog 50 #[.agg (scA x y z B b1 b2 F f1 f2 S s1 s2), .agg (scA x' y' z' B' b1' b2' F' f1' f2' S' s1' s2')] w fun e w' => e = .returned (.bool (sameP ⟨x, y, z, bl, fs.map ftP, ss⟩ ⟨x', y', z', bl', fs'.map ftP, ss'⟩)) ∧ Below w.heap.size w w' := by
  obtain ⟨hN1, hN2, hN3⟩ := hN
  obtain ⟨hM1, hM2, hM3⟩ := hN'
  obtain ⟨hB, hca, hcb⟩ := two_cells w (scA x y z B b1 b2 F f1 f2 S s1 s2) (scA x' y' z' B' b1' b2' F' f1' f2' S' s1' s2') 69 69
  have p0 := hca 0 (.int .i64 x) rfl
  have p1 := hca 1 (.int .i64 y) rfl
  have p2 := hca 2 (.int .i64 z) rfl
  have p3 := hca 3 (.slice B b1 b2) rfl
  have p4 := hca 4 (.slice F f1 f2) rfl
  have p5 := hca 5 (.slice S s1 s2) rfl
  have q0 := hcb 0 (.int .i64 x') rfl
  have q1 := hcb 1 (.int .i64 y') rfl
  have q2 := hcb 2 (.int .i64 z') rfl
  have q3 := hcb 3 (.slice B' b1' b2') rfl
  have q4 := hcb 4 (.slice F' f1' f2') rfl
  have q5 := hcb 5 (.slice S' s1' s2') rfl
  replace h := h.below hB
  replace hm := hm.below hB
  replace h' := h'.below hB
  replace hm' := hm'.below hB
  have HS : Hid (sameP ⟨x, y, z, bl, fs.map ftP, ss⟩ ⟨x', y', z', bl', fs'.map ftP, ss'⟩ = decide ((x = x' ∧ y = y' ∧ z = z') ∧ bl = bl' ∧ fs.map ftP = fs'.map ftP ∧ ss = ss')) := rfl
  generalize sameP ⟨x, y, z, bl, fs.map ftP, ss⟩ ⟨x', y', z', bl', fs'.map ftP, ss'⟩ = R at *
  have HG := Lib.hid (fun W => run_eq_geom x y z x' y' z' W)
  clear hca hcb
  have KB := fun W h h' => Lib.hid (iequal_any bl bl' B B' b1 b2 b1' b2' W h h' hN1 hM1)
  have KF := fun W h h' a a' => Lib.hid (tequal_any fs fs' F F' f1 f2 f1' f2' W h h' hN2 hM2 a a')
  have KS := fun W h h' => Lib.hid (stequal_any ss ss' S S' s1 s2 s1' s2' W h h' hN3 hM3)
  by_cases hg : x = x' ∧ y = y' ∧ z = z'
  case neg =>
    have HR : Hid (R = false) := by show _ = _; rw [HS.out, decide_eq_false_iff_not]; exact fun h => hg h.1
    have hEq : ∀ W : World, (Op.equalIn 10000 65 (.agg #[.int .i64 x, .int .i64 y, .int .i64 z]) (.agg #[.int .i64 x', .int .i64 y', .int .i64 z'])).run Try.prog W = .ok false W := fun W => (HG.out W).trans (by rw [decide_eq_false hg])
    clear HS HG hg
    go_enter Try.func50, Try.ntmps50
    go_upto_region 1 with fail
    generalize (w.alloc (.cells (scA x y z B b1 b2 F f1 f2 S s1 s2) 69)).alloc (.cells (scA x' y' z' B' b1' b2' F' f1' f2' S' s1' s2') 69) = w1 at *
    go_wp2_with fail
    go_ret
    exact ⟨ret_bool HR.out.symm, hB⟩
  have hEq : ∀ W : World, (Op.equalIn 10000 65 (.agg #[.int .i64 x, .int .i64 y, .int .i64 z]) (.agg #[.int .i64 x', .int .i64 y', .int .i64 z'])).run Try.prog W = .ok true W := fun W => (HG.out W).trans (by rw [decide_eq_true hg])
  have HS2 : Hid (R = decide (bl = bl' ∧ fs.map ftP = fs'.map ftP ∧ ss = ss')) := by show _ = _; rw [HS.out, decide_eq_decide]; exact ⟨fun h => h.2, fun h => ⟨hg, h⟩⟩
  clear HS HG hg
  by_cases hb1 : bl = bl'
  case neg =>
    have HR : Hid (R = false) := by show _ = _; rw [HS2.out, decide_eq_false_iff_not]; exact fun h => hb1 h.1
    rw [decide_eq_false hb1] at KB
    clear HS2 hb1
    go_enter Try.func50, Try.ntmps50
    go_upto_region 1 with fail
    generalize (w.alloc (.cells (scA x y z B b1 b2 F f1 f2 S s1 s2) 69)).alloc (.cells (scA x' y' z' B' b1' b2' F' f1' f2' S' s1' s2') 69) = w1 at *
    go_wp2_with fail
    refine (KB _ h.b h'.b).out.mono ?_
    rintro e w2 ⟨rfl, hb⟩
    replace hB := below_trans hB hb
    clear hb
    go_wp2_with fail
    go_ret
    exact ⟨ret_bool HR.out.symm, hB⟩
  rw [decide_eq_true hb1] at KB
  by_cases hf1 : fs.map ftP = fs'.map ftP
  case neg =>
    have HR : Hid (R = false) := by show _ = _; rw [HS2.out, decide_eq_false_iff_not]; exact fun h => hf1 h.2.1
    rw [decide_eq_false hf1] at KF
    clear HS2 hf1 hb1
    go_enter Try.func50, Try.ntmps50
    go_upto_region 1 with fail
    generalize (w.alloc (.cells (scA x y z B b1 b2 F f1 f2 S s1 s2) 69)).alloc (.cells (scA x' y' z' B' b1' b2' F' f1' f2' S' s1' s2') 69) = w1 at *
    go_wp2_with fail
    refine (KB _ h.b h'.b).out.mono ?_
    rintro e w2 ⟨rfl, hb⟩
    replace p4 := cell_below hb p4
    replace p5 := cell_below hb p5
    replace q4 := cell_below hb q4
    replace q5 := cell_below hb q5
    replace h := h.below hb
    replace h' := h'.below hb
    replace hm := hm.below hb
    replace hm' := hm'.below hb
    replace hB := below_trans hB hb
    clear hb
    go_wp2_with fail
    refine (KF _ h.f h'.f hm hm').out.mono ?_
    rintro e w3 ⟨rfl, hb⟩
    replace hB := below_trans hB hb
    clear hb
    go_wp2_with fail
    go_ret
    exact ⟨ret_bool HR.out.symm, hB⟩
  rw [decide_eq_true hf1] at KF
  have HR : Hid (R = decide (ss = ss')) := by show _ = _; rw [HS2.out, decide_eq_decide]; exact ⟨fun h => h.2.2, fun h => ⟨hb1, hf1, h⟩⟩
  clear HS2 hf1 hb1
  generalize decide (ss = ss') = q at *
  go_enter Try.func50, Try.ntmps50
  go_upto_region 1 with fail
  generalize (w.alloc (.cells (scA x y z B b1 b2 F f1 f2 S s1 s2) 69)).alloc (.cells (scA x' y' z' B' b1' b2' F' f1' f2' S' s1' s2') 69) = w1 at *
  go_wp2_with fail
  refine (KB _ h.b h'.b).out.mono ?_
  rintro e w2 ⟨rfl, hb⟩
  replace p4 := cell_below hb p4
  replace p5 := cell_below hb p5
  replace q4 := cell_below hb q4
  replace q5 := cell_below hb q5
  replace h := h.below hb
  replace h' := h'.below hb
  replace hm := hm.below hb
  replace hm' := hm'.below hb
  replace hB := below_trans hB hb
  clear hb
  go_wp2_with fail
  refine (KF _ h.f h'.f hm hm').out.mono ?_
  rintro e w3 ⟨rfl, hb⟩
  replace p5 := cell_below hb p5
  replace q5 := cell_below hb q5
  replace h := h.below hb
  replace h' := h'.below hb
  replace hm := hm.below hb
  replace hm' := hm'.below hb
  replace hB := below_trans hB hb
  clear hb
  go_wp2_with fail
  refine (KS _ h.s h'.s).out.mono ?_
  rintro e w4 ⟨rfl, hb⟩
  replace hB := below_trans hB hb
  clear hb
  go_wp2_with fail
  go_ret
  exact ⟨ret_bool HR.out.symm, hB⟩

set_option maxRecDepth 100000 in
set_option maxHeartbeats 16000000 in
theorem r41same_any (x y z : Int) (bl : List Int) (fs : List FtV) (ss : List StV) (B : Option Addr) (b1 b2 : Nat) (F : Option Addr) (f1 f2 : Nat) (S : Option Addr) (s1 s2 : Nat)
    (x' y' z' : Int) (bl' : List Int) (fs' : List FtV) (ss' : List StV) (B' : Option Addr) (b1' b2' : Nat) (F' : Option Addr) (f1' f2' : Nat) (S' : Option Addr) (s1' s2' : Nat) (w : World)
    (h : Sc3 w bl fs ss B b1 b2 F f1 f2 S s1 s2) (hm : AllFt w fs) (hN : b1 ≤ 1000000 ∧ f1 ≤ 1000000 ∧ s1 ≤ 1000000)
    (h' : Sc3 w bl' fs' ss' B' b1' b2' F' f1' f2' S' s1' s2') (hm' : AllFt w fs') (hN' : b1' ≤ 1000000 ∧ f1' ≤ 1000000 ∧ s1' ≤ 1000000) :
    Calls Try.prog 40 #[.agg (scA x y z B b1 b2 F f1 f2 S s1 s2), .agg (scA x' y' z' B' b1' b2' F' f1' f2' S' s1' s2')] w fun e w' => e = .returned (.bool (sameP ⟨x, y, z, bl, fs.map ftP, ss⟩ ⟨x', y', z', bl', fs'.map ftP, ss'⟩)) ∧ Below w.heap.size w w' := by
  obtain ⟨hN1, hN2, hN3⟩ := hN
  obtain ⟨hM1, hM2, hM3⟩ := hN'
  obtain ⟨hB, hca, hcb⟩ := two_cells w (scA x y z B b1 b2 F f1 f2 S s1 s2) (scA x' y' z' B' b1' b2' F' f1' f2' S' s1' s2') 73 73
  have p0 := hca 0 (.int .i64 x) rfl
  have p1 := hca 1 (.int .i64 y) rfl
  have p2 := hca 2 (.int .i64 z) rfl
  have p3 := hca 3 (.slice B b1 b2) rfl
  have p4 := hca 4 (.slice F f1 f2) rfl
  have p5 := hca 5 (.slice S s1 s2) rfl
  have q0 := hcb 0 (.int .i64 x') rfl
  have q1 := hcb 1 (.int .i64 y') rfl
  have q2 := hcb 2 (.int .i64 z') rfl
  have q3 := hcb 3 (.slice B' b1' b2') rfl
  have q4 := hcb 4 (.slice F' f1' f2') rfl
  have q5 := hcb 5 (.slice S' s1' s2') rfl
  replace h := h.below hB
  replace hm := hm.below hB
  replace h' := h'.below hB
  replace hm' := hm'.below hB
  have HS : Hid (sameP ⟨x, y, z, bl, fs.map ftP, ss⟩ ⟨x', y', z', bl', fs'.map ftP, ss'⟩ = decide ((x = x' ∧ y = y' ∧ z = z') ∧ bl = bl' ∧ fs.map ftP = fs'.map ftP ∧ ss = ss')) := rfl
  generalize sameP ⟨x, y, z, bl, fs.map ftP, ss⟩ ⟨x', y', z', bl', fs'.map ftP, ss'⟩ = R at *
  have HG := Lib.hid (fun W => run_eq_geom x y z x' y' z' W)
  clear hca hcb
  have KB := fun W h h' => Lib.hid (refints_any bl bl' B B' b1 b2 b1' b2' W h h' hN1 hM1)
  have hfl := h.f.ftlen
  have hfl' := h'.f.ftlen
  have hsl := h.s.stlen
  have hsl' := h'.s.stlen
  have hc1 := h.f.cm
  have hc2 := h'.f.cm
  have hc3 := h.s.cm
  have hc4 := h'.s.cm
  have hn1 := h.f.nc
  have hn2 := h'.f.nc
  have hn3 := h.s.nc
  have hn4 := h'.s.nc
  unfold maxLen at hc1 hc2 hc3 hc4
  by_cases hg : x = x' ∧ y = y' ∧ z = z'
  case neg =>
    have HR : Hid (R = false) := by show _ = _; rw [HS.out, decide_eq_false_iff_not]; exact fun h => hg h.1
    have hEq : ∀ W : World, (Op.equalIn 10000 65 (.agg #[.int .i64 x, .int .i64 y, .int .i64 z]) (.agg #[.int .i64 x', .int .i64 y', .int .i64 z'])).run Try.prog W = .ok false W := fun W => (HG.out W).trans (by rw [decide_eq_false hg])
    clear HS HG hg
    go_enter Try.func40, Try.ntmps40
    go_upto_region 1 with fail
    generalize (w.alloc (.cells (scA x y z B b1 b2 F f1 f2 S s1 s2) 73)).alloc (.cells (scA x' y' z' B' b1' b2' F' f1' f2' S' s1' s2') 73) = w1 at *
    go_wp2_with fail
    go_ret
    exact ⟨ret_bool HR.out.symm, hB⟩
  have hEq : ∀ W : World, (Op.equalIn 10000 65 (.agg #[.int .i64 x, .int .i64 y, .int .i64 z]) (.agg #[.int .i64 x', .int .i64 y', .int .i64 z'])).run Try.prog W = .ok true W := fun W => (HG.out W).trans (by rw [decide_eq_true hg])
  have HS2 : Hid (R = decide (bl = bl' ∧ fs.map ftP = fs'.map ftP ∧ ss = ss')) := by show _ = _; rw [HS.out, decide_eq_decide]; exact ⟨fun h => h.2, fun h => ⟨hg, h⟩⟩
  clear HS HG hg
  by_cases hb1 : bl = bl'
  case neg =>
    have HR : Hid (R = false) := by show _ = _; rw [HS2.out, decide_eq_false_iff_not]; exact fun h => hb1 h.1
    rw [decide_eq_false hb1] at KB
    clear HS2 hb1
    go_enter Try.func40, Try.ntmps40
    go_upto_region 1 with fail
    generalize (w.alloc (.cells (scA x y z B b1 b2 F f1 f2 S s1 s2) 73)).alloc (.cells (scA x' y' z' B' b1' b2' F' f1' f2' S' s1' s2') 73) = w1 at *
    go_wp2_with fail
    refine (KB _ h.b h'.b).out.mono ?_
    rintro e w2 ⟨rfl, hb⟩
    replace hB := below_trans hB hb
    clear hb
    go_wp2_with fail
    go_ret
    exact ⟨ret_bool HR.out.symm, hB⟩
  rw [decide_eq_true hb1] at KB
  by_cases hf1 : f1 = f1'
  case neg =>
    have HR : Hid (R = false) := by show _ = _; rw [HS2.out, decide_eq_false_iff_not]; intro h; have := congrArg List.length h.2.1; simp at this; omega
    have d1 : ((f1 : Int) != (f1' : Int)) = true := by rw [bne_iff_ne]; omega
    clear HS2 hf1 hb1
    go_enter Try.func40, Try.ntmps40
    go_upto_region 1 with fail
    generalize (w.alloc (.cells (scA x y z B b1 b2 F f1 f2 S s1 s2) 73)).alloc (.cells (scA x' y' z' B' b1' b2' F' f1' f2' S' s1' s2') 73) = w1 at *
    go_wp2_with fail
    refine (KB _ h.b h'.b).out.mono ?_
    rintro e w2 ⟨rfl, hb⟩
    replace p4 := cell_below hb p4
    replace p5 := cell_below hb p5
    replace q4 := cell_below hb q4
    replace q5 := cell_below hb q5
    replace hB := below_trans hB hb
    clear hb
    go_wp2_with fail
    go_ret
    exact ⟨ret_bool HR.out.symm, hB⟩
  subst hf1
  by_cases hs1 : s1 = s1'
  case neg =>
    have HR : Hid (R = false) := by show _ = _; rw [HS2.out, decide_eq_false_iff_not]; intro h; have := congrArg List.length h.2.2; omega
    have d1 : ((s1 : Int) != (s1' : Int)) = true := by rw [bne_iff_ne]; omega
    clear HS2 hs1 hb1
    go_enter Try.func40, Try.ntmps40
    go_upto_region 1 with fail
    generalize (w.alloc (.cells (scA x y z B b1 b2 F f1 f2 S s1 s2) 73)).alloc (.cells (scA x' y' z' B' b1' b2' F' f1 f2' S' s1' s2') 73) = w1 at *
    go_wp2_with fail
    refine (KB _ h.b h'.b).out.mono ?_
    rintro e w2 ⟨rfl, hb⟩
    replace p4 := cell_below hb p4
    replace p5 := cell_below hb p5
    replace q4 := cell_below hb q4
    replace q5 := cell_below hb q5
    replace hB := below_trans hB hb
    clear hb
    go_wp2_with fail
    go_ret
    exact ⟨ret_bool HR.out.symm, hB⟩
  subst hs1
  have HR : Hid (R = decide (fs.map ftP = fs'.map ftP ∧ ss = ss')) := by show _ = _; rw [HS2.out, decide_eq_decide]; exact ⟨fun h => h.2, fun h => ⟨hb1, h⟩⟩
  clear HS2 hb1
  go_enter Try.func40, Try.ntmps40
  go_upto_region 1 with fail
  generalize (w.alloc (.cells (scA x y z B b1 b2 F f1 f2 S s1 s2) 73)).alloc (.cells (scA x' y' z' B' b1' b2' F' f1 f2' S' s1 s2') 73) = w1 at *
  go_wp2_with fail
  refine (KB _ h.b h'.b).out.mono ?_
  rintro e w2 ⟨rfl, hb⟩
  replace p4 := cell_below hb p4
  replace p5 := cell_below hb p5
  replace q4 := cell_below hb q4
  replace q5 := cell_below hb q5
  replace h := h.below hb
  replace h' := h'.below hb
  replace hm := hm.below hb
  replace hm' := hm'.below hb
  replace hB := below_trans hB hb
  clear hb
  clear p0 p1 p2 p3 q0 q1 q2 q3 hEq KB
  go_wp2_with fail
  go_loopw [5] (fun i wr => ∃ j : Nat, j ≤ f1 ∧ i = .int .i64 j ∧ Hid ((fs.map ftP).take j = (fs'.map ftP).take j) ∧ Below w2.heap.size w2 wr) (fun i _ => f1 - (intOf i).toNat)
  case atStart => exact ⟨0, by omega, rfl, Lib.hid rfl, Below.refl _ _⟩
  case round =>
    obtain ⟨j, hj, rfl, HE, hBr⟩ := hrel
    have r4 := cell_below hBr p4
    have k4 := cell_below hBr q4
    by_cases hlt : j < f1
    · obtain ⟨ad, rfl⟩ := h.f.some_of_pos (by omega)
      obtain ⟨bd, rfl⟩ := h'.f.some_of_pos (by omega)
      obtain ⟨e0, e1, e2⟩ := (h.f.below hBr).fault j (by omega)
      obtain ⟨g0, g1, g2⟩ := (h'.f.below hBr).fault j (by omega)
      have HT := Lib.hid (take_succ_eq (fs := fs.map ftP) (gs := fs'.map ftP) (j := j) (by simp; omega) (by simp; omega) HE.out)
      have HN := Lib.hid (ne_of_at (fs := fs.map ftP) (gs := fs'.map ftP) (j := j) (by simp; omega) (by simp; omega))
      have h1 := (hm fs[j] (List.getElem_mem _)).below hBr
      have h2 := (hm' fs'[j] (List.getElem_mem _)).below hBr
      rw [List.getElem_map, List.getElem_map] at HT HN
      have hq1 : (j : Int) < f1 := by omega
      have m1 : ((f1 : Int) ≤ j) = False := by rw [eq_iff_iff, iff_false]; omega
      clear HE h h' hm hm' p5 q5
      generalize fs[j] = f at *
      generalize fs'[j] = g at *
      have HD : Hid (ftP f = ftP g ↔ f.at_ = g.at_ ∧ f.k = g.k ∧ f.x = g.x) := by show _ ↔ _; unfold ftP; simp
      generalize ftP f = pf at *
      generalize ftP g = pg at *
      obtain ⟨f0, f1', f2', f3, f4, f5⟩ := f
      obtain ⟨k0, k1, k2, k3, kk4, k5⟩ := g
      dsimp only at e0 e1 e2 g0 g1 g2 h1 h2 HD
      have s1k := fun j => run_string_of (P := Try.prog) 53 9 5 Try.underlying53 Try.underlying5 Try.underlying9 (h1.below (below_drewN (Below.refl _ _) j))
      have s2k := fun j => run_string_of (P := Try.prog) 53 9 5 Try.underlying53 Try.underlying5 Try.underlying9 (h2.below (below_drewN (Below.refl _ _) j))
      clear h1 h2
      by_cases c : f0 = k0
      case neg =>
        have HR2 : Hid (R = false) := by show _ = _; rw [HR.out, decide_eq_false_iff_not]; exact fun h => HN.out (fun e => c (HD.out.1 e).1) h.1
        have d1 : (f0 == k0) = false := by rw [beq_eq_false_iff_ne]; exact c
        have d2 : (f0 != k0) = true := by rw [bne_iff_ne]; exact c
        clear HR HN HT HD c
        go_wp2_with fail
        go_quiet (fail)
        go_wp2_with fail
        go_ret
        exact ⟨ret_bool HR2.out.symm, below_trans hB (below_drewN hBr _)⟩
      subst c
      by_cases c : f1' = k1
      case neg =>
        have HR2 : Hid (R = false) := by show _ = _; rw [HR.out, decide_eq_false_iff_not]; exact fun h => HN.out (fun e => c (HD.out.1 e).2.1) h.1
        have d1 : (f1' == k1) = false := by rw [beq_eq_false_iff_ne]; exact c
        have d2 : (f1' != k1) = true := by rw [bne_iff_ne]; exact c
        clear HR HN HT HD c
        go_wp2_with fail
        go_quiet (fail)
        go_wp2_with fail
        go_ret
        exact ⟨ret_bool HR2.out.symm, below_trans hB (below_drewN hBr _)⟩
      subst c
      by_cases c : f5 = k5
      case neg =>
        have HR2 : Hid (R = false) := by show _ = _; rw [HR.out, decide_eq_false_iff_not]; exact fun h => HN.out (fun e => c (HD.out.1 e).2.2) h.1
        have d1 : (f5 == k5) = false := by rw [beq_eq_false_iff_ne]; exact c
        have d2 : (f5 != k5) = true := by rw [bne_iff_ne]; exact c
        clear HR HN HT HD c
        go_wp2_with fail
        go_quiet (fail)
        go_wp2_with fail
        go_ret
        exact ⟨ret_bool HR2.out.symm, below_trans hB (below_drewN hBr _)⟩
      subst c
      have HT2 := Lib.hid (HT.out (HD.out.2 ⟨rfl, rfl, rfl⟩))
      clear HT HN HD
      go_wp2_with fail
      go_quiet (fail)
      go_wp2_with fail
      go_roundw
      case rel => exact ⟨j + 1, by omega, by go_num, HT2, below_drewN hBr _⟩
      case measure => simp [intOf]; omega
    · obtain rfl : j = f1 := by omega
      have HE2 := HE.out
      rw [List.take_of_length_le (by simp; omega), List.take_of_length_le (by simp; omega)] at HE2
      have HR2 : Hid (R = decide (ss = ss')) := by show _ = _; rw [HR.out, decide_eq_decide]; exact ⟨fun h => h.2, fun h => ⟨HE2, h⟩⟩
      have hjn : ¬ (j : Int) < (j : Int) := by omega
      clear HE HE2 HR
      go_wp2_with fail
      clear r4 k4
      go_loopw [6] (fun i wr => ∃ k : Nat, k ≤ s1 ∧ i = .int .i64 k ∧ Hid (ss.take k = ss'.take k) ∧ Below w2.heap.size w2 wr) (fun i _ => s1 - (intOf i).toNat)
      case atStart => exact ⟨0, by omega, rfl, Lib.hid rfl, hBr⟩
      case round =>
        clear hBr
        obtain ⟨k, hk, rfl, HE, hBr⟩ := hrel
        have r5 := cell_below hBr p5
        have k5 := cell_below hBr q5
        by_cases hlt : k < s1
        · obtain ⟨ad, rfl⟩ := h.s.some_of_pos (by omega)
          obtain ⟨bd, rfl⟩ := h'.s.some_of_pos (by omega)
          obtain ⟨e0, e1, e2, e3, e4⟩ := (h.s.below hBr).step k (by omega)
          obtain ⟨g0, g1, g2, g3, g4⟩ := (h'.s.below hBr).step k (by omega)
          have HT := Lib.hid (take_succ_eq (fs := ss) (gs := ss') (j := k) (by omega) (by omega) HE.out)
          have HN := Lib.hid (ne_of_at (fs := ss) (gs := ss') (j := k) (by omega) (by omega))
          have hq1 : (k : Int) < s1 := by omega
          clear HE h h' hm hm' p4 q4
          generalize ss[k] = f at *
          generalize ss'[k] = g at *
          have HEQ := Lib.hid (fun W => run_eq_st f g W)
          obtain ⟨fk, fd, fp, fa, fb⟩ := f
          obtain ⟨gk, gd, gp, ga, gb⟩ := g
          dsimp only at e0 e1 e2 e3 e4 g0 g1 g2 g3 g4
          by_cases heq : (⟨fk, fd, fp, fa, fb⟩ : StV) = ⟨gk, gd, gp, ga, gb⟩
          · have HT2 := Lib.hid (HT.out heq)
            have hEq : ∀ W : World, (Op.equalIn 10000 78 (.agg #[.int .i64 fk, .string ⟨fd.toArray⟩, .int .i64 fp, .int .u64 (fa : Int), .int .u64 (fb : Int)]) (.agg #[.int .i64 gk, .string ⟨gd.toArray⟩, .int .i64 gp, .int .u64 (ga : Int), .int .u64 (gb : Int)])).run Try.prog W = .ok true W := fun W => (HEQ.out W).trans (by rw [decide_eq_true heq])
            clear HT HN HEQ heq
            go_wp2_with fail
            go_quiet (fail)
            go_wp2_with fail
            go_roundw
            case rel => exact ⟨k + 1, by omega, by go_num, HT2, below_drewN hBr _⟩
            case measure => simp [intOf]; omega
          · have HR3 : Hid (R = false) := by show _ = _; rw [HR2.out, decide_eq_false_iff_not]; exact HN.out heq
            have hEq : ∀ W : World, (Op.equalIn 10000 78 (.agg #[.int .i64 fk, .string ⟨fd.toArray⟩, .int .i64 fp, .int .u64 (fa : Int), .int .u64 (fb : Int)]) (.agg #[.int .i64 gk, .string ⟨gd.toArray⟩, .int .i64 gp, .int .u64 (ga : Int), .int .u64 (gb : Int)])).run Try.prog W = .ok false W := fun W => (HEQ.out W).trans (by rw [decide_eq_false heq])
            clear HT HN HEQ heq HR2
            go_wp2_with fail
            go_quiet (fail)
            go_wp2_with fail
            go_ret
            exact ⟨ret_bool HR3.out.symm, below_trans hB (below_drewN hBr _)⟩
        · obtain rfl : k = s1 := by omega
          have HE2 := HE.out
          rw [List.take_of_length_le (by omega), List.take_of_length_le (by omega)] at HE2
          have HR3 : Hid (R = true) := by show _ = _; rw [HR2.out, decide_eq_true_iff]; exact HE2
          have hkn : ¬ (k : Int) < (k : Int) := by omega
          clear HE HE2 HR2
          go_wp2_with fail
          go_ret
          exact ⟨ret_bool HR3.out.symm, below_trans hB hBr⟩
end Go.Proofs.Ytefipigdkdopcaa
