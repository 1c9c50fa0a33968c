/- Layer 41: rows of numbers compared; the reference's Same of two empty scripts. No condition but lengths' bounds. Not beside XRep16, which names the same things. -/
import Derived.Test.YtefipigdkdopcaaTap17
namespace Go.Proofs.Ytefipigdkdopcaa
open Go.RowKit

theorem take_succ_eq {α : Type} {fs gs : List α} {j : Nat} (h1 : j < fs.length) (h2 : j < gs.length) (h : fs.take j = gs.take j) (he : fs[j] = gs[j]) : fs.take (j + 1) = gs.take (j + 1) := by
  rw [List.take_succ_eq_append_getElem h1, List.take_succ_eq_append_getElem h2, h, he]
theorem ne_of_at {α : Type} {fs gs : List α} {j : Nat} (h1 : j < fs.length) (h2 : j < gs.length) (he : fs[j] ≠ gs[j]) : fs ≠ gs := by
  intro h; subst h; exact he rfl

set_option maxRecDepth 100000 in
set_option maxHeartbeats 4000000 in
theorem refints_any (fs gs : List (Int)) (A B : Option Addr) (n c m k : Nat) (w : World) (hx : Rd w A n c 1 (inCs fs)) (hy : Rd w B m k 1 (inCs gs)) (hN : n ≤ 1000000) (hM : m ≤ 1000000) :
    Calls Try.prog 69 #[.slice A n c, .slice B m k] w fun e w' => e = .returned (.bool (decide (fs = gs))) ∧ Below w.heap.size w w' := by
  have hxl := hx.ilen
  have hyl := hy.ilen
  have hB := Below.refl w.heap.size w
  have hc1 := hx.cm
  have hc2 := hy.cm
  unfold maxLen at hc1 hc2
  by_cases hne : n = m
  · subst hne
    go_enter Try.func69, Try.ntmps69
    go_wp2_with fail
    go_loopw [5] (fun i wr => ∃ j : Nat, j ≤ n ∧ i = .int .i64 j ∧ fs.take j = gs.take j ∧ Below w.heap.size w wr) (fun i _ => n - (intOf i).toNat)
    case atStart => exact ⟨0, by omega, rfl, rfl, hB⟩
    case round =>
      obtain ⟨j, hj, rfl, het, hBr⟩ := hrel
      by_cases hlt : j < n
      · obtain ⟨ad, rfl⟩ := hx.some_of_pos (by omega)
        obtain ⟨bd, rfl⟩ := hy.some_of_pos (by omega)
        have e0 := (hx.below hBr).icell j (by omega)
        have g0 := (hy.below hBr).icell j (by omega)
        have HT := Lib.hid (take_succ_eq (fs := fs) (gs := gs) (j := j) (by omega) (by omega) het)
        have HN := Lib.hid (ne_of_at (fs := fs) (gs := gs) (j := j) (by omega) (by omega))
        have hq1 : (j : Int) < n := by omega
        clear het hx hy
        generalize fs[j] = f at *
        generalize gs[j] = g at *

        by_cases heq : f = g
        · obtain rfl := heq
          have HT2 := Lib.hid (HT.out rfl)
          clear HT HN
          go_wp2_with fail
          go_quiet (fail)
          go_wp2_with fail
          go_roundw
          case rel => exact ⟨j + 1, by omega, by go_num, HT2.out, below_drewN hBr _⟩
          case measure => simp [intOf]; omega
        · have HN2 : Hid (decide (fs = gs) = false) := by
            show _ = _
            rw [decide_eq_false_iff_not]
            refine HN.out (fun h => heq ?_)
            exact h
          have b1 : (f == g) = false := by rw [beq_eq_false_iff_ne]; exact heq
          have b3 : decide (f = g) = false := by rw [decide_eq_false_iff_not]; exact heq
          clear HT HN heq
          all_goals
            go_wp2_with fail
            go_quiet (fail)
            go_wp2_with fail
            go_ret
            exact ⟨ret_bool HN2.out.symm, below_drewN hBr _⟩
      · obtain rfl : j = n := by omega
        rw [List.take_of_length_le (by omega), List.take_of_length_le (by omega)] at het
        subst het
        have hjn : ¬ (j : Int) < (j : Int) := by omega
        clear hx hy
        go_wp2_with fail
        go_ret
        exact ⟨ret_bool (by simp), hBr⟩
  · have hd : decide (fs = gs) = false := by rw [decide_eq_false_iff_not]; intro h; subst h; omega
    rw [hd]
    have h1 : ((n : Int) != (m : Int)) = true := by rw [bne_iff_ne]; omega
    clear hd hne
    go_enter Try.func69, Try.ntmps69
    go_wp2_with fail
    go_ret
    exact ⟨rfl, hB⟩

set_option maxRecDepth 100000 in
set_option maxHeartbeats 4000000 in
theorem r41same_zero (w : World) : Calls Try.prog 40 #[.agg zSc, .agg zSc] w fun e w' => e = .returned (.bool true) ∧ Below w.heap.size w w' := by
  obtain ⟨hB, hca, hcb⟩ := two_cells w zSc zSc 73 73
  have c0 := hca 0 (.int .i64 0) rfl
  have c1 := hca 1 (.int .i64 0) rfl
  have c2 := hca 2 (.int .i64 0) rfl
  have c3 := hca 3 (.slice none 0 0) rfl
  have c4 := hca 4 (.slice none 0 0) rfl
  have c5 := hca 5 (.slice none 0 0) rfl
  have d0 := hcb 0 (.int .i64 0) rfl
  have d1 := hcb 1 (.int .i64 0) rfl
  have d2 := hcb 2 (.int .i64 0) rfl
  have d3 := hcb 3 (.slice none 0 0) rfl
  have d4 := hcb 4 (.slice none 0 0) rfl
  have d5 := hcb 5 (.slice none 0 0) rfl
  have KI := fun W => Lib.hid (refints_any [] [] none none 0 0 0 0 W (Rd.of_own' (World.ownsRow_nil W W.heap.size 3 1)).1 (Rd.of_own' (World.ownsRow_nil W W.heap.size 3 1)).1 (by omega) (by omega))
  clear hca hcb
  go_enter Try.func40, Try.ntmps40
  go_upto_region 1 with fail
  generalize (w.alloc (.cells zSc 73)).alloc (.cells zSc 73) = w1 at *
  go_wp2_with fail
  refine (KI _).out.mono ?_
  rintro e w2 ⟨rfl, hb⟩
  replace c3 := cell_below hb c3
  replace c4 := cell_below hb c4
  replace c5 := cell_below hb c5
  replace d3 := cell_below hb d3
  replace d4 := cell_below hb d4
  replace d5 := cell_below hb d5
  replace hB := below_trans hB hb
  clear hb c0 c1 c2 d0 d1 d2
  go_wp2_with fail
  go_loopw [5] (fun i wr => i = .int .i64 0 ∧ w2 = wr) (fun _ _ => 0)
  case atStart => exact ⟨rfl, rfl⟩
  case round =>
    obtain ⟨rfl, rfl⟩ := hrel
    go_wp2_with fail
    go_loopw [6] (fun i wr => i = .int .i64 0 ∧ w2 = wr) (fun _ _ => 0)
    case atStart => exact ⟨rfl, rfl⟩
    case round =>
      obtain ⟨rfl, rfl⟩ := hrel
      go_wp2_with fail
      go_ret
      exact ⟨rfl, hB⟩
end Go.Proofs.Ytefipigdkdopcaa
