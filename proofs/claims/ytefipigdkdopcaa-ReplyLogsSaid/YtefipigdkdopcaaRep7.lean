/- Contract of reply.Check. No condition but lengths' bounds. -/
import Derived.Test.YtefipigdkdopcaaRep6
import Derived.Deep.DeepCutAuto
namespace Go.Proofs.Ytefipigdkdopcaa
open Go.RowKit

set_option maxRecDepth 100000 in
set_option maxHeartbeats 4000000 in
theorem rchk_any (e : Int) (n : Nat) (fs : List Fr) (ls : List (Nat × Nat)) (cs : List Int) (A : Option Addr) (a1 a2 : Nat) (B : Option Addr) (b1 b2 : Nat) (C : Option Addr) (c1 c2 : Nat) (w : World)
    (hf : Rd w A a1 a2 5 (frCs fs)) (hl : Rd w B b1 b2 2 (prCs ls)) (hc : Rd w C c1 c2 1 (inCs cs)) (hN : a1 ≤ 1000000 ∧ b1 ≤ 1000000 ∧ c1 ≤ 1000000) (hd : ∀ f ∈ fs, f.2.2.2.2.length ≤ 1000000000) :
    Calls Try.prog 35 #[rpl e n A a1 a2 B b1 b2 C c1 c2] w fun x w' => x = .returned (.int .i64 (chkR e n fs ls cs : Nat)) ∧ Below w.heap.size w w' := by
  obtain ⟨hB, hca⟩ := one_cells w (rplCs e n A a1 a2 B b1 b2 C c1 c2) 47
  have p0 := hca 0 (.int .i64 e) rfl
  have p1 := hca 1 (.int .u64 (n : Int)) rfl
  have p2 := hca 2 (.slice A a1 a2) rfl
  have p3 := hca 3 (.slice B b1 b2) rfl
  have p4 := hca 4 (.slice C c1 c2) rfl
  have hfl := hf.flen
  have hll := hl.plen
  have hcl := hc.ilen
  replace hf := hf.below hB
  replace hl := hl.below hB
  replace hc := hc.below hB
  obtain ⟨hN1, hN2, hN3⟩ := hN
  have KF := fun W (h : Rd W A a1 a2 5 (frCs fs)) => Lib.hid (fcontains_any fs A a1 a2 W h hN1 hd)
  clear hca hd
  have HCHK : Hid (chkR e n fs ls cs = if (num36 e n && ls.all far36 && cs.all cnt36) = false then 3 else if 256 < a1 ∨ 256 < b1 ∨ 256 < c1 then 4 else if fs.all may1 then 0 else 6) := by show _ = _; rw [← hfl, ← hll, ← hcl]; rfl
  have HR0 : Hid (num36 e n = decide (0 ≤ e ∧ e ≤ 18 ∧ n ≤ 1099511627776)) := rfl
  generalize num36 e n = r0 at *
  generalize chkR e n fs ls cs = R at *
  go_enter Try.func35, Try.ntmps35
  go_upto_region 1 with fail
  generalize w.alloc (.cells (rplCs e n A a1 a2 B b1 b2 C c1 c2) 47) = w1 at *
  go_cut [3] (fun v wx => v = .bool r0 ∧ wx = w1)
  case first =>
    clear KF HCHK hf hl hc hfl hll hcl
    rcases (by omega : e < 0 ∨ (0 ≤ e ∧ 18 < e) ∨ (0 ≤ e ∧ e ≤ 18 ∧ (1099511627776 : Int) < n) ∨ (0 ≤ e ∧ e ≤ 18 ∧ (n : Int) ≤ 1099511627776)) with h | ⟨h1, h2⟩ | ⟨h1, h2, h3⟩ | ⟨h1, h2, h3⟩
    · have HR : Hid (false = r0) := by show _ = _; rw [HR0.out]; symm; rw [decide_eq_false_iff_not]; omega
      have d1 : decide (0 ≤ e) = false := by rw [decide_eq_false_iff_not]; omega
      go_wp2_with fail
      go_meet
      exact ⟨by rw [HR.out], rfl⟩
    · have HR : Hid (false = r0) := by show _ = _; rw [HR0.out]; symm; rw [decide_eq_false_iff_not]; omega
      have d1 : decide (0 ≤ e) = true := by rw [decide_eq_true_iff]; omega
      have d2 : decide (e ≤ 18) = false := by rw [decide_eq_false_iff_not]; omega
      go_wp2_with fail
      go_meet
      exact ⟨by rw [HR.out], rfl⟩
    · have HR : Hid (false = r0) := by show _ = _; rw [HR0.out]; symm; rw [decide_eq_false_iff_not]; omega
      have d1 : decide (0 ≤ e) = true := by rw [decide_eq_true_iff]; omega
      have d2 : decide (e ≤ 18) = true := by rw [decide_eq_true_iff]; omega
      have d3 : decide ((n : Int) ≤ 1099511627776) = false := by rw [decide_eq_false_iff_not]; omega
      have d4 : decide (n ≤ 1099511627776) = false := by rw [decide_eq_false_iff_not]; omega
      go_wp2_with fail
      go_meet
      exact ⟨by rw [HR.out], rfl⟩
    · have HR : Hid (true = r0) := by show _ = _; rw [HR0.out]; symm; rw [decide_eq_true_iff]; omega
      have d1 : decide (0 ≤ e) = true := by rw [decide_eq_true_iff]; omega
      have d2 : decide (e ≤ 18) = true := by rw [decide_eq_true_iff]; omega
      have d3 : decide ((n : Int) ≤ 1099511627776) = true := by rw [decide_eq_true_iff]; omega
      have d4 : decide (n ≤ 1099511627776) = true := by rw [decide_eq_true_iff]; omega
      go_wp2_with fail
      go_meet
      exact ⟨by rw [HR.out], rfl⟩
  case rest =>
  obtain ⟨rfl, rfl⟩ := hcut
  clear HR0
  have hcm := hl.cm
  have hcm2 := hc.cm
  unfold maxLen at hcm hcm2
  go_wp2_with fail
  go_loopw [3, 5, 25] (fun v _ i wr => ∃ (j : Nat) (r : Bool), v = .bool r ∧ j ≤ b1 ∧ i = .int .i64 j ∧ Hid (r = (r0 && (ls.take j).all far36)) ∧ Below wc.heap.size wc wr) (fun _ _ i _ => b1 - (intOf i).toNat)
  case atStart => exact ⟨0, r0, rfl, by omega, rfl, Lib.hid (by simp), Below.refl _ _⟩
  case round =>
    obtain ⟨j, r, rfl, hj, rfl, HA, hBr⟩ := hrel
    by_cases hlt : j < b1
    · obtain ⟨ad, rfl⟩ := hl.some_of_pos (by omega)
      obtain ⟨e0, e1⟩ := (hl.below hBr).pair j (by omega)
      have HS := Lib.hid (all_take_succ far36 ls j (by omega))
      have hq1 : (j : Int) < b1 := by omega
      generalize ls[j] = f at *
      obtain ⟨x, y⟩ := f
      dsimp only at e0 e1
      obtain ⟨hb1, hca⟩ := one_cells wr #[.int .u64 (x : Int), .int .u64 (y : Int)] 109
      have q0 := hca 0 (.int .u64 (x : Int)) rfl
      have q1 := hca 1 (.int .u64 (y : Int)) rfl
      have hB2 := below_trans hBr hb1
      clear hca hb1 hBr KF
      cases r with
      | false =>
        have HA2 : Hid (false = (r0 && (ls.take (j + 1)).all far36)) := by show _ = _; rw [HS.out, ← Bool.and_assoc, ← HA.out]; rfl
        clear HA HS
        go_wp2_with fail
        go_roundw
        case rel => exact ⟨j + 1, false, rfl, by omega, by go_num, HA2, hB2⟩
        case measure => simp [intOf]; omega
      | true =>
        cases hm : far36 (x, y) with
        | true =>
          have hm2 : max x y ≤ 1099511627776 := by simpa [far36] using hm
          have D1 : Hid (decide ((if x < y then (y : Int) else (x : Int)) ≤ 1099511627776) = true) := by show _ = _; rw [decide_eq_true_iff]; split <;> omega
          have HA2 : Hid (true = (r0 && (ls.take (j + 1)).all far36)) := by show _ = _; rw [HS.out, ← Bool.and_assoc, ← HA.out, hm]; rfl
          clear HA HS hm
          go_wp2_with fail
          go_roundw
          case rel => exact ⟨j + 1, true, by rw [D1.out], by omega, by go_num, HA2, hB2⟩
          case measure => simp [intOf]; omega
        | false =>
          have hm2 : ¬ max x y ≤ 1099511627776 := by simpa [far36] using hm
          have D1 : Hid (decide ((if x < y then (y : Int) else (x : Int)) ≤ 1099511627776) = false) := by show _ = _; rw [decide_eq_false_iff_not]; split <;> omega
          have HA2 : Hid (false = (r0 && (ls.take (j + 1)).all far36)) := by show _ = _; rw [HS.out, ← Bool.and_assoc, ← HA.out, hm]; rfl
          clear HA HS hm
          go_wp2_with fail
          go_roundw
          case rel => exact ⟨j + 1, false, by rw [D1.out], by omega, by go_num, HA2, hB2⟩
          case measure => simp [intOf]; omega
    · obtain rfl : j = b1 := by omega
      rw [List.take_of_length_le (by omega)] at HA
      replace p2 := cell_below hBr p2
      replace p3 := cell_below hBr p3
      replace p4 := cell_below hBr p4
      replace hf := hf.below hBr
      replace hc := hc.below hBr
      replace hB := below_trans hB hBr
      clear hl hBr p0 p1
      go_wp2_with fail
      go_loopw [3, 7, 42] (fun v _ i wr2 => ∃ (k : Nat) (q : Bool), v = .bool q ∧ k ≤ c1 ∧ i = .int .i64 k ∧ Hid (q = ((r0 && ls.all far36) && (cs.take k).all cnt36)) ∧ Below wr.heap.size wr wr2) (fun _ _ i _ => c1 - (intOf i).toNat)
      case atStart => exact ⟨0, r, rfl, by omega, rfl, Lib.hid (by rw [HA.out]; simp), Below.refl _ _⟩
      case round =>
        rename_i wr2
        obtain ⟨k, q, rfl, hk, rfl, HQ, hBr⟩ := hrel
        by_cases hlt : k < c1
        · obtain ⟨ad, rfl⟩ := hc.some_of_pos (by omega)
          have e0 := (hc.below hBr).icell k (by omega)
          have HS := Lib.hid (all_take_succ cnt36 cs k (by omega))
          have hq1 : (k : Int) < c1 := by omega
          generalize cs[k] = v at *
          clear KF
          cases q with
          | false =>
            have HA2 : Hid (false = ((r0 && ls.all far36) && (cs.take (k + 1)).all cnt36)) := by show _ = _; rw [HS.out, ← Bool.and_assoc, ← HQ.out]; rfl
            clear HA HS HQ
            go_wp2_with fail
            go_roundw
            case rel => exact ⟨k + 1, false, rfl, by omega, by go_num, HA2, hBr⟩
            case measure => simp [intOf]; omega
          | true =>
            cases hm : cnt36 v with
            | true =>
              have hm2 : 0 ≤ v ∧ v ≤ 1099511627776 := by simpa [cnt36] using hm
              obtain ⟨h1, h2⟩ := hm2
              have HA2 : Hid (true = ((r0 && ls.all far36) && (cs.take (k + 1)).all cnt36)) := by show _ = _; rw [HS.out, ← Bool.and_assoc, ← HQ.out, hm]; rfl
              have D1 : Hid (decide (0 ≤ v) = true ∧ decide (v ≤ 1099511627776) = true) := ⟨by simpa using h1, by simpa using h2⟩
              have d1 := D1.out.1
              have d2 := D1.out.2
              clear HA HS HQ hm
              go_wp2_with fail
              go_roundw
              case rel => exact ⟨k + 1, true, rfl, by omega, by go_num, HA2, hBr⟩
              case measure => simp [intOf]; omega
            | false =>
              have hm2 : ¬ (0 ≤ v ∧ v ≤ 1099511627776) := by simpa [cnt36] using hm
              have HA2 : Hid (false = ((r0 && ls.all far36) && (cs.take (k + 1)).all cnt36)) := by show _ = _; rw [HS.out, ← Bool.and_assoc, ← HQ.out, hm]; rfl
              clear HA HS HQ hm
              rcases (by omega : v < 0 ∨ (0 ≤ v ∧ 1099511627776 < v)) with h1 | ⟨h1, h2⟩
              · have d1 : decide (0 ≤ v) = false := by rw [decide_eq_false_iff_not]; omega
                clear hm2
                go_wp2_with fail
                go_roundw
                case rel => exact ⟨k + 1, false, rfl, by omega, by go_num, HA2, hBr⟩
                case measure => simp [intOf]; omega
              · have d1 : decide (0 ≤ v) = true := by rw [decide_eq_true_iff]; omega
                have d2 : decide (v ≤ 1099511627776) = false := by rw [decide_eq_false_iff_not]; omega
                clear hm2
                go_wp2_with fail
                go_roundw
                case rel => exact ⟨k + 1, false, rfl, by omega, by go_num, HA2, hBr⟩
                case measure => simp [intOf]; omega
        · obtain rfl : k = c1 := by omega
          rw [List.take_of_length_le (by omega)] at HQ
          replace p2 := cell_below hBr p2
          replace p3 := cell_below hBr p3
          replace p4 := cell_below hBr p4
          replace hf := hf.below hBr
          replace hB := below_trans hB hBr
          clear hc hBr HA
          cases q with
          | false =>
            have HR : Hid (R = 3) := by show _ = _; rw [HCHK.out, ← HQ.out, if_pos rfl]
            clear HCHK HQ KF
            go_wp2_with fail
            go_ret
            exact ⟨by rw [HR.out]; rfl, hB⟩
          | true =>
            rw [← HQ.out, if_neg (by simp)] at HCHK
            clear HQ
            by_cases hbig : 256 < a1 ∨ 256 < j ∨ 256 < k
            · have HR : Hid (R = 4) := by show _ = _; rw [HCHK.out, if_pos hbig]
              have d : decide (256 < (if (if a1 < j then (j : Int) else (a1 : Int)) < (k : Int) then (k : Int) else if a1 < j then (j : Int) else (a1 : Int))) = true := by
                rw [decide_eq_true_iff]
                split <;> split at * <;> omega
              clear HCHK KF
              go_wp2_with fail
              all_goals
                go_ret
                exact ⟨by rw [HR.out]; rfl, hB⟩
            · rw [if_neg hbig] at HCHK
              have d : decide (256 < (if (if a1 < j then (j : Int) else (a1 : Int)) < (k : Int) then (k : Int) else if a1 < j then (j : Int) else (a1 : Int))) = false := by
                rw [decide_eq_false_iff_not]
                split <;> split at * <;> omega
              have d2 : ¬ (256 < (if (if a1 < j then (j : Int) else (a1 : Int)) < (k : Int) then (k : Int) else if a1 < j then (j : Int) else (a1 : Int))) := by
                split <;> split at * <;> omega
              go_upto_region 17 with fail
              clear d d2
              cases ha : fs.all may1 with
              | true =>
                rw [ha, if_pos rfl] at HCHK
                rw [ha] at KF
                clear ha
                go_wp2_with fail
                all_goals
                  refine (KF _ hf).out.mono ?_
                  rintro x w2 ⟨rfl, hb⟩
                  go_wp2_with fail
                  go_ret
                  exact ⟨by rw [HCHK.out]; rfl, below_trans hB hb⟩
              | false =>
                rw [ha, if_neg (by simp)] at HCHK
                rw [ha] at KF
                clear ha
                go_wp2_with fail
                all_goals
                  refine (KF _ hf).out.mono ?_
                  rintro x w2 ⟨rfl, hb⟩
                  go_wp2_with fail
                  go_ret
                  exact ⟨by rw [HCHK.out]; rfl, below_trans hB hb⟩
end Go.Proofs.Ytefipigdkdopcaa
