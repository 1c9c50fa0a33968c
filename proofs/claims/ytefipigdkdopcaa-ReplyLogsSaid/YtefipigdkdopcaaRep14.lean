/- Contract of the reference's Check of a reply. No condition but lengths' bounds. -/
import Derived.Test.YtefipigdkdopcaaRep7
import Derived.Test.YtefipigdkdopcaaFrame2P
import Derived.Deep.DeepCutAuto
namespace Go.Proofs.Ytefipigdkdopcaa
open Go.RowKit

set_option maxRecDepth 100000 in
set_option maxHeartbeats 8000000 in
theorem refchk_any (e : Int) (n : Nat) (fs : List Fr) (ls : List (Nat × Nat)) (cs : List Int) (A : Option Addr) (a1 a2 : Nat) (B : Option Addr) (b1 b2 : Nat) (C : Option Addr) (c1 c2 : Nat) (w : World)
    (hf : Rd w A a1 a2 5 (frCs fs)) (hl : Rd w B b1 b2 2 (prCs ls)) (hc : Rd w C c1 c2 1 (inCs cs)) (hN : a1 ≤ 1000000 ∧ b1 ≤ 1000000 ∧ c1 ≤ 1000000) (hd : ∀ f ∈ fs, f.2.2.2.2.length ≤ 1000000000) :
    Calls Try.prog 27 #[rpl e n A a1 a2 B b1 b2 C c1 c2] w fun x w' => x = .returned (.int .i64 (chkR e n fs ls cs : Nat)) ∧ Below w.heap.size w w' := by
  obtain ⟨hB, hca⟩ := one_cells w (rplCs e n A a1 a2 B b1 b2 C c1 c2) 47
  have p0 := hca 0 (.int .i64 e) rfl
  have p1 := hca 1 (.int .u64 (n : Int)) rfl
  have p2 := hca 2 (.slice A a1 a2) rfl
  have p3 := hca 3 (.slice B b1 b2) rfl
  have p4 := hca 4 (.slice C c1 c2) rfl
  have hfl := hf.flen
  have hll := hl.plen
  have hcl := hc.ilen
  replace hf := hf.below hB
  replace hl := hl.below hB
  replace hc := hc.below hB
  obtain ⟨hN1, hN2, hN3⟩ := hN
  have HD := Lib.hid hd
  clear hca hd
  have HCHK : Hid (chkR e n fs ls cs = if (num36 e n && ls.all far36 && cs.all cnt36) = false then 3 else if 256 < a1 ∨ 256 < b1 ∨ 256 < c1 then 4 else if fs.all may1 then 0 else 6) := by show _ = _; rw [← hfl, ← hll, ← hcl]; rfl
  have HR0 : Hid (num36 e n = decide (0 ≤ e ∧ e ≤ 18 ∧ n ≤ 1099511627776)) := rfl
  generalize num36 e n = r0 at *
  generalize chkR e n fs ls cs = R at *
  go_enter Try.func27, Try.ntmps27
  go_upto_region 1 with fail
  generalize w.alloc (.cells (rplCs e n A a1 a2 B b1 b2 C c1 c2) 47) = w1 at *
  go_cut [3] (fun v wx => v = .bool (!r0) ∧ wx = w1)
  case first =>
    clear HCHK hf hl hc hfl hll hcl HD
    rcases (by omega : e < 0 ∨ (0 ≤ e ∧ 18 < e) ∨ (0 ≤ e ∧ e ≤ 18 ∧ (1099511627776 : Int) < n) ∨ (0 ≤ e ∧ e ≤ 18 ∧ (n : Int) ≤ 1099511627776)) with h | ⟨h1, h2⟩ | ⟨h1, h2, h3⟩ | ⟨h1, h2, h3⟩
    · have HR : Hid (true = !r0) := by show _ = _; rw [HR0.out, decide_eq_false (by omega)]; rfl
      have d1 : decide (e < 0) = true := by rw [decide_eq_true_iff]; omega
      go_wp2_with fail
      go_meet
      exact ⟨by rw [HR.out], rfl⟩
    · have HR : Hid (true = !r0) := by show _ = _; rw [HR0.out, decide_eq_false (by omega)]; rfl
      have d1 : decide (e < 0) = false := by rw [decide_eq_false_iff_not]; omega
      have d2 : decide (18 < e) = true := by rw [decide_eq_true_iff]; omega
      go_wp2_with fail
      go_meet
      exact ⟨by rw [HR.out], rfl⟩
    · have HR : Hid (true = !r0) := by show _ = _; rw [HR0.out, decide_eq_false (by omega)]; rfl
      have d1 : decide (e < 0) = false := by rw [decide_eq_false_iff_not]; omega
      have d2 : decide (18 < e) = false := by rw [decide_eq_false_iff_not]; omega
      have d3 : decide ((1099511627776 : Int) < n) = true := by rw [decide_eq_true_iff]; omega
      have d4 : decide (1099511627776 < n) = true := by rw [decide_eq_true_iff]; omega
      go_wp2_with fail
      go_meet
      exact ⟨by rw [HR.out], rfl⟩
    · have HR : Hid (false = !r0) := by show _ = _; rw [HR0.out, decide_eq_true (by omega)]; rfl
      have d1 : decide (e < 0) = false := by rw [decide_eq_false_iff_not]; omega
      have d2 : decide (18 < e) = false := by rw [decide_eq_false_iff_not]; omega
      have d3 : decide ((1099511627776 : Int) < n) = false := by rw [decide_eq_false_iff_not]; omega
      have d4 : decide (1099511627776 < n) = false := by rw [decide_eq_false_iff_not]; omega
      go_wp2_with fail
      go_meet
      exact ⟨by rw [HR.out], rfl⟩
  case rest =>
  obtain ⟨rfl, rfl⟩ := hcut
  clear HR0 p0 p1
  have hcm := hl.cm
  have hcm2 := hc.cm
  have hcm3 := hf.cm
  unfold maxLen at hcm hcm2 hcm3
  go_wp2_with fail
  go_loopw [3, 4] (fun v i wr => ∃ (j : Nat) (r : Bool), v = .bool (!r) ∧ j ≤ b1 ∧ i = .int .i64 j ∧ Hid (r = (r0 && (ls.take j).all far36)) ∧ Below wc.heap.size wc wr) (fun _ i _ => b1 - (intOf i).toNat)
  case atStart => exact ⟨0, r0, rfl, by omega, rfl, Lib.hid (by simp), Below.refl _ _⟩
  case round =>
    obtain ⟨j, r, rfl, hj, rfl, HA, hBr⟩ := hrel
    have k3 := cell_below hBr p3
    by_cases hlt : j < b1
    · obtain ⟨ad, rfl⟩ := hl.some_of_pos (by omega)
      obtain ⟨e0, e1⟩ := (hl.below hBr).pair j (by omega)
      have HS := Lib.hid (all_take_succ far36 ls j (by omega))
      have hq1 : (j : Int) < b1 := by omega
      generalize ls[j] = f at *
      obtain ⟨x, y⟩ := f
      dsimp only at e0 e1
      cases r with
      | false =>
        have HA2 : Hid (false = (r0 && (ls.take (j + 1)).all far36)) := by show _ = _; rw [HS.out, ← Bool.and_assoc, ← HA.out]; rfl
        clear HA HS
        go_wp2_with fail
        go_roundw
        case rel => exact ⟨j + 1, false, rfl, by omega, by go_num, HA2, hBr⟩
        case measure => simp [intOf]; omega
      | true =>
        by_cases hx : x ≤ 1099511627776
        · have d1 : decide ((1099511627776 : Int) < x) = false := by rw [decide_eq_false_iff_not]; omega
          have d2 : decide (1099511627776 < x) = false := by rw [decide_eq_false_iff_not]; omega
          by_cases hy : y ≤ 1099511627776
          · have d3 : decide ((1099511627776 : Int) < y) = false := by rw [decide_eq_false_iff_not]; omega
            have d4 : decide (1099511627776 < y) = false := by rw [decide_eq_false_iff_not]; omega
            have HA2 : Hid (true = (r0 && (ls.take (j + 1)).all far36)) := by
              have hm : far36 (x, y) = true := by unfold far36; rw [decide_eq_true_iff]; omega
              show _ = _; rw [HS.out, ← Bool.and_assoc, ← HA.out, hm]; rfl
            clear HA HS
            go_wp2_with fail
            go_roundw
            case rel => exact ⟨j + 1, true, rfl, by omega, by go_num, HA2, hBr⟩
            case measure => simp [intOf]; omega
          · have d3 : decide ((1099511627776 : Int) < y) = true := by rw [decide_eq_true_iff]; omega
            have d4 : decide (1099511627776 < y) = true := by rw [decide_eq_true_iff]; omega
            have HA2 : Hid (false = (r0 && (ls.take (j + 1)).all far36)) := by
              have hm : far36 (x, y) = false := by unfold far36; rw [decide_eq_false_iff_not]; omega
              show _ = _; rw [HS.out, ← Bool.and_assoc, ← HA.out, hm]; rfl
            clear HA HS
            go_wp2_with fail
            go_roundw
            case rel => exact ⟨j + 1, false, rfl, by omega, by go_num, HA2, hBr⟩
            case measure => simp [intOf]; omega
        · have d1 : decide ((1099511627776 : Int) < x) = true := by rw [decide_eq_true_iff]; omega
          have d2 : decide (1099511627776 < x) = true := by rw [decide_eq_true_iff]; omega
          have HA2 : Hid (false = (r0 && (ls.take (j + 1)).all far36)) := by
            have hm : far36 (x, y) = false := by unfold far36; rw [decide_eq_false_iff_not]; omega
            show _ = _; rw [HS.out, ← Bool.and_assoc, ← HA.out, hm]; rfl
          clear HA HS
          go_wp2_with fail
          go_roundw
          case rel => exact ⟨j + 1, false, rfl, by omega, by go_num, HA2, hBr⟩
          case measure => simp [intOf]; omega
    · obtain rfl : j = b1 := by omega
      rw [List.take_of_length_le (by omega)] at HA
      replace p2 := cell_below hBr p2
      replace p3 := cell_below hBr p3
      replace p4 := cell_below hBr p4
      replace hf := hf.below hBr
      replace hc := hc.below hBr
      replace hB := below_trans hB hBr
      have hjn : ¬ (j : Int) < (j : Int) := by omega
      clear hl hBr
      go_wp2_with fail
      go_loopw [3, 5] (fun v i wr2 => ∃ (k : Nat) (q : Bool), v = .bool (!q) ∧ k ≤ c1 ∧ i = .int .i64 k ∧ Hid (q = ((r0 && ls.all far36) && (cs.take k).all cnt36)) ∧ Below wr.heap.size wr wr2) (fun _ i _ => c1 - (intOf i).toNat)
      case atStart => exact ⟨0, r, rfl, by omega, rfl, Lib.hid (by rw [HA.out]; simp), Below.refl _ _⟩
      case round =>
        rename_i wr2
        obtain ⟨k, q, rfl, hk, rfl, HQ, hBr⟩ := hrel
        have k4 := cell_below hBr p4
        by_cases hlt : k < c1
        · obtain ⟨ad, rfl⟩ := hc.some_of_pos (by omega)
          have e0 := (hc.below hBr).icell k (by omega)
          have HS := Lib.hid (all_take_succ cnt36 cs k (by omega))
          have hq1 : (k : Int) < c1 := by omega
          generalize cs[k] = v at *
          cases q with
          | false =>
            have HA2 : Hid (false = ((r0 && ls.all far36) && (cs.take (k + 1)).all cnt36)) := by show _ = _; rw [HS.out, ← Bool.and_assoc, ← HQ.out]; rfl
            clear HA HS HQ
            go_wp2_with fail
            go_roundw
            case rel => exact ⟨k + 1, false, rfl, by omega, by go_num, HA2, hBr⟩
            case measure => simp [intOf]; omega
          | true =>
            rcases (by omega : v < 0 ∨ (0 ≤ v ∧ 1099511627776 < v) ∨ (0 ≤ v ∧ v ≤ 1099511627776)) with h1 | ⟨h1, h2⟩ | ⟨h1, h2⟩
            · have d1 : decide (v < 0) = true := by rw [decide_eq_true_iff]; omega
              have HA2 : Hid (false = ((r0 && ls.all far36) && (cs.take (k + 1)).all cnt36)) := by
                have hm : cnt36 v = false := by unfold cnt36; rw [decide_eq_false_iff_not]; omega
                show _ = _; rw [HS.out, ← Bool.and_assoc, ← HQ.out, hm]; rfl
              clear HA HS HQ
              go_wp2_with fail
              go_roundw
              case rel => exact ⟨k + 1, false, rfl, by omega, by go_num, HA2, hBr⟩
              case measure => simp [intOf]; omega
            · have d1 : decide (v < 0) = false := by rw [decide_eq_false_iff_not]; omega
              have d2 : decide (1099511627776 < v) = true := by rw [decide_eq_true_iff]; omega
              have HA2 : Hid (false = ((r0 && ls.all far36) && (cs.take (k + 1)).all cnt36)) := by
                have hm : cnt36 v = false := by unfold cnt36; rw [decide_eq_false_iff_not]; omega
                show _ = _; rw [HS.out, ← Bool.and_assoc, ← HQ.out, hm]; rfl
              clear HA HS HQ
              go_wp2_with fail
              go_roundw
              case rel => exact ⟨k + 1, false, rfl, by omega, by go_num, HA2, hBr⟩
              case measure => simp [intOf]; omega
            · have d1 : decide (v < 0) = false := by rw [decide_eq_false_iff_not]; omega
              have d2 : decide (1099511627776 < v) = false := by rw [decide_eq_false_iff_not]; omega
              have HA2 : Hid (true = ((r0 && ls.all far36) && (cs.take (k + 1)).all cnt36)) := by
                have hm : cnt36 v = true := by unfold cnt36; rw [decide_eq_true_iff]; omega
                show _ = _; rw [HS.out, ← Bool.and_assoc, ← HQ.out, hm]; rfl
              clear HA HS HQ
              go_wp2_with fail
              go_roundw
              case rel => exact ⟨k + 1, true, rfl, by omega, by go_num, HA2, hBr⟩
              case measure => simp [intOf]; omega
        · obtain rfl : k = c1 := by omega
          rw [List.take_of_length_le (by omega)] at HQ
          replace p2 := cell_below hBr p2
          replace p3 := cell_below hBr p3
          replace hf := hf.below hBr
          replace hB := below_trans hB hBr
          have hkn : ¬ (k : Int) < (k : Int) := by omega
          clear hc hBr HA p4
          cases q with
          | false =>
            have HR : Hid (R = 3) := by show _ = _; rw [HCHK.out, ← HQ.out, if_pos rfl]
            clear HCHK HQ
            go_wp2_with fail
            go_ret
            exact ⟨by rw [HR.out]; rfl, hB⟩
          | true =>
            rw [← HQ.out, if_neg (by simp)] at HCHK
            clear HQ
            rcases (by omega : 256 < a1 ∨ (a1 ≤ 256 ∧ 256 < j) ∨ (a1 ≤ 256 ∧ j ≤ 256 ∧ 256 < k) ∨ (a1 ≤ 256 ∧ j ≤ 256 ∧ k ≤ 256)) with h1 | ⟨h1, h2⟩ | ⟨h1, h2, h3⟩ | ⟨h1, h2, h3⟩
            · have HR : Hid (R = 4) := by show _ = _; rw [HCHK.out, if_pos (.inl h1)]
              have d1 : decide ((256 : Int) < a1) = true := by rw [decide_eq_true_iff]; omega
              have d2 : decide (256 < a1) = true := by rw [decide_eq_true_iff]; omega
              clear HCHK
              go_wp2_with fail
              go_ret
              exact ⟨by rw [HR.out]; rfl, hB⟩
            · have HR : Hid (R = 4) := by show _ = _; rw [HCHK.out, if_pos (.inr (.inl h2))]
              have d1 : decide ((256 : Int) < a1) = false := by rw [decide_eq_false_iff_not]; omega
              have d2 : decide (256 < a1) = false := by rw [decide_eq_false_iff_not]; omega
              have d3 : decide ((256 : Int) < j) = true := by rw [decide_eq_true_iff]; omega
              have d4 : decide (256 < j) = true := by rw [decide_eq_true_iff]; omega
              clear HCHK
              go_wp2_with fail
              go_ret
              exact ⟨by rw [HR.out]; rfl, hB⟩
            · have HR : Hid (R = 4) := by show _ = _; rw [HCHK.out, if_pos (.inr (.inr h3))]
              have d1 : decide ((256 : Int) < a1) = false := by rw [decide_eq_false_iff_not]; omega
              have d2 : decide (256 < a1) = false := by rw [decide_eq_false_iff_not]; omega
              have d3 : decide ((256 : Int) < j) = false := by rw [decide_eq_false_iff_not]; omega
              have d4 : decide (256 < j) = false := by rw [decide_eq_false_iff_not]; omega
              have d5 : decide ((256 : Int) < k) = true := by rw [decide_eq_true_iff]; omega
              have d6 : decide (256 < k) = true := by rw [decide_eq_true_iff]; omega
              clear HCHK
              go_wp2_with fail
              go_ret
              exact ⟨by rw [HR.out]; rfl, hB⟩
            · rw [if_neg (by omega)] at HCHK
              have d1 : decide ((256 : Int) < a1) = false := by rw [decide_eq_false_iff_not]; omega
              have d2 : decide (256 < a1) = false := by rw [decide_eq_false_iff_not]; omega
              have d3 : decide ((256 : Int) < j) = false := by rw [decide_eq_false_iff_not]; omega
              have d4 : decide (256 < j) = false := by rw [decide_eq_false_iff_not]; omega
              have d5 : decide ((256 : Int) < k) = false := by rw [decide_eq_false_iff_not]; omega
              have d6 : decide (256 < k) = false := by rw [decide_eq_false_iff_not]; omega
              go_wp2_with fail
              clear d1 d2 d3 d4 d5 d6 p3
              go_loopw [6] (fun i wr3 => ∃ l : Nat, l ≤ a1 ∧ i = .int .i64 l ∧ Hid ((fs.take l).all may1 = true) ∧ Below wr.heap.size wr wr3) (fun i _ => a1 - (intOf i).toNat)
              case atStart => exact ⟨0, by omega, rfl, Lib.hid (by simp), Below.refl _ _⟩
              case round =>
                obtain ⟨l, hl, rfl, HA, hBr⟩ := hrel
                have k2 := cell_below hBr p2
                by_cases hlt : l < a1
                · obtain ⟨ad, rfl⟩ := hf.some_of_pos (by omega)
                  obtain ⟨e0, e1, e2, e3, e4⟩ := (hf.below hBr).frame l (by omega)
                  have HS := Lib.hid (all_take_succ may1 fs l (by omega))
                  have HF := Lib.hid (all_false_of may1 fs l (by omega))
                  have hdl := HD.out fs[l] (List.getElem_mem _)
                  have hq1 : (l : Int) < a1 := by omega
                  clear hf HD
                  generalize fs[l] = f at *
                  obtain ⟨f0, f1, f2, f3, f4⟩ := f
                  dsimp only at e0 e1 e2 e3 e4 hdl
                  have KM := fun W => Lib.hid (refmay_any f0 f1 f2 f3 f4 W hdl)
                  rw [show mayF f0 f1 f2 f3 f4.length = may1 (f0, f1, f2, f3, f4) from rfl] at KM
                  cases hm : may1 (f0, f1, f2, f3, f4) with
                  | true =>
                    rw [hm] at KM
                    have HS2 : Hid ((fs.take (l + 1)).all may1 = true) := by show _ = _; rw [HS.out, HA.out, hm]; rfl
                    clear HS HF HA hm
                    go_wp2_with fail
                    refine (KM _).out.mono ?_
                    rintro x w5 ⟨rfl, hb⟩
                    go_wp2_with fail
                    go_roundw
                    case rel => exact ⟨l + 1, by omega, by go_num, HS2, below_trans hBr hb⟩
                    case measure => simp [intOf]; omega
                  | false =>
                    rw [hm] at KM
                    have HR : Hid (R = 6) := by
                      have hall := HF.out hm
                      show _ = _; rw [HCHK.out, hall, if_neg (by simp)]
                    clear HS HF HA hm HCHK
                    go_wp2_with fail
                    refine (KM _).out.mono ?_
                    rintro x w5 ⟨rfl, hb⟩
                    go_wp2_with fail
                    go_ret
                    exact ⟨by rw [HR.out]; rfl, below_trans hB (below_trans hBr hb)⟩
                · obtain rfl : l = a1 := by omega
                  have hA2 := HA.out
                  rw [List.take_of_length_le (by omega)] at hA2
                  have HR : Hid (R = 0) := by show _ = _; rw [HCHK.out, hA2, if_pos rfl]
                  have hln : ¬ (l : Int) < (l : Int) := by omega
                  clear HCHK hA2 HA hf HD
                  go_wp2_with fail
                  go_ret
                  exact ⟨by rw [HR.out]; rfl, below_trans hB hBr⟩
end Go.Proofs.Ytefipigdkdopcaa
