/- Contracts: whether rows of numbers and of pairs are the same (slices.Equal; the reference's Ints), whether two replies are. No condition but lengths' bounds. -/
import Derived.Test.YtefipigdkdopcaaRep6
import Derived.Deep.QuietTactic
import Derived.BigQuiet
import Derived.ChangeKeysEq
namespace Go.Proofs.Ytefipigdkdopcaa
open Go.RowKit

theorem take_succ_eq {α : Type} {fs gs : List α} {j : Nat} (h1 : j < fs.length) (h2 : j < gs.length) (h : fs.take j = gs.take j) (he : fs[j] = gs[j]) : fs.take (j + 1) = gs.take (j + 1) := by
  rw [List.take_succ_eq_append_getElem h1, List.take_succ_eq_append_getElem h2, h, he]
theorem ne_of_at {α : Type} {fs gs : List α} {j : Nat} (h1 : j < fs.length) (h2 : j < gs.length) (he : fs[j] ≠ gs[j]) : fs ≠ gs := by
  intro h; subst h; exact he rfl
theorem info_u64 : ∃ i, Try.prog.info? 22 = some i ∧ i.zero = some (.int .u64 0) ∧ i.size = 1 ∧ i.bytes = 8 := info_parts (by kernel_rfl)
theorem cells_u64 : Try.prog.cellsOf 22 = 1 := by kernel_rfl
theorem run_eq_pair (a b c d : Nat) (W : World) : (Op.equalIn 10000 109 (.agg #[.int .u64 (a : Int), .int .u64 (b : Int)]) (.agg #[.int .u64 (c : Int), .int .u64 (d : Int)])).run Try.prog W = .ok (decide (a = c ∧ b = d)) W := by
  obtain ⟨i, hi, -⟩ := info_u64
  have hu := Try.underlying22
  have p0 : ∀ x y : Value, (part 22 #[x, y] 0).run Try.prog W = .ok x W := fun x y => by simp [part, isAgg, run_underlying hu]
  have p1 : ∀ x y : Value, (part 22 #[x, y] 1).run Try.prog W = .ok y W := fun x y => by simp [part, isAgg, run_underlying hu]
  have pe : ∀ x y : Int, (Op.equalIn 9999 22 (.int .u64 x) (.int .u64 y)).run Try.prog W = .ok (x == y) W := fun x y => by
    rw [show 9999 = 9998 + 1 from rfl, run_equalIn_int W 9998 _ .u64 .u64 _ _ hu]
  rw [show 10000 = 9999 + 1 from rfl, Go.run_equalIn_array W 9999 _ _ Try.underlying109 hi, cells_u64, show List.range 2 = [0, 1] from rfl]
  simp only [Op.eqItems, Sem.run_bind, Nat.zero_mul, Nat.one_mul, p0, p1, Result.andThen_ok, pe]
  by_cases h1 : a = c
  · subst h1
    by_cases h2 : b = d
    · subst h2; simp [p1, pe]
    · have : ((b : Int) == d) = false := by rw [beq_eq_false_iff_ne]; omega
      simp [p1, pe, this, h2]
  · have : ((a : Int) == c) = false := by rw [beq_eq_false_iff_ne]; omega
    simp [p1, pe, this, h1]

set_option maxRecDepth 100000 in
set_option maxHeartbeats 4000000 in
theorem refints_any (fs gs : List (Int)) (A B : Option Addr) (n c m k : Nat) (w : World) (hx : Rd w A n c 1 (inCs fs)) (hy : Rd w B m k 1 (inCs gs)) (hN : n ≤ 1000000) (hM : m ≤ 1000000) :
    Calls Try.prog 69 #[.slice A n c, .slice B m k] w fun e w' => e = .returned (.bool (decide (fs = gs))) ∧ Below w.heap.size w w' := by
  have hxl := hx.ilen
  have hyl := hy.ilen
  have hB := Below.refl w.heap.size w
  have hc1 := hx.cm
  have hc2 := hy.cm
  unfold maxLen at hc1 hc2
  by_cases hne : n = m
  · subst hne
    go_enter Try.func69, Try.ntmps69
    go_wp2_with fail
    go_loopw [5] (fun i wr => ∃ j : Nat, j ≤ n ∧ i = .int .i64 j ∧ fs.take j = gs.take j ∧ Below w.heap.size w wr) (fun i _ => n - (intOf i).toNat)
    case atStart => exact ⟨0, by omega, rfl, rfl, hB⟩
    case round =>
      obtain ⟨j, hj, rfl, het, hBr⟩ := hrel
      by_cases hlt : j < n
      · obtain ⟨ad, rfl⟩ := hx.some_of_pos (by omega)
        obtain ⟨bd, rfl⟩ := hy.some_of_pos (by omega)
        have e0 := (hx.below hBr).icell j (by omega)
        have g0 := (hy.below hBr).icell j (by omega)
        have HT := Lib.hid (take_succ_eq (fs := fs) (gs := gs) (j := j) (by omega) (by omega) het)
        have HN := Lib.hid (ne_of_at (fs := fs) (gs := gs) (j := j) (by omega) (by omega))
        have hq1 : (j : Int) < n := by omega
        clear het hx hy
        generalize fs[j] = f at *
        generalize gs[j] = g at *

        by_cases heq : f = g
        · obtain rfl := heq
          have HT2 := Lib.hid (HT.out rfl)
          clear HT HN
          go_wp2_with fail
          go_quiet (fail)
          go_wp2_with fail
          go_roundw
          case rel => exact ⟨j + 1, by omega, by go_num, HT2.out, below_drewN hBr _⟩
          case measure => simp [intOf]; omega
        · have HN2 : Hid (decide (fs = gs) = false) := by
            show _ = _
            rw [decide_eq_false_iff_not]
            refine HN.out (fun h => heq ?_)
            exact h
          have b1 : (f == g) = false := by rw [beq_eq_false_iff_ne]; exact heq
          have b3 : decide (f = g) = false := by rw [decide_eq_false_iff_not]; exact heq
          clear HT HN heq
          all_goals
            go_wp2_with fail
            go_quiet (fail)
            go_wp2_with fail
            go_ret
            exact ⟨ret_bool HN2.out.symm, below_drewN hBr _⟩
      · obtain rfl : j = n := by omega
        rw [List.take_of_length_le (by omega), List.take_of_length_le (by omega)] at het
        subst het
        have hjn : ¬ (j : Int) < (j : Int) := by omega
        clear hx hy
        go_wp2_with fail
        go_ret
        exact ⟨ret_bool (by simp), hBr⟩
  · have hd : decide (fs = gs) = false := by rw [decide_eq_false_iff_not]; intro h; subst h; omega
    rw [hd]
    have h1 : ((n : Int) != (m : Int)) = true := by rw [bne_iff_ne]; omega
    clear hd hne
    go_enter Try.func69, Try.ntmps69
    go_wp2_with fail
    go_ret
    exact ⟨rfl, hB⟩

set_option maxRecDepth 100000 in
set_option maxHeartbeats 4000000 in
theorem iequal_any (fs gs : List (Int)) (A B : Option Addr) (n c m k : Nat) (w : World) (hx : Rd w A n c 1 (inCs fs)) (hy : Rd w B m k 1 (inCs gs)) (hN : n ≤ 1000000) (hM : m ≤ 1000000) :
    Calls Try.prog 83 #[.slice A n c, .slice B m k] w fun e w' => e = .returned (.bool (decide (fs = gs))) ∧ Below w.heap.size w w' := by
  have hxl := hx.ilen
  have hyl := hy.ilen
  have hB := Below.refl w.heap.size w
  have hc1 := hx.cm
  have hc2 := hy.cm
  unfold maxLen at hc1 hc2
  by_cases hne : n = m
  · subst hne
    go_enter Try.func83, Try.ntmps83
    go_wp2_with fail
    go_loopw [13] (fun i wr => ∃ j : Nat, j ≤ n ∧ i = .int .i64 j ∧ fs.take j = gs.take j ∧ Below w.heap.size w wr) (fun i _ => n - (intOf i).toNat)
    case atStart => exact ⟨0, by omega, rfl, rfl, hB⟩
    case round =>
      obtain ⟨j, hj, rfl, het, hBr⟩ := hrel
      by_cases hlt : j < n
      · obtain ⟨ad, rfl⟩ := hx.some_of_pos (by omega)
        obtain ⟨bd, rfl⟩ := hy.some_of_pos (by omega)
        have e0 := (hx.below hBr).icell j (by omega)
        have g0 := (hy.below hBr).icell j (by omega)
        have HT := Lib.hid (take_succ_eq (fs := fs) (gs := gs) (j := j) (by omega) (by omega) het)
        have HN := Lib.hid (ne_of_at (fs := fs) (gs := gs) (j := j) (by omega) (by omega))
        have hq1 : (j : Int) < n := by omega
        clear het hx hy
        generalize fs[j] = f at *
        generalize gs[j] = g at *

        by_cases heq : f = g
        · obtain rfl := heq
          have HT2 := Lib.hid (HT.out rfl)
          clear HT HN
          go_wp2_with fail
          go_quiet (fail)
          go_wp2_with fail
          go_roundw
          case rel => exact ⟨j + 1, by omega, by go_num, HT2.out, below_drewN hBr _⟩
          case measure => simp [intOf]; omega
        · have HN2 : Hid (decide (fs = gs) = false) := by
            show _ = _
            rw [decide_eq_false_iff_not]
            refine HN.out (fun h => heq ?_)
            exact h
          have b1 : (f == g) = false := by rw [beq_eq_false_iff_ne]; exact heq
          have b3 : decide (f = g) = false := by rw [decide_eq_false_iff_not]; exact heq
          clear HT HN heq
          all_goals
            go_wp2_with fail
            go_quiet (fail)
            go_wp2_with fail
            go_ret
            exact ⟨ret_bool HN2.out.symm, below_drewN hBr _⟩
      · obtain rfl : j = n := by omega
        rw [List.take_of_length_le (by omega), List.take_of_length_le (by omega)] at het
        subst het
        have hjn : ¬ (j : Int) < (j : Int) := by omega
        clear hx hy
        go_wp2_with fail
        go_ret
        exact ⟨ret_bool (by simp), hBr⟩
  · have hd : decide (fs = gs) = false := by rw [decide_eq_false_iff_not]; intro h; subst h; omega
    rw [hd]
    have h1 : ((n : Int) != (m : Int)) = true := by rw [bne_iff_ne]; omega
    clear hd hne
    go_enter Try.func83, Try.ntmps83
    go_wp2_with fail
    go_ret
    exact ⟨rfl, hB⟩

set_option maxRecDepth 100000 in
set_option maxHeartbeats 4000000 in
theorem pequal_any (fs gs : List (Nat × Nat)) (A B : Option Addr) (n c m k : Nat) (w : World) (hx : Rd w A n c 2 (prCs fs)) (hy : Rd w B m k 2 (prCs gs)) (hN : n ≤ 1000000) (hM : m ≤ 1000000) :
    Calls Try.prog 82 #[.slice A n c, .slice B m k] w fun e w' => e = .returned (.bool (decide (fs = gs))) ∧ Below w.heap.size w w' := by
  have hxl := hx.plen
  have hyl := hy.plen
  have hB := Below.refl w.heap.size w
  have hc1 := hx.cm
  have hc2 := hy.cm
  unfold maxLen at hc1 hc2
  by_cases hne : n = m
  · subst hne
    go_enter Try.func82, Try.ntmps82
    go_wp2_with fail
    go_loopw [13] (fun i wr => ∃ j : Nat, j ≤ n ∧ i = .int .i64 j ∧ fs.take j = gs.take j ∧ Below w.heap.size w wr) (fun i _ => n - (intOf i).toNat)
    case atStart => exact ⟨0, by omega, rfl, rfl, hB⟩
    case round =>
      obtain ⟨j, hj, rfl, het, hBr⟩ := hrel
      by_cases hlt : j < n
      · obtain ⟨ad, rfl⟩ := hx.some_of_pos (by omega)
        obtain ⟨bd, rfl⟩ := hy.some_of_pos (by omega)
        obtain ⟨e0, e1⟩ := (hx.below hBr).pair j (by omega)
        obtain ⟨g0, g1⟩ := (hy.below hBr).pair j (by omega)
        have HT := Lib.hid (take_succ_eq (fs := fs) (gs := gs) (j := j) (by omega) (by omega) het)
        have HN := Lib.hid (ne_of_at (fs := fs) (gs := gs) (j := j) (by omega) (by omega))
        have hq1 : (j : Int) < n := by omega
        clear het hx hy
        generalize fs[j] = f at *
        generalize gs[j] = g at *
        obtain ⟨f0, f1⟩ := f
        obtain ⟨h0, h1⟩ := g
        dsimp only at e0 e1 g0 g1
        have HT := Lib.hid HT.out
        by_cases heq : f0 = h0 ∧ f1 = h1
        · obtain ⟨rfl, rfl⟩ := heq
          have hEq : ∀ W : World, (Op.equalIn 10000 109 (.agg #[.int .u64 (f0 : Int), .int .u64 (f1 : Int)]) (.agg #[.int .u64 (f0 : Int), .int .u64 (f1 : Int)])).run Try.prog W = .ok true W := fun W => by rw [run_eq_pair]; simp
          have HT2 := Lib.hid (HT.out rfl)
          clear HT HN
          go_wp2_with fail
          go_quiet (fail)
          go_wp2_with fail
          go_roundw
          case rel => exact ⟨j + 1, by omega, by go_num, HT2.out, below_drewN hBr _⟩
          case measure => simp [intOf]; omega
        · have HN2 : Hid (decide (fs = gs) = false) := by
            show _ = _
            rw [decide_eq_false_iff_not]
            refine HN.out (fun h => heq ?_)
            simp only [Prod.mk.injEq] at h
            exact h
          have hEq : ∀ W : World, (Op.equalIn 10000 109 (.agg #[.int .u64 (f0 : Int), .int .u64 (f1 : Int)]) (.agg #[.int .u64 (h0 : Int), .int .u64 (h1 : Int)])).run Try.prog W = .ok false W := fun W => by rw [run_eq_pair]; simp [heq]
          clear HT HN heq
          all_goals
            go_wp2_with fail
            go_quiet (fail)
            go_wp2_with fail
            go_ret
            exact ⟨ret_bool HN2.out.symm, below_drewN hBr _⟩
      · obtain rfl : j = n := by omega
        rw [List.take_of_length_le (by omega), List.take_of_length_le (by omega)] at het
        subst het
        have hjn : ¬ (j : Int) < (j : Int) := by omega
        clear hx hy
        go_wp2_with fail
        go_ret
        exact ⟨ret_bool (by simp), hBr⟩
  · have hd : decide (fs = gs) = false := by rw [decide_eq_false_iff_not]; intro h; subst h; omega
    rw [hd]
    have h1 : ((n : Int) != (m : Int)) = true := by rw [bne_iff_ne]; omega
    clear hd hne
    go_enter Try.func82, Try.ntmps82
    go_wp2_with fail
    go_ret
    exact ⟨rfl, hB⟩
def sameR (e : Int) (n : Nat) (fs : List Fr) (ls : List (Nat × Nat)) (cs : List Int) (e' : Int) (n' : Nat) (fs' : List Fr) (ls' : List (Nat × Nat)) (cs' : List Int) : Bool := decide (e = e' ∧ n = n' ∧ fs = fs' ∧ ls = ls' ∧ cs = cs')

set_option maxRecDepth 100000 in
set_option maxHeartbeats 8000000 in
theorem rsame36_any (e : Int) (n : Nat) (fs : List Fr) (ls : List (Nat × Nat)) (cs : List Int) (A : Option Addr) (a1 a2 : Nat) (B : Option Addr) (b1 b2 : Nat) (C : Option Addr) (c1 c2 : Nat)
    (e' : Int) (n' : Nat) (fs' : List Fr) (ls' : List (Nat × Nat)) (cs' : List Int) (A' : Option Addr) (a1' a2' : Nat) (B' : Option Addr) (b1' b2' : Nat) (C' : Option Addr) (c1' c2' : Nat) (w : World)
    (hf : Rd w A a1 a2 5 (frCs fs)) (hl : Rd w B b1 b2 2 (prCs ls)) (hc : Rd w C c1 c2 1 (inCs cs)) (hN : a1 ≤ 1000000 ∧ b1 ≤ 1000000 ∧ c1 ≤ 1000000)
    (hf' : Rd w A' a1' a2' 5 (frCs fs')) (hl' : Rd w B' b1' b2' 2 (prCs ls')) (hc' : Rd w C' c1' c2' 1 (inCs cs')) (hN' : a1' ≤ 1000000 ∧ b1' ≤ 1000000 ∧ c1' ≤ 1000000) :
    Calls Try.prog 36 #[rpl e n A a1 a2 B b1 b2 C c1 c2, rpl e' n' A' a1' a2' B' b1' b2' C' c1' c2'] w fun x w' => x = .returned (.bool (sameR e n fs ls cs e' n' fs' ls' cs')) ∧ Below w.heap.size w w' := by
  obtain ⟨hB, hca, hcb⟩ := two_cells w (rplCs e n A a1 a2 B b1 b2 C c1 c2) (rplCs e' n' A' a1' a2' B' b1' b2' C' c1' c2') 47 47
  have p0 := hca 0 (.int .i64 e) rfl
  have p1 := hca 1 (.int .u64 (n : Int)) rfl
  have p2 := hca 2 (.slice A a1 a2) rfl
  have p3 := hca 3 (.slice B b1 b2) rfl
  have p4 := hca 4 (.slice C c1 c2) rfl
  have q0 := hcb 0 (.int .i64 e') rfl
  have q1 := hcb 1 (.int .u64 (n' : Int)) rfl
  have q2 := hcb 2 (.slice A' a1' a2') rfl
  have q3 := hcb 3 (.slice B' b1' b2') rfl
  have q4 := hcb 4 (.slice C' c1' c2') rfl
  have hll := hl.plen
  have hll' := hl'.plen
  replace hf := hf.below hB
  replace hl := hl.below hB
  replace hc := hc.below hB
  replace hf' := hf'.below hB
  replace hl' := hl'.below hB
  replace hc' := hc'.below hB
  obtain ⟨hN1, hN2, hN3⟩ := hN
  obtain ⟨hM1, hM2, hM3⟩ := hN'
  clear hca hcb
  have KF := fun W h h' => Lib.hid (fequal_any fs fs' A A' a1 a2 a1' a2' W h h' hN1 hM1)
  have KL := fun W h h' => Lib.hid (pequal_any ls ls' B B' b1 b2 b1' b2' W h h' hN2 hM2)
  have KC := fun W h h' => Lib.hid (iequal_any cs cs' C C' c1 c2 c1' c2' W h h' hN3 hM3)
  have HS : Hid (sameR e n fs ls cs e' n' fs' ls' cs' = decide (e = e' ∧ n = n' ∧ fs = fs' ∧ ls = ls' ∧ cs = cs')) := rfl
  generalize sameR e n fs ls cs e' n' fs' ls' cs' = R at *
  by_cases h0 : e = e'
  case neg =>
    have HR : Hid (R = false) := by show _ = _; rw [HS.out, decide_eq_false_iff_not]; exact fun h => h0 h.1
    have d1 : (e == e') = false := by rw [beq_eq_false_iff_ne]; exact h0
    have d2 : (e != e') = true := by rw [bne_iff_ne]; exact h0
    have d3 : decide (e = e') = false := by rw [decide_eq_false_iff_not]; exact h0
    clear HS KF KL KC h0
    go_enter Try.func36, Try.ntmps36
    go_wp2_with fail
    go_ret
    exact ⟨ret_bool HR.out.symm, hB⟩
  subst h0
  by_cases h1 : n = n'
  case neg =>
    have HR : Hid (R = false) := by show _ = _; rw [HS.out, decide_eq_false_iff_not]; exact fun h => h1 h.2.1
    have d1 : ((n : Int) == n') = false := by rw [beq_eq_false_iff_ne]; omega
    have d2 : ((n : Int) != n') = true := by rw [bne_iff_ne]; omega
    have d3 : decide ((n : Int) = n') = false := by rw [decide_eq_false_iff_not]; omega
    have d4 : ¬ ((n : Int) = n') := by omega
    clear HS KF KL KC h1
    go_enter Try.func36, Try.ntmps36
    go_wp2_with fail
    go_ret
    exact ⟨ret_bool HR.out.symm, hB⟩
  subst h1
  by_cases h2 : fs = fs'
  case neg =>
    have HR : Hid (R = false) := by show _ = _; rw [HS.out, decide_eq_false_iff_not]; exact fun h => h2 h.2.2.1
    rw [decide_eq_false h2] at KF
    clear HS KL KC h2
    go_enter Try.func36, Try.ntmps36
    go_wp2_with fail
    refine (KF _ hf hf').out.mono ?_
    rintro x w2 ⟨rfl, hb⟩
    go_wp2_with fail
    go_ret
    exact ⟨ret_bool HR.out.symm, below_trans hB hb⟩
  subst h2
  rw [decide_eq_true rfl] at KF
  by_cases h3 : ls = ls'
  case neg =>
    have HR : Hid (R = false) := by show _ = _; rw [HS.out, decide_eq_false_iff_not]; exact fun h => h3 h.2.2.2.1
    rw [decide_eq_false h3] at KL
    clear HS KC h3
    go_enter Try.func36, Try.ntmps36
    go_wp2_with fail
    refine (KF _ hf hf').out.mono ?_
    rintro x w2 ⟨rfl, hb⟩
    replace p3 := cell_below hb p3
    replace p4 := cell_below hb p4
    replace q3 := cell_below hb q3
    replace q4 := cell_below hb q4
    replace hl := hl.below hb
    replace hc := hc.below hb
    replace hl' := hl'.below hb
    replace hc' := hc'.below hb
    replace hB := below_trans hB hb
    clear hb KF
    go_wp2_with fail
    refine (KL _ hl hl').out.mono ?_
    rintro x w3 ⟨rfl, hb⟩
    go_wp2_with fail
    go_ret
    exact ⟨ret_bool HR.out.symm, below_trans hB hb⟩
  case pos =>
    have HR : Hid (R = decide (cs = cs')) := by show _ = _; rw [HS.out, decide_eq_decide]; exact ⟨fun h => h.2.2.2.2, fun h => ⟨rfl, rfl, rfl, h3, h⟩⟩
    subst h3
    rw [decide_eq_true rfl] at KL
    clear HS
    generalize decide (cs = cs') = q at *
    go_enter Try.func36, Try.ntmps36
    go_wp2_with fail
    refine (KF _ hf hf').out.mono ?_
    rintro x w2 ⟨rfl, hb⟩
    replace p3 := cell_below hb p3
    replace p4 := cell_below hb p4
    replace q3 := cell_below hb q3
    replace q4 := cell_below hb q4
    replace hl := hl.below hb
    replace hc := hc.below hb
    replace hl' := hl'.below hb
    replace hc' := hc'.below hb
    replace hB := below_trans hB hb
    clear hb KF
    go_wp2_with fail
    refine (KL _ hl hl').out.mono ?_
    rintro x w3 ⟨rfl, hb⟩
    replace p4 := cell_below hb p4
    replace q4 := cell_below hb q4
    replace hc := hc.below hb
    replace hc' := hc'.below hb
    replace hB := below_trans hB hb
    clear hb KL
    go_wp2_with fail
    refine (KC _ hc hc').out.mono ?_
    rintro x w4 ⟨rfl, hb⟩
    clear KC
    go_wp2_with fail
    go_ret
    exact ⟨ret_bool HR.out.symm, below_trans hB hb⟩

set_option maxRecDepth 100000 in
set_option maxHeartbeats 8000000 in
theorem refsame36_any (e : Int) (n : Nat) (fs : List Fr) (ls : List (Nat × Nat)) (cs : List Int) (A : Option Addr) (a1 a2 : Nat) (B : Option Addr) (b1 b2 : Nat) (C : Option Addr) (c1 c2 : Nat)
    (e' : Int) (n' : Nat) (fs' : List Fr) (ls' : List (Nat × Nat)) (cs' : List Int) (A' : Option Addr) (a1' a2' : Nat) (B' : Option Addr) (b1' b2' : Nat) (C' : Option Addr) (c1' c2' : Nat) (w : World)
    (hf : Rd w A a1 a2 5 (frCs fs)) (hl : Rd w B b1 b2 2 (prCs ls)) (hc : Rd w C c1 c2 1 (inCs cs)) (hN : a1 ≤ 1000000 ∧ b1 ≤ 1000000 ∧ c1 ≤ 1000000)
    (hf' : Rd w A' a1' a2' 5 (frCs fs')) (hl' : Rd w B' b1' b2' 2 (prCs ls')) (hc' : Rd w C' c1' c2' 1 (inCs cs')) (hN' : a1' ≤ 1000000 ∧ b1' ≤ 1000000 ∧ c1' ≤ 1000000) :
    Calls Try.prog 26 #[rpl e n A a1 a2 B b1 b2 C c1 c2, rpl e' n' A' a1' a2' B' b1' b2' C' c1' c2'] w fun x w' => x = .returned (.bool (sameR e n fs ls cs e' n' fs' ls' cs')) ∧ Below w.heap.size w w' := by
  obtain ⟨hB, hca, hcb⟩ := two_cells w (rplCs e n A a1 a2 B b1 b2 C c1 c2) (rplCs e' n' A' a1' a2' B' b1' b2' C' c1' c2') 47 47
  have p0 := hca 0 (.int .i64 e) rfl
  have p1 := hca 1 (.int .u64 (n : Int)) rfl
  have p2 := hca 2 (.slice A a1 a2) rfl
  have p3 := hca 3 (.slice B b1 b2) rfl
  have p4 := hca 4 (.slice C c1 c2) rfl
  have q0 := hcb 0 (.int .i64 e') rfl
  have q1 := hcb 1 (.int .u64 (n' : Int)) rfl
  have q2 := hcb 2 (.slice A' a1' a2') rfl
  have q3 := hcb 3 (.slice B' b1' b2') rfl
  have q4 := hcb 4 (.slice C' c1' c2') rfl
  have hll := hl.plen
  have hll' := hl'.plen
  replace hf := hf.below hB
  replace hl := hl.below hB
  replace hc := hc.below hB
  replace hf' := hf'.below hB
  replace hl' := hl'.below hB
  replace hc' := hc'.below hB
  obtain ⟨hN1, hN2, hN3⟩ := hN
  obtain ⟨hM1, hM2, hM3⟩ := hN'
  clear hca hcb
  have KF := fun W h h' => Lib.hid (refsame_any fs fs' A A' a1 a2 a1' a2' W h h' hN1 hM1)
  have KL := fun W h h' => Lib.hid (refints_any cs cs' C C' c1 c2 c1' c2' W h h' hN3 hM3)
  have KC : True := trivial
  have HS : Hid (sameR e n fs ls cs e' n' fs' ls' cs' = decide (e = e' ∧ n = n' ∧ fs = fs' ∧ ls = ls' ∧ cs = cs')) := rfl
  generalize sameR e n fs ls cs e' n' fs' ls' cs' = R at *
  by_cases h0 : e = e'
  case neg =>
    have HR : Hid (R = false) := by show _ = _; rw [HS.out, decide_eq_false_iff_not]; exact fun h => h0 h.1
    have d1 : (e == e') = false := by rw [beq_eq_false_iff_ne]; exact h0
    have d2 : (e != e') = true := by rw [bne_iff_ne]; exact h0
    have d3 : decide (e = e') = false := by rw [decide_eq_false_iff_not]; exact h0
    clear HS KF KL KC h0
    go_enter Try.func26, Try.ntmps26
    go_wp2_with fail
    go_ret
    exact ⟨ret_bool HR.out.symm, hB⟩
  subst h0
  by_cases h1 : n = n'
  case neg =>
    have HR : Hid (R = false) := by show _ = _; rw [HS.out, decide_eq_false_iff_not]; exact fun h => h1 h.2.1
    have d1 : ((n : Int) == n') = false := by rw [beq_eq_false_iff_ne]; omega
    have d2 : ((n : Int) != n') = true := by rw [bne_iff_ne]; omega
    have d3 : decide ((n : Int) = n') = false := by rw [decide_eq_false_iff_not]; omega
    have d4 : ¬ ((n : Int) = n') := by omega
    clear HS KF KL KC h1
    go_enter Try.func26, Try.ntmps26
    go_wp2_with fail
    go_ret
    exact ⟨ret_bool HR.out.symm, hB⟩
  subst h1
  by_cases h2 : fs = fs'
  case neg =>
    have HR : Hid (R = false) := by show _ = _; rw [HS.out, decide_eq_false_iff_not]; exact fun h => h2 h.2.2.1
    rw [decide_eq_false h2] at KF
    clear HS KL KC h2
    go_enter Try.func26, Try.ntmps26
    go_wp2_with fail
    refine (KF _ hf hf').out.mono ?_
    rintro x w2 ⟨rfl, hb⟩
    go_wp2_with fail
    go_ret
    exact ⟨ret_bool HR.out.symm, below_trans hB hb⟩
  subst h2
  rw [decide_eq_true rfl] at KF
  by_cases h3 : cs = cs'
  case neg =>
    have HR : Hid (R = false) := by show _ = _; rw [HS.out, decide_eq_false_iff_not]; exact fun h => h3 h.2.2.2.2
    rw [decide_eq_false h3] at KL
    clear HS KC h3
    go_enter Try.func26, Try.ntmps26
    go_wp2_with fail
    refine (KF _ hf hf').out.mono ?_
    rintro x w2 ⟨rfl, hb⟩
    replace p3 := cell_below hb p3
    replace p4 := cell_below hb p4
    replace q3 := cell_below hb q3
    replace q4 := cell_below hb q4
    replace hl := hl.below hb
    replace hc := hc.below hb
    replace hl' := hl'.below hb
    replace hc' := hc'.below hb
    replace hB := below_trans hB hb
    clear hb KF
    go_wp2_with fail
    refine (KL _ hc hc').out.mono ?_
    rintro x w3 ⟨rfl, hb⟩
    go_wp2_with fail
    go_ret
    exact ⟨ret_bool HR.out.symm, below_trans hB hb⟩
  case pos =>
    have HR : Hid (R = decide (ls = ls')) := by show _ = _; rw [HS.out, decide_eq_decide]; exact ⟨fun h => h.2.2.2.1, fun h => ⟨rfl, rfl, rfl, h, h3⟩⟩
    subst h3
    rw [decide_eq_true rfl] at KL
    clear HS
    go_enter Try.func26, Try.ntmps26
    go_wp2_with fail
    refine (KF _ hf hf').out.mono ?_
    rintro x w2 ⟨rfl, hb⟩
    replace p3 := cell_below hb p3
    replace p4 := cell_below hb p4
    replace q3 := cell_below hb q3
    replace q4 := cell_below hb q4
    replace hl := hl.below hb
    replace hc := hc.below hb
    replace hl' := hl'.below hb
    replace hc' := hc'.below hb
    replace hB := below_trans hB hb
    clear hb KF
    go_wp2_with fail
    refine (KL _ hc hc').out.mono ?_
    rintro x w3 ⟨rfl, hb⟩
    replace p3 := cell_below hb p3
    replace q3 := cell_below hb q3
    replace hl := hl.below hb
    replace hl' := hl'.below hb
    replace hB := below_trans hB hb
    clear hb KL KC hc hc' p4 q4
    have hc1 := hl.cm
    have hc2 := hl'.cm
    unfold maxLen at hc1 hc2
    by_cases hlen : b1 = b1'
    case neg =>
      have HR2 : Hid (R = false) := by show _ = _; rw [HR.out, decide_eq_false_iff_not]; rintro rfl; omega
      have d1 : ((b1 : Int) != (b1' : Int)) = true := by rw [bne_iff_ne]; omega
      clear HR hlen
      go_wp2_with fail
      go_ret
      exact ⟨ret_bool HR2.out.symm, hB⟩
    subst hlen
    go_wp2_with fail
    go_loopw [5] (fun i wr => ∃ j : Nat, j ≤ b1 ∧ i = .int .i64 j ∧ Hid (ls.take j = ls'.take j) ∧ Below w3.heap.size w3 wr) (fun i _ => b1 - (intOf i).toNat)
    case atStart => exact ⟨0, by omega, rfl, Lib.hid rfl, Below.refl _ _⟩
    case round =>
      obtain ⟨j, hj, rfl, HE, hBr⟩ := hrel
      have k3 := cell_below hBr p3
      have m3 := cell_below hBr q3
      by_cases hlt : j < b1
      · obtain ⟨ad, rfl⟩ := hl.some_of_pos (by omega)
        obtain ⟨bd, rfl⟩ := hl'.some_of_pos (by omega)
        obtain ⟨e0, e1⟩ := (hl.below hBr).pair j (by omega)
        obtain ⟨g0, g1⟩ := (hl'.below hBr).pair j (by omega)
        have HT := Lib.hid (take_succ_eq (fs := ls) (gs := ls') (j := j) (by omega) (by omega) HE.out)
        have HN := Lib.hid (ne_of_at (fs := ls) (gs := ls') (j := j) (by omega) (by omega))
        have hq1 : (j : Int) < b1 := by omega
        clear HE hl hl'
        generalize ls[j] = f at *
        generalize ls'[j] = g at *
        obtain ⟨f0, f1⟩ := f
        obtain ⟨h0, h1⟩ := g
        dsimp only at e0 e1 g0 g1
        by_cases heq : f0 = h0 ∧ f1 = h1
        · obtain ⟨rfl, rfl⟩ := heq
          have hEq : ∀ W : World, (Op.equalIn 10000 109 (.agg #[.int .u64 (f0 : Int), .int .u64 (f1 : Int)]) (.agg #[.int .u64 (f0 : Int), .int .u64 (f1 : Int)])).run Try.prog W = .ok true W := fun W => by rw [run_eq_pair]; simp
          have HT2 := Lib.hid (HT.out rfl)
          clear HT HN
          go_wp2_with fail
          go_quiet (fail)
          go_wp2_with fail
          go_roundw
          case rel => exact ⟨j + 1, by omega, by go_num, HT2, below_drewN hBr _⟩
          case measure => simp [intOf]; omega
        · have HR2 : Hid (R = false) := by
            show _ = _
            rw [HR.out, decide_eq_false_iff_not]
            refine HN.out (fun h => heq ?_)
            simp only [Prod.mk.injEq] at h
            exact h
          have hEq : ∀ W : World, (Op.equalIn 10000 109 (.agg #[.int .u64 (f0 : Int), .int .u64 (f1 : Int)]) (.agg #[.int .u64 (h0 : Int), .int .u64 (h1 : Int)])).run Try.prog W = .ok false W := fun W => by rw [run_eq_pair]; simp [heq]
          clear HT HN heq HR
          go_wp2_with fail
          go_quiet (fail)
          go_wp2_with fail
          go_ret
          exact ⟨ret_bool HR2.out.symm, below_trans hB (below_drewN hBr _)⟩
      · obtain rfl : j = b1 := by omega
        have het := HE.out
        rw [List.take_of_length_le (by omega), List.take_of_length_le (by omega)] at het
        have HR2 : Hid (R = true) := by show _ = _; rw [HR.out, decide_eq_true het]
        have hjn : ¬ (j : Int) < (j : Int) := by omega
        clear hl hl' HE het HR
        go_wp2_with fail
        go_ret
        exact ⟨ret_bool HR2.out.symm, below_trans hB hBr⟩
end Go.Proofs.Ytefipigdkdopcaa
