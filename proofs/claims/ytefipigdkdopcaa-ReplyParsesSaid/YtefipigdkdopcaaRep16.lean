/- Contracts: whether rows of numbers and of pairs are the same (slices.Equal; the reference's Ints). No condition but lengths' bounds. -/
import Derived.Test.YtefipigdkdopcaaRep6
import Derived.Deep.QuietTactic
import Derived.BigQuiet
import Derived.ChangeKeysEq
namespace Go.Proofs.Ytefipigdkdopcaa
open Go.RowKit

theorem take_succ_eq {α : Type} {fs gs : List α} {j : Nat} (h1 : j < fs.length) (h2 : j < gs.length) (h : fs.take j = gs.take j) (he : fs[j] = gs[j]) : fs.take (j + 1) = gs.take (j + 1) := by
  rw [List.take_succ_eq_append_getElem h1, List.take_succ_eq_append_getElem h2, h, he]
theorem ne_of_at {α : Type} {fs gs : List α} {j : Nat} (h1 : j < fs.length) (h2 : j < gs.length) (he : fs[j] ≠ gs[j]) : fs ≠ gs := by
  intro h; subst h; exact he rfl
theorem info_u64 : ∃ i, Try.prog.info? 22 = some i ∧ i.zero = some (.int .u64 0) ∧ i.size = 1 ∧ i.bytes = 8 := info_parts (by kernel_rfl)
theorem cells_u64 : Try.prog.cellsOf 22 = 1 := by kernel_rfl
theorem run_eq_pair (a b c d : Nat) (W : World) : (Op.equalIn 10000 109 (.agg #[.int .u64 (a : Int), .int .u64 (b : Int)]) (.agg #[.int .u64 (c : Int), .int .u64 (d : Int)])).run Try.prog W = .ok (decide (a = c ∧ b = d)) W := by
  obtain ⟨i, hi, -⟩ := info_u64
  have hu := Try.underlying22
  have p0 : ∀ x y : Value, (part 22 #[x, y] 0).run Try.prog W = .ok x W := fun x y => by simp [part, isAgg, run_underlying hu]
  have p1 : ∀ x y : Value, (part 22 #[x, y] 1).run Try.prog W = .ok y W := fun x y => by simp [part, isAgg, run_underlying hu]
  have pe : ∀ x y : Int, (Op.equalIn 9999 22 (.int .u64 x) (.int .u64 y)).run Try.prog W = .ok (x == y) W := fun x y => by
    rw [show 9999 = 9998 + 1 from rfl, run_equalIn_int W 9998 _ .u64 .u64 _ _ hu]
  rw [show 10000 = 9999 + 1 from rfl, Go.run_equalIn_array W 9999 _ _ Try.underlying109 hi, cells_u64, show List.range 2 = [0, 1] from rfl]
  simp only [Op.eqItems, Sem.run_bind, Nat.zero_mul, Nat.one_mul, p0, p1, Result.andThen_ok, pe]
  by_cases h1 : a = c
  · subst h1
    by_cases h2 : b = d
    · subst h2; simp [p1, pe]
    · have : ((b : Int) == d) = false := by rw [beq_eq_false_iff_ne]; omega
      simp [p1, pe, this, h2]
  · have : ((a : Int) == c) = false := by rw [beq_eq_false_iff_ne]; omega
    simp [p1, pe, this, h1]

set_option maxRecDepth 100000 in
set_option maxHeartbeats 4000000 in
theorem refints_any (fs gs : List (Int)) (A B : Option Addr) (n c m k : Nat) (w : World) (hx : Rd w A n c 1 (inCs fs)) (hy : Rd w B m k 1 (inCs gs)) (hN : n ≤ 1000000) (hM : m ≤ 1000000) :
    Calls Try.prog 69 #[.slice A n c, .slice B m k] w fun e w' => e = .returned (.bool (decide (fs = gs))) ∧ Below w.heap.size w w' := by
  have hxl := hx.ilen
  have hyl := hy.ilen
  have hB := Below.refl w.heap.size w
  have hc1 := hx.cm
  have hc2 := hy.cm
  unfold maxLen at hc1 hc2
  by_cases hne : n = m
  · subst hne
    go_enter Try.func69, Try.ntmps69
    go_wp2_with fail
    go_loopw [5] (fun i wr => ∃ j : Nat, j ≤ n ∧ i = .int .i64 j ∧ fs.take j = gs.take j ∧ Below w.heap.size w wr) (fun i _ => n - (intOf i).toNat)
    case atStart => exact ⟨0, by omega, rfl, rfl, hB⟩
    case round =>
      obtain ⟨j, hj, rfl, het, hBr⟩ := hrel
      by_cases hlt : j < n
      · obtain ⟨ad, rfl⟩ := hx.some_of_pos (by omega)
        obtain ⟨bd, rfl⟩ := hy.some_of_pos (by omega)
        have e0 := (hx.below hBr).icell j (by omega)
        have g0 := (hy.below hBr).icell j (by omega)
        have HT := Lib.hid (take_succ_eq (fs := fs) (gs := gs) (j := j) (by omega) (by omega) het)
        have HN := Lib.hid (ne_of_at (fs := fs) (gs := gs) (j := j) (by omega) (by omega))
        have hq1 : (j : Int) < n := by omega
        clear het hx hy
        generalize fs[j] = f at *
        generalize gs[j] = g at *

        by_cases heq : f = g
        · obtain rfl := heq
          have HT2 := Lib.hid (HT.out rfl)
          clear HT HN
          go_wp2_with fail
          go_quiet (fail)
          go_wp2_with fail
          go_roundw
          case rel => exact ⟨j + 1, by omega, by go_num, HT2.out, below_drewN hBr _⟩
          case measure => simp [intOf]; omega
        · have HN2 : Hid (decide (fs = gs) = false) := by
            show _ = _
            rw [decide_eq_false_iff_not]
            refine HN.out (fun h => heq ?_)
            exact h
          have b1 : (f == g) = false := by rw [beq_eq_false_iff_ne]; exact heq
          have b3 : decide (f = g) = false := by rw [decide_eq_false_iff_not]; exact heq
          clear HT HN heq
          all_goals
            go_wp2_with fail
            go_quiet (fail)
            go_wp2_with fail
            go_ret
            exact ⟨ret_bool HN2.out.symm, below_drewN hBr _⟩
      · obtain rfl : j = n := by omega
        rw [List.take_of_length_le (by omega), List.take_of_length_le (by omega)] at het
        subst het
        have hjn : ¬ (j : Int) < (j : Int) := by omega
        clear hx hy
        go_wp2_with fail
        go_ret
        exact ⟨ret_bool (by simp), hBr⟩
  · have hd : decide (fs = gs) = false := by rw [decide_eq_false_iff_not]; intro h; subst h; omega
    rw [hd]
    have h1 : ((n : Int) != (m : Int)) = true := by rw [bne_iff_ne]; omega
    clear hd hne
    go_enter Try.func69, Try.ntmps69
    go_wp2_with fail
    go_ret
    exact ⟨rfl, hB⟩

set_option maxRecDepth 100000 in
set_option maxHeartbeats 4000000 in
theorem iequal_any (fs gs : List (Int)) (A B : Option Addr) (n c m k : Nat) (w : World) (hx : Rd w A n c 1 (inCs fs)) (hy : Rd w B m k 1 (inCs gs)) (hN : n ≤ 1000000) (hM : m ≤ 1000000) :
    Calls Try.prog 83 #[.slice A n c, .slice B m k] w fun e w' => e = .returned (.bool (decide (fs = gs))) ∧ Below w.heap.size w w' := by
  have hxl := hx.ilen
  have hyl := hy.ilen
  have hB := Below.refl w.heap.size w
  have hc1 := hx.cm
  have hc2 := hy.cm
  unfold maxLen at hc1 hc2
  by_cases hne : n = m
  · subst hne
    go_enter Try.func83, Try.ntmps83
    go_wp2_with fail
    go_loopw [13] (fun i wr => ∃ j : Nat, j ≤ n ∧ i = .int .i64 j ∧ fs.take j = gs.take j ∧ Below w.heap.size w wr) (fun i _ => n - (intOf i).toNat)
    case atStart => exact ⟨0, by omega, rfl, rfl, hB⟩
    case round =>
      obtain ⟨j, hj, rfl, het, hBr⟩ := hrel
      by_cases hlt : j < n
      · obtain ⟨ad, rfl⟩ := hx.some_of_pos (by omega)
        obtain ⟨bd, rfl⟩ := hy.some_of_pos (by omega)
        have e0 := (hx.below hBr).icell j (by omega)
        have g0 := (hy.below hBr).icell j (by omega)
        have HT := Lib.hid (take_succ_eq (fs := fs) (gs := gs) (j := j) (by omega) (by omega) het)
        have HN := Lib.hid (ne_of_at (fs := fs) (gs := gs) (j := j) (by omega) (by omega))
        have hq1 : (j : Int) < n := by omega
        clear het hx hy
        generalize fs[j] = f at *
        generalize gs[j] = g at *

        by_cases heq : f = g
        · obtain rfl := heq
          have HT2 := Lib.hid (HT.out rfl)
          clear HT HN
          go_wp2_with fail
          go_quiet (fail)
          go_wp2_with fail
          go_roundw
          case rel => exact ⟨j + 1, by omega, by go_num, HT2.out, below_drewN hBr _⟩
          case measure => simp [intOf]; omega
        · have HN2 : Hid (decide (fs = gs) = false) := by
            show _ = _
            rw [decide_eq_false_iff_not]
            refine HN.out (fun h => heq ?_)
            exact h
          have b1 : (f == g) = false := by rw [beq_eq_false_iff_ne]; exact heq
          have b3 : decide (f = g) = false := by rw [decide_eq_false_iff_not]; exact heq
          clear HT HN heq
          all_goals
            go_wp2_with fail
            go_quiet (fail)
            go_wp2_with fail
            go_ret
            exact ⟨ret_bool HN2.out.symm, below_drewN hBr _⟩
      · obtain rfl : j = n := by omega
        rw [List.take_of_length_le (by omega), List.take_of_length_le (by omega)] at het
        subst het
        have hjn : ¬ (j : Int) < (j : Int) := by omega
        clear hx hy
        go_wp2_with fail
        go_ret
        exact ⟨ret_bool (by simp), hBr⟩
  · have hd : decide (fs = gs) = false := by rw [decide_eq_false_iff_not]; intro h; subst h; omega
    rw [hd]
    have h1 : ((n : Int) != (m : Int)) = true := by rw [bne_iff_ne]; omega
    clear hd hne
    go_enter Try.func83, Try.ntmps83
    go_wp2_with fail
    go_ret
    exact ⟨rfl, hB⟩

set_option maxRecDepth 100000 in
set_option maxHeartbeats 4000000 in
theorem pequal_any (fs gs : List (Nat × Nat)) (A B : Option Addr) (n c m k : Nat) (w : World) (hx : Rd w A n c 2 (prCs fs)) (hy : Rd w B m k 2 (prCs gs)) (hN : n ≤ 1000000) (hM : m ≤ 1000000) :
    Calls Try.prog 82 #[.slice A n c, .slice B m k] w fun e w' => e = .returned (.bool (decide (fs = gs))) ∧ Below w.heap.size w w' := by
  have hxl := hx.plen
  have hyl := hy.plen
  have hB := Below.refl w.heap.size w
  have hc1 := hx.cm
  have hc2 := hy.cm
  unfold maxLen at hc1 hc2
  by_cases hne : n = m
  · subst hne
    go_enter Try.func82, Try.ntmps82
    go_wp2_with fail
    go_loopw [13] (fun i wr => ∃ j : Nat, j ≤ n ∧ i = .int .i64 j ∧ fs.take j = gs.take j ∧ Below w.heap.size w wr) (fun i _ => n - (intOf i).toNat)
    case atStart => exact ⟨0, by omega, rfl, rfl, hB⟩
    case round =>
      obtain ⟨j, hj, rfl, het, hBr⟩ := hrel
      by_cases hlt : j < n
      · obtain ⟨ad, rfl⟩ := hx.some_of_pos (by omega)
        obtain ⟨bd, rfl⟩ := hy.some_of_pos (by omega)
        obtain ⟨e0, e1⟩ := (hx.below hBr).pair j (by omega)
        obtain ⟨g0, g1⟩ := (hy.below hBr).pair j (by omega)
        have HT := Lib.hid (take_succ_eq (fs := fs) (gs := gs) (j := j) (by omega) (by omega) het)
        have HN := Lib.hid (ne_of_at (fs := fs) (gs := gs) (j := j) (by omega) (by omega))
        have hq1 : (j : Int) < n := by omega
        clear het hx hy
        generalize fs[j] = f at *
        generalize gs[j] = g at *
        obtain ⟨f0, f1⟩ := f
        obtain ⟨h0, h1⟩ := g
        dsimp only at e0 e1 g0 g1
        have HT := Lib.hid HT.out
        by_cases heq : f0 = h0 ∧ f1 = h1
        · obtain ⟨rfl, rfl⟩ := heq
          have hEq : ∀ W : World, (Op.equalIn 10000 109 (.agg #[.int .u64 (f0 : Int), .int .u64 (f1 : Int)]) (.agg #[.int .u64 (f0 : Int), .int .u64 (f1 : Int)])).run Try.prog W = .ok true W := fun W => by rw [run_eq_pair]; simp
          have HT2 := Lib.hid (HT.out rfl)
          clear HT HN
          go_wp2_with fail
          go_quiet (fail)
          go_wp2_with fail
          go_roundw
          case rel => exact ⟨j + 1, by omega, by go_num, HT2.out, below_drewN hBr _⟩
          case measure => simp [intOf]; omega
        · have HN2 : Hid (decide (fs = gs) = false) := by
            show _ = _
            rw [decide_eq_false_iff_not]
            refine HN.out (fun h => heq ?_)
            simp only [Prod.mk.injEq] at h
            exact h
          have hEq : ∀ W : World, (Op.equalIn 10000 109 (.agg #[.int .u64 (f0 : Int), .int .u64 (f1 : Int)]) (.agg #[.int .u64 (h0 : Int), .int .u64 (h1 : Int)])).run Try.prog W = .ok false W := fun W => by rw [run_eq_pair]; simp [heq]
          clear HT HN heq
          all_goals
            go_wp2_with fail
            go_quiet (fail)
            go_wp2_with fail
            go_ret
            exact ⟨ret_bool HN2.out.symm, below_drewN hBr _⟩
      · obtain rfl : j = n := by omega
        rw [List.take_of_length_le (by omega), List.take_of_length_le (by omega)] at het
        subst het
        have hjn : ¬ (j : Int) < (j : Int) := by omega
        clear hx hy
        go_wp2_with fail
        go_ret
        exact ⟨ret_bool (by simp), hBr⟩
  · have hd : decide (fs = gs) = false := by rw [decide_eq_false_iff_not]; intro h; subst h; omega
    rw [hd]
    have h1 : ((n : Int) != (m : Int)) = true := by rw [bne_iff_ne]; omega
    clear hd hne
    go_enter Try.func82, Try.ntmps82
    go_wp2_with fail
    go_ret
    exact ⟨rfl, hB⟩
end Go.Proofs.Ytefipigdkdopcaa
