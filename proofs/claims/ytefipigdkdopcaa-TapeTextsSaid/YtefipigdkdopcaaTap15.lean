/- Layer 41: contracts of the geometry's Right, As, Drop. No condition but lengths' bounds. -/
import Derived.Test.YtefipigdkdopcaaTap14
namespace Go.Proofs.Ytefipigdkdopcaa
open Go.RowKit

set_option maxRecDepth 100000 in
theorem right_any (x y z : Int) (w : World) : Calls Try.prog 85 #[.agg #[.int .i64 x, .int .i64 y, .int .i64 z]] w fun e w' => e = .returned (.bool (geomOk x y z)) ∧ Below w.heap.size w w' := by
  obtain ⟨hB, hca⟩ := one_cells w #[.int .i64 x, .int .i64 y, .int .i64 z] 65
  have p0 := hca 0 (.int .i64 x) rfl
  have p1 := hca 1 (.int .i64 y) rfl
  have p2 := hca 2 (.int .i64 z) rfl
  have HG : Hid (geomOk x y z = decide ((8 ≤ x ∧ x ≤ 34) ∧ (4 ≤ y ∧ y ≤ 32) ∧ (0 ≤ z ∧ z ≤ 8))) := rfl
  generalize geomOk x y z = g at *
  clear hca
  by_cases h0 : 8 ≤ x
  case neg =>
    have d0 : decide (8 ≤ x) = false := by rw [decide_eq_false_iff_not]; exact h0
    have HG2 : Hid (g = false) := by show _ = _; rw [HG.out, decide_eq_false_iff_not]; omega
    clear HG h0
    go_enter Try.func85, Try.ntmps85
    go_wp2_with fail
    go_ret
    exact ⟨ret_bool HG2.out.symm, hB⟩
  have d0 : decide (8 ≤ x) = true := by rw [decide_eq_true_iff]; exact h0
  by_cases h1 : x ≤ 34
  case neg =>
    have d1 : decide (x ≤ 34) = false := by rw [decide_eq_false_iff_not]; exact h1
    have HG2 : Hid (g = false) := by show _ = _; rw [HG.out, decide_eq_false_iff_not]; omega
    clear HG h0 h1
    go_enter Try.func85, Try.ntmps85
    go_wp2_with fail
    go_ret
    exact ⟨ret_bool HG2.out.symm, hB⟩
  have d1 : decide (x ≤ 34) = true := by rw [decide_eq_true_iff]; exact h1
  by_cases h2 : 4 ≤ y
  case neg =>
    have d2 : decide (4 ≤ y) = false := by rw [decide_eq_false_iff_not]; exact h2
    have HG2 : Hid (g = false) := by show _ = _; rw [HG.out, decide_eq_false_iff_not]; omega
    clear HG h0 h1 h2
    go_enter Try.func85, Try.ntmps85
    go_wp2_with fail
    go_ret
    exact ⟨ret_bool HG2.out.symm, hB⟩
  have d2 : decide (4 ≤ y) = true := by rw [decide_eq_true_iff]; exact h2
  by_cases h3 : y ≤ 32
  case neg =>
    have d3 : decide (y ≤ 32) = false := by rw [decide_eq_false_iff_not]; exact h3
    have HG2 : Hid (g = false) := by show _ = _; rw [HG.out, decide_eq_false_iff_not]; omega
    clear HG h0 h1 h2 h3
    go_enter Try.func85, Try.ntmps85
    go_wp2_with fail
    go_ret
    exact ⟨ret_bool HG2.out.symm, hB⟩
  have d3 : decide (y ≤ 32) = true := by rw [decide_eq_true_iff]; exact h3
  by_cases h4 : 0 ≤ z
  case neg =>
    have d4 : decide (0 ≤ z) = false := by rw [decide_eq_false_iff_not]; exact h4
    have HG2 : Hid (g = false) := by show _ = _; rw [HG.out, decide_eq_false_iff_not]; omega
    clear HG h0 h1 h2 h3 h4
    go_enter Try.func85, Try.ntmps85
    go_wp2_with fail
    go_ret
    exact ⟨ret_bool HG2.out.symm, hB⟩
  have d4 : decide (0 ≤ z) = true := by rw [decide_eq_true_iff]; exact h4
  by_cases h5 : z ≤ 8
  case neg =>
    have d5 : decide (z ≤ 8) = false := by rw [decide_eq_false_iff_not]; exact h5
    have HG2 : Hid (g = false) := by show _ = _; rw [HG.out, decide_eq_false_iff_not]; omega
    clear HG h0 h1 h2 h3 h4 h5
    go_enter Try.func85, Try.ntmps85
    go_wp2_with fail
    go_ret
    exact ⟨ret_bool HG2.out.symm, hB⟩
  have d5 : decide (z ≤ 8) = true := by rw [decide_eq_true_iff]; exact h5
  have HG2 : Hid (g = true) := by show _ = _; rw [HG.out, decide_eq_true_iff]; omega
  clear HG h0 h1 h2 h3 h4 h5
  go_enter Try.func85, Try.ntmps85
  go_wp2_with fail
  go_ret
  exact ⟨ret_bool HG2.out.symm, hB⟩

set_option maxRecDepth 100000 in
theorem as41_any (x y z : Int) (B : Option Addr) (b1 b2 : Nat) (F : Option Addr) (f1 f2 : Nat) (S : Option Addr) (s1 s2 : Nat) (w : World) : Calls Try.prog 41 #[.agg (scA x y z B b1 b2 F f1 f2 S s1 s2)] w fun e w' => e = .returned (.agg (scA x y z B b1 b2 F f1 f2 S s1 s2)) ∧ Below w.heap.size w w' := by
  obtain ⟨hB, hca, hcb⟩ := two_cells w (scA x y z B b1 b2 F f1 f2 S s1 s2) zSc 69 73
  have c0 := hca 0 (.int .i64 x) rfl
  have c1 := hca 1 (.int .i64 y) rfl
  have c2 := hca 2 (.int .i64 z) rfl
  have c3 := hca 3 (.slice B b1 b2) rfl
  have c4 := hca 4 (.slice F f1 f2) rfl
  have c5 := hca 5 (.slice S s1 s2) rfl
  have hR := alloc_new (w.alloc (.cells (scA x y z B b1 b2 F f1 f2 S s1 s2) 69)) (.cells zSc 73 (0, 0))
  rw [alloc_size] at hR
  clear hca hcb
  go_enter Try.func41, Try.ntmps41
  go_upto_region 1 with fail
  generalize (w.alloc (.cells (scA x y z B b1 b2 F f1 f2 S s1 s2) 69)).alloc (.cells zSc 73) = w1 at *
  obtain ⟨⟨z0, z1, z2, z3, z4, z5⟩, k0, k1, k2, k3, k4, k5⟩ := six_cells hR
  go_wp2_with fail
  have hh9 := six_heap hR (.int .i64 x) (.int .i64 y) (.int .i64 z) (.slice B b1 b2) (.slice F f1 f2) (.slice S s1 s2)
  have hB9 := below_gbw (six_gb w1 (w.heap.size + 1) (.int .i64 x) (.int .i64 y) (.int .i64 z) (.slice B b1 b2) (.slice F f1 f2) (.slice S s1 s2)) hB (by omega)
  obtain ⟨⟨r0, r1, r2, r3, r4, r5⟩, -⟩ := six_cells hh9
  refine bodyPost_ret (v := .agg (scA x y z B b1 b2 F f1 f2 S s1 s2)) ?_ rfl ⟨rfl, hB9⟩
  simp only [six] at r0 r1 r2 r3 r4 r5
  simp [results, Try.results41, go_sem, r0, r1, r2, r3, r4, r5]

/-- A text without its empty lines. -/
def dropP (p : List UInt8) : List UInt8 := if wordsL p = [] then [] else p ++ [10]
def dropL (l : List (List UInt8)) : List UInt8 := l.flatMap dropP
theorem dropL_succ (l : List (List UInt8)) (j : Nat) (h : j < l.length) : dropL (l.take (j + 1)) = dropL (l.take j) ++ dropP (l.getD j []) := by
  unfold dropL
  rw [List.take_succ_eq_append_getElem h, List.flatMap_append, List.getD_eq_getElem?_getD, List.getElem?_eq_getElem h]
  simp
theorem dropL_len (l : List (List UInt8)) (k : Nat) (h : ∀ p ∈ l, p.length ≤ k) : (dropL l).length ≤ l.length * (k + 1) := by
  unfold dropL
  induction l with
  | nil => simp
  | cons a l ih =>
    have h1 := ih (fun p hp => h p (by simp [hp]))
    have h2 := h a (by simp)
    have h3 : (dropP a).length ≤ k + 1 := by unfold dropP; split <;> simp <;> omega
    rw [List.flatMap_cons, List.length_append, List.length_cons, Nat.add_mul]
    omega

set_option maxRecDepth 100000 in
set_option maxHeartbeats 4000000 in
theorem drop41_any (t : List UInt8) (w : World) (hN : t.length ≤ 90000) : Calls Try.prog 39 #[.string ⟨t.toArray⟩] w fun e w' => e = .returned (.string ⟨(dropL (linesL t)).toArray⟩) ∧ Below w.heap.size w w' := by
  have KS : ∀ W, Hid (Calls Try.prog 61 #[.string ⟨t.toArray⟩, .int .u8 10, .int .u8 10, .bool false] W fun e w' => ∃ A c, e = .returned (.slice A (linesL t).length c) ∧ RdS w' A (linesL t).length c (linesL t) ∧ Below W.heap.size W w') := fun W => Lib.hid (split_rd t 10 10 false 10 10 rfl rfl W (by omega))
  have hlen : (linesL t).length ≤ t.length + 1 := split2_length 10 10 false t
  have HALL : Hid (∀ p ∈ linesL t, p.length ≤ t.length) := fun p hp => (split2_free 10 10 false t p hp).2.2
  generalize linesL t = ls at *
  have HLN : Hid (∀ j, j ≤ ls.length → (dropL (ls.take j)).length ≤ j * 90001) := fun j hj => by
    have h1 := dropL_len (ls.take j) 90000 (fun p hp => by have := HALL.out p (List.mem_of_mem_take hp); omega)
    rw [List.length_take, Nat.min_eq_left hj] at h1
    exact h1
  have HD0 : dropL (ls.take 0) = [] := rfl
  go_enter Try.func39, Try.ntmps39
  go_wp2_with fail
  refine (KS _).out.mono ?_
  rintro e w2 ⟨A2, c2, rfl, hr, hB⟩
  clear KS
  have hc1 := hr.cm
  have hc2 := hr.nc
  unfold maxLen at hc1
  go_wp2_with fail
  go_loopw [4, 5] (fun o i wr => ∃ (j : Nat), i = .int .i64 j ∧ o = .string ⟨(dropL (ls.take j)).toArray⟩ ∧ j ≤ ls.length ∧ Below w2.heap.size w2 wr) (fun _ i _ => ls.length - (intOf i).toNat)
  case atStart => exact ⟨0, rfl, by rw [HD0], by omega, Below.refl _ _⟩
  case round =>
    obtain ⟨j, rfl, rfl, hj, hBr⟩ := hrel
    clear HD0
    have hjl0 := HLN.out j hj
    by_cases hlt : j < ls.length
    · have HS := Lib.hid (dropL_succ ls j hlt)
      obtain ⟨ad2, rfl, hc⟩ := hr.sat j hlt
      replace hc := cell_below hBr hc
      have hp : ls.getD j [] ∈ ls := by rw [List.getD_eq_getElem?_getD, List.getElem?_eq_getElem hlt]; exact List.getElem_mem _
      have hpl := HALL.out _ hp
      clear hp
      generalize ls.getD j [] = p at *
      have KS2 : ∀ W, Hid (Calls Try.prog 61 #[.string ⟨p.toArray⟩, .int .u8 32, .int .u8 9, .bool true] W fun e w' => ∃ A c, e = .returned (.slice A (wordsL p).length c) ∧ RdS w' A (wordsL p).length c (wordsL p) ∧ Below W.heap.size W w') := fun W => Lib.hid (split_rd p 32 9 true 32 9 rfl rfl W (by omega))
      have hjl : (j : Int) < (ls.length : Int) := by omega
      generalize hdj : dropL (ls.take j) = dj at *
      clear hdj
      go_wp2_with fail
      refine (KS2 _).out.mono ?_
      rintro e w3 ⟨A3, c3, rfl, -, hb⟩
      replace hc := cell_below hb hc
      replace hBr := below_trans hBr hb
      clear hb KS2
      cases hw : wordsL p with
      | nil =>
        have HS2 : Hid (dropL (ls.take (j + 1)) = dj) := by show _ = _; rw [HS.out]; unfold dropP; rw [if_pos hw, List.append_nil]
        clear HS hw
        go_wp2_with fail
        go_roundw
        case rel => exact ⟨j + 1, by go_num, by rw [HS2.out], by omega, hBr⟩
        case measure => simp [intOf]; omega
      | cons h0 r0 =>
        have HS2 : Hid (dropL (ls.take (j + 1)) = dj ++ p ++ [10]) := by show _ = _; rw [HS.out]; unfold dropP; rw [if_neg (by rw [hw]; simp), List.append_assoc]
        clear HS hw
        have l1 : ¬ (9223372036854775807 < dj.length + p.length) := by omega
        have l2 : ¬ (9223372036854775807 < dj.length + p.length + 1) := by omega
        go_wp2_with fail
        go_roundw
        case rel => exact ⟨j + 1, by go_num, by rw [HS2.out, ← cat_bytes, ← cat_bytes], by omega, hBr⟩
        case measure => simp [intOf]; omega
    · obtain rfl : j = ls.length := by omega
      have hjn : ¬ (ls.length : Int) < (ls.length : Int) := by omega
      rw [List.take_of_length_le (Nat.le_refl _)]
      go_wp2_with fail
      go_ret
      exact ⟨rfl, below_trans hB hBr⟩
end Go.Proofs.Ytefipigdkdopcaa
