/- Layer 41 (tape): plain facts; contracts of within, fault, step, Check's closures, geom.Check. No condition but lengths' bounds. -/
import Derived.Test.YtefipigdkdopcaaRep3
import Derived.Test.YtefipigdkdopcaaCmd2
namespace Go.Proofs.Ytefipigdkdopcaa
open Go.RowKit

/-- A step; a fault in memory; may they be? -/
structure StV where
  k : Int
  d : List UInt8
  p : Int
  a : Nat
  b : Nat
abbrev stA (s : StV) : Array Value := #[.int .i64 s.k, .string ⟨s.d.toArray⟩, .int .i64 s.p, .int .u64 (s.a : Int), .int .u64 (s.b : Int)]
def stepOk (s : StV) : Bool :=
  if s.k = 8 then decide ((-9 ≤ s.p ∧ s.p ≤ 9) ∧ s.d.length ≤ 4000 ∧ s.a = 0 ∧ s.b = 0)
  else if s.k = 9 then decide (s.d = [] ∧ s.p = 0 ∧ s.a = 0 ∧ s.b = 0)
  else decide (s.d = [] ∧ s.p = 0 ∧ cmdCheck s.k s.a s.b = 0)
structure FtV where
  at_ : Int
  k : Int
  A : Option Addr
  m : Nat
  c : Nat
  x : List UInt8
abbrev ftA (f : FtV) : Array Value := #[.int .i64 f.at_, .int .i64 f.k, .slice f.A f.m f.c]
def faultOk (f : FtV) : Bool := decide ((0 ≤ f.at_ ∧ f.at_ ≤ 1048576) ∧ (f.k = 1 ∨ f.k = 2) ∧ f.m ≤ 256)
def badOk (b : Int) : Bool := decide (0 ≤ b ∧ b ≤ 33)
def geomOk (x y z : Int) : Bool := decide ((8 ≤ x ∧ x ≤ 34) ∧ (4 ≤ y ∧ y ≤ 32) ∧ (0 ≤ z ∧ z ≤ 8))
def geomE (x y z : Int) : Nat := if geomOk x y z then 0 else 3

set_option maxRecDepth 100000 in
theorem within_any (n lo hi : Int) (w : World) : Calls Try.prog 95 #[.int .i64 n, .int .i64 lo, .int .i64 hi] w fun e w' => e = .returned (.bool (decide (lo ≤ n ∧ n ≤ hi))) ∧ w = w' := by
  rcases (by omega : n < lo ∨ (lo ≤ n ∧ hi < n) ∨ (lo ≤ n ∧ n ≤ hi)) with h | ⟨h1, h2⟩ | ⟨h1, h2⟩
  · have HD : Hid (decide (lo ≤ n ∧ n ≤ hi) = false) := by show _ = _; rw [decide_eq_false_iff_not]; omega
    have d1 : decide (lo ≤ n) = false := by rw [decide_eq_false_iff_not]; omega
    clear h
    go_enter Try.func95, Try.ntmps95
    go_wp2_with fail
    go_ret
    exact ⟨ret_bool HD.out.symm, rfl⟩
  · have HD : Hid (decide (lo ≤ n ∧ n ≤ hi) = false) := by show _ = _; rw [decide_eq_false_iff_not]; omega
    have d1 : decide (lo ≤ n) = true := by rw [decide_eq_true_iff]; omega
    have d2 : decide (n ≤ hi) = false := by rw [decide_eq_false_iff_not]; omega
    clear h1 h2
    go_enter Try.func95, Try.ntmps95
    go_wp2_with fail
    go_ret
    exact ⟨ret_bool HD.out.symm, rfl⟩
  · have HD : Hid (decide (lo ≤ n ∧ n ≤ hi) = true) := by show _ = _; rw [decide_eq_true_iff]; omega
    have d1 : decide (lo ≤ n) = true := by rw [decide_eq_true_iff]; omega
    have d2 : decide (n ≤ hi) = true := by rw [decide_eq_true_iff]; omega
    clear h1 h2
    go_enter Try.func95, Try.ntmps95
    go_wp2_with fail
    go_ret
    exact ⟨ret_bool HD.out.symm, rfl⟩
set_option maxRecDepth 100000 in
theorem gwithin_any (n lo hi : Int) (w : World) : Calls Try.prog 126 #[.int .i64 n, .int .i64 lo, .int .i64 hi] w fun e w' => e = .returned (.bool (decide (lo ≤ n ∧ n ≤ hi))) ∧ w = w' := by
  rcases (by omega : n < lo ∨ (lo ≤ n ∧ hi < n) ∨ (lo ≤ n ∧ n ≤ hi)) with h | ⟨h1, h2⟩ | ⟨h1, h2⟩
  · have HD : Hid (decide (lo ≤ n ∧ n ≤ hi) = false) := by show _ = _; rw [decide_eq_false_iff_not]; omega
    have d1 : decide (lo ≤ n) = false := by rw [decide_eq_false_iff_not]; omega
    clear h
    go_enter Try.func126, Try.ntmps126
    go_wp2_with fail
    go_ret
    exact ⟨ret_bool HD.out.symm, rfl⟩
  · have HD : Hid (decide (lo ≤ n ∧ n ≤ hi) = false) := by show _ = _; rw [decide_eq_false_iff_not]; omega
    have d1 : decide (lo ≤ n) = true := by rw [decide_eq_true_iff]; omega
    have d2 : decide (n ≤ hi) = false := by rw [decide_eq_false_iff_not]; omega
    clear h1 h2
    go_enter Try.func126, Try.ntmps126
    go_wp2_with fail
    go_ret
    exact ⟨ret_bool HD.out.symm, rfl⟩
  · have HD : Hid (decide (lo ≤ n ∧ n ≤ hi) = true) := by show _ = _; rw [decide_eq_true_iff]; omega
    have d1 : decide (lo ≤ n) = true := by rw [decide_eq_true_iff]; omega
    have d2 : decide (n ≤ hi) = true := by rw [decide_eq_true_iff]; omega
    clear h1 h2
    go_enter Try.func126, Try.ntmps126
    go_wp2_with fail
    go_ret
    exact ⟨ret_bool HD.out.symm, rfl⟩

set_option maxRecDepth 100000 in
set_option maxHeartbeats 2000000 in
theorem gcheck_any (x y z : Int) (w : World) : Calls Try.prog 99 #[.agg #[.int .i64 x, .int .i64 y, .int .i64 z]] w fun e w' => e = .returned (.int .i64 (geomE x y z : Nat)) ∧ Below w.heap.size w w' := by
  have K1 := fun W => Lib.hid (gwithin_any x 8 34 W)
  have K2 := fun W => Lib.hid (gwithin_any y 4 32 W)
  have K3 := fun W => Lib.hid (gwithin_any z 0 8 W)
  have HG : Hid (geomOk x y z = (decide (8 ≤ x ∧ x ≤ 34) && (decide (4 ≤ y ∧ y ≤ 32) && decide (0 ≤ z ∧ z ≤ 8)))) := by show _ = _; unfold geomOk; simp only [Bool.decide_and]
  have HR : Hid (geomE x y z = if geomOk x y z then 0 else 3) := rfl
  generalize geomE x y z = R at *
  generalize geomOk x y z = g at *
  obtain ⟨hB, hca⟩ := one_cells w #[.int .i64 x, .int .i64 y, .int .i64 z] 65
  have p0 := hca 0 (.int .i64 x) rfl
  have p1 := hca 1 (.int .i64 y) rfl
  have p2 := hca 2 (.int .i64 z) rfl
  clear hca
  cases h1 : decide (8 ≤ x ∧ x ≤ 34) with
  | false =>
    rw [h1] at HG K1
    have HG2 : Hid (R = 3) := by show _ = _; rw [HR.out, HG.out]; rfl
    clear HG HR h1 K2 K3
    go_enter Try.func99, Try.ntmps99
    go_wp2_with fail
    refine (K1 _).out.mono ?_
    rintro e w2 ⟨rfl, rfl⟩
    go_wp2_with fail
    go_ret
    exact ⟨by rw [HG2.out]; rfl, hB⟩
  | true =>
  rw [h1] at HG K1
  clear h1
  cases h2 : decide (4 ≤ y ∧ y ≤ 32) with
  | false =>
    rw [h2] at HG K2
    have HG2 : Hid (R = 3) := by show _ = _; rw [HR.out, HG.out]; rfl
    clear HG HR h2 K3
    go_enter Try.func99, Try.ntmps99
    go_wp2_with fail
    refine (K1 _).out.mono ?_
    rintro e w2 ⟨rfl, rfl⟩
    go_wp2_with fail
    refine (K2 _).out.mono ?_
    rintro e w2 ⟨rfl, rfl⟩
    go_wp2_with fail
    go_ret
    exact ⟨by rw [HG2.out]; rfl, hB⟩
  | true =>
  rw [h2] at HG K2
  clear h2
  generalize decide (0 ≤ z ∧ z ≤ 8) = b at *
  have HG3 : Hid (R = if b then 0 else 3) := by show _ = _; rw [HR.out, HG.out]; cases b <;> rfl
  clear HG HR
  cases b with
  | false =>
    have HG2 : Hid (R = 3) := HG3.out
    clear HG3
    go_enter Try.func99, Try.ntmps99
    go_wp2_with fail
    refine (K1 _).out.mono ?_
    rintro e w2 ⟨rfl, rfl⟩
    go_wp2_with fail
    refine (K2 _).out.mono ?_
    rintro e w2 ⟨rfl, rfl⟩
    go_wp2_with fail
    refine (K3 _).out.mono ?_
    rintro e w2 ⟨rfl, rfl⟩
    go_wp2_with fail
    go_ret
    exact ⟨by rw [HG2.out]; rfl, hB⟩
  | true =>
    have HG2 : Hid (R = 0) := HG3.out
    clear HG3
    go_enter Try.func99, Try.ntmps99
    go_wp2_with fail
    refine (K1 _).out.mono ?_
    rintro e w2 ⟨rfl, rfl⟩
    go_wp2_with fail
    refine (K2 _).out.mono ?_
    rintro e w2 ⟨rfl, rfl⟩
    go_wp2_with fail
    refine (K3 _).out.mono ?_
    rintro e w2 ⟨rfl, rfl⟩
    go_wp2_with fail
    go_ret
    exact ⟨by rw [HG2.out]; rfl, hB⟩

set_option maxRecDepth 100000 in
set_option maxHeartbeats 2000000 in
theorem fault_any (f : FtV) (w : World) : Calls Try.prog 97 #[.agg (ftA f)] w fun e w' => e = .returned (.bool (faultOk f)) ∧ Below w.heap.size w w' := by
  obtain ⟨t, k, A, m, c, x⟩ := f
  have K1 := fun W => Lib.hid (within_any t 0 1048576 W)
  have HG : Hid (faultOk ⟨t, k, A, m, c, x⟩ = (decide (0 ≤ t ∧ t ≤ 1048576) && decide ((k = 1 ∨ k = 2) ∧ m ≤ 256))) := by show _ = _; unfold faultOk; simp only [Bool.decide_and]
  obtain ⟨hB, hca⟩ := one_cells w #[.int .i64 t, .int .i64 k, .slice A m c] 130
  have p0 := hca 0 (.int .i64 t) rfl
  have p1 := hca 1 (.int .i64 k) rfl
  have p2 := hca 2 (.slice A m c) rfl
  clear hca
  generalize faultOk ⟨t, k, A, m, c, x⟩ = g at *
  cases h1 : decide (0 ≤ t ∧ t ≤ 1048576) with
  | false =>
    rw [h1] at HG K1
    have HG2 : Hid (g = false) := HG.out
    clear HG h1
    go_enter Try.func97, Try.ntmps97
    go_wp2_with fail
    refine (K1 _).out.mono ?_
    rintro e w2 ⟨rfl, rfl⟩
    go_wp2_with fail
    go_ret
    exact ⟨ret_bool HG2.out.symm, hB⟩
  | true =>
  rw [h1] at HG K1
  clear h1
  rcases (by omega : (k ≠ 1 ∧ k ≠ 2) ∨ (k = 1 ∧ 256 < m) ∨ (k = 1 ∧ m ≤ 256) ∨ (k = 2 ∧ 256 < m) ∨ (k = 2 ∧ m ≤ 256)) with ⟨h1, h2⟩ | ⟨h1, h2⟩ | ⟨h1, h2⟩ | ⟨h1, h2⟩ | ⟨h1, h2⟩
  · have HG2 : Hid (g = false) := by show _ = _; rw [HG.out, Bool.true_and, decide_eq_false_iff_not]; omega
    have d1 : (k == 1) = false := by rw [beq_eq_false_iff_ne]; exact h1
    have d2 : (k == 2) = false := by rw [beq_eq_false_iff_ne]; exact h2
    clear HG h1 h2
    go_enter Try.func97, Try.ntmps97
    go_wp2_with fail
    refine (K1 _).out.mono ?_
    rintro e w2 ⟨rfl, rfl⟩
    go_wp2_with fail
    go_ret
    exact ⟨ret_bool HG2.out.symm, hB⟩
  case inr.inl | inr.inr.inr.inl =>
    have HG2 : Hid (g = false) := by show _ = _; rw [HG.out, Bool.true_and, decide_eq_false_iff_not]; omega
    have d1 : decide ((m : Int) ≤ 256) = false := by rw [decide_eq_false_iff_not]; omega
    have d2 : decide (m ≤ 256) = false := by rw [decide_eq_false_iff_not]; omega
    clear HG h2
    subst h1
    go_enter Try.func97, Try.ntmps97
    go_wp2_with fail
    refine (K1 _).out.mono ?_
    rintro e w2 ⟨rfl, rfl⟩
    go_wp2_with fail
    go_ret
    exact ⟨ret_bool HG2.out.symm, hB⟩
  case inr.inr.inl | inr.inr.inr.inr =>
    have HG2 : Hid (g = true) := by show _ = _; rw [HG.out, Bool.true_and, decide_eq_true_iff]; omega
    have d1 : decide ((m : Int) ≤ 256) = true := by rw [decide_eq_true_iff]; omega
    have d2 : decide (m ≤ 256) = true := by rw [decide_eq_true_iff]; omega
    clear HG h2
    subst h1
    go_enter Try.func97, Try.ntmps97
    go_wp2_with fail
    refine (K1 _).out.mono ?_
    rintro e w2 ⟨rfl, rfl⟩
    go_wp2_with fail
    go_ret
    exact ⟨ret_bool HG2.out.symm, hB⟩
end Go.Proofs.Ytefipigdkdopcaa
