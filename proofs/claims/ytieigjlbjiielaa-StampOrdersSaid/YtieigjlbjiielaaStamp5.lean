/- Layer 8 (stamp): the last of some stamps. -/
import Derived.Test.YtieigjlbjiielaaStamp4
namespace Go.Proofs.Ytieigjlbjiielaa
open Go.RowKit

/-- Stamps as cells. -/
def sts2 : List (Nat × Nat) → List Value
  | [] => []
  | s :: l => .int .u64 (s.1 : Int) :: .int .u64 (s.2 : Int) :: sts2 l
theorem sts2_length (l : List (Nat × Nat)) : (sts2 l).length = l.length * 2 := by
  induction l with
  | nil => rfl
  | cons s l ih => simp [sts2, ih]; omega
theorem sts2_get (l : List (Nat × Nat)) : ∀ i, i < l.length → (sts2 l)[i * 2]? = some (.int .u64 ((l.getD i (0, 0)).1 : Int)) ∧ (sts2 l)[i * 2 + 1]? = some (.int .u64 ((l.getD i (0, 0)).2 : Int)) := by
  induction l with
  | nil => intro i h; simp at h
  | cons s l ih =>
    intro i h
    cases i with
    | zero => exact ⟨rfl, rfl⟩
    | succ i =>
      have := ih i (by simpa using h)
      rw [show (i + 1) * 2 = i * 2 + 1 + 1 by omega]
      simpa [sts2] using this
/-- The last stamp: one step. -/
def latS (o s : Nat × Nat) : Nat × Nat := if lessB o.1 o.2 s.1 s.2 then s else o
/-- The last of the first j stamps. -/
def latN (l : List (Nat × Nat)) : Nat → Nat × Nat
  | 0 => (0, 0)
  | 1 => l.getD 0 (0, 0)
  | j + 2 => latS (latN l (j + 1)) (l.getD (j + 1) (0, 0))
theorem latN_succ (l : List (Nat × Nat)) (j : Nat) (h : j ≠ 0) : latN l (j + 1) = latS (latN l j) (l.getD j (0, 0)) := by
  cases j with
  | zero => exact absurd rfl h
  | succ j => rfl

set_option maxRecDepth 100000 in
set_option maxHeartbeats 2000000 in
theorem latest_any (l : List (Nat × Nat)) (A : Option Addr) (n c : Nat) (w : World) (hx : Rd w A n c 2 (sts2 l)) (hN : n ≤ 1000) :
    Calls Try.prog 15 #[.slice A n c] w fun e w' => e = .returned (stp (latN l n).1 (latN l n).2) ∧ Below w.heap.size w w' := by
  have hm := hx.cm
  have hnc := hx.nc
  unfold maxLen at hm
  have hn : l.length = n := by have := hx.1; rw [sts2_length] at this; omega
  obtain ⟨hB, hca, hcb⟩ := two_cells w #[.int .u64 0, .int .u64 0] #[.int .u64 0, .int .u64 0] 24 24
  have hh2 := heap_below ((Below.refl _ (w.alloc (.cells #[.int .u64 0, .int .u64 0] 24))).alloc (Nat.le_refl _) (.cells #[.int .u64 0, .int .u64 0] 24)) (alloc_new w (.cells #[.int .u64 0, .int .u64 0] 24 (0, 0)))
  have hh3 := alloc_new (w.alloc (.cells #[.int .u64 0, .int .u64 0] 24)) (.cells #[.int .u64 0, .int .u64 0] 24 (0, 0))
  rw [alloc_size] at hh3
  clear hca hcb
  go_enter Try.func15, Try.ntmps15
  go_wp2_with fail
  go_loopw [8] (fun i wr => ∃ j : Nat, j ≤ n ∧ i = .int .i64 j ∧ wr.heap[w.heap.size]? = some (.cells #[.int .u64 0, .int .u64 0] 24 (0, 0)) ∧ wr.heap[w.heap.size + 1]? = some (.cells #[.int .u64 ((latN l j).1 : Int), .int .u64 ((latN l j).2 : Int)] 24 (0, 0)) ∧ Below w.heap.size w wr) (fun i _ => n - (intOf i).toNat)
  case atStart => exact ⟨0, by omega, rfl, hh2, hh3, hB⟩
  case round =>
    obtain ⟨j, hj, rfl, hr2, hr3, hBr⟩ := hrel
    have o0 : wr.cell? ⟨w.heap.size + 1, 0, none⟩ = some (.int .u64 ((latN l j).1 : Int)) := cell_heap hr3
    have o1 : wr.cell? ⟨w.heap.size + 1, 1, none⟩ = some (.int .u64 ((latN l j).2 : Int)) := cell_heap hr3
    by_cases hlt : j < n
    · obtain ⟨ad, rfl⟩ := hx.some_of_pos (by omega)
      obtain ⟨g1, g2⟩ := sts2_get l j (by omega)
      have e1 := cell_below hBr (hx.cell ad rfl _ _ g1)
      have e2 := cell_below hBr (hx.cell ad rfl _ _ g2)
      have HL := Lib.hid (latN_succ l j)
      have H1 : Hid (j = 0 → latN l (j + 1) = l.getD j (0, 0)) := by show _; intro h; subst h; rfl
      clear g1 g2
      generalize latN l j = ol at *
      generalize l.getD j (0, 0) = s at *
      obtain ⟨s1, s2⟩ := s
      obtain ⟨p1, p2⟩ := ol
      dsimp only at e1 e2 o0 o1 hr3
      replace e2 := at_plus e2
      obtain ⟨hb1, hca⟩ := one_cells wr #[.int .u64 (s1 : Int), .int .u64 (s2 : Int)] 24
      have k0 := hca 0 (.int .u64 (s1 : Int)) rfl
      have k1 := hca 1 (.int .u64 (s2 : Int)) rfl
      have q2 := heap_below hb1 hr2
      have q3 := heap_below hb1 hr3
      replace o0 := cell_below hb1 o0
      replace o1 := cell_below hb1 o1
      have hBn := below_trans hBr hb1
      clear hca hb1 hr2 hr3
      by_cases h0 : j = 0
      · have HN : Hid (latN l (j + 1) = (s1, s2)) := Lib.hid (H1.out h0)
        subst h0
        have e1' : wr.cell? ad = some (.int .u64 s1) := e1
        have e2' : wr.cell? ⟨ad.block, ad.off + 1, none⟩ = some (.int .u64 s2) := e2
        have f0 := frozen_heap (o := 0) q3
        have f1 := frozen_heap (o := 1) q3
        clear e1 e2 HL H1
        go_wp2_with fail
        go_roundw
        case rel => exact ⟨1, by omega, rfl, gb_heap ((gb_set _ _ _ _).trans (gb_set _ _ _ _)) q2 (by simp), by rw [HN.out]; exact set_heap (o := 1) (set_heap (o := 0) q3 _) _, below_gbw ((gb_set _ _ _ _).trans (gb_set _ _ _ _)) hBn (by omega)⟩
        case measure => simp [intOf]; omega
      · have HN := Lib.hid (HL.out h0)
        clear HL H1
        have KL := fun W => Lib.hid (sless_any p1 p2 s1 s2 W)
        have hj0 : ¬ ((j : Int) = 0) := by omega
        cases hls : lessB p1 p2 s1 s2 with
        | true =>
          rw [hls] at KL
          have HN2 : Hid (latN l (j + 1) = (s1, s2)) := by show _ = _; rw [HN.out]; unfold latS; simp [hls]
          clear hls HN
          go_wp2_with (first
            | (go_at_call 16; refine (KL _).out.mono ?_; rintro e w2 ⟨rfl, hb⟩; replace k0 := cell_below hb k0; replace k1 := cell_below hb k1; replace q2 := heap_below hb q2; replace q3 := heap_below hb q3; replace hBn := below_trans hBn hb; have f0 := frozen_heap (o := 0) q3; have f1 := frozen_heap (o := 1) q3; replace o0 := cell_below hb o0; replace o1 := cell_below hb o1; clear hb))
          go_roundw
          case rel => exact ⟨j + 1, by omega, by go_num, gb_heap ((gb_set _ _ _ _).trans (gb_set _ _ _ _)) q2 (by simp), by rw [HN2.out]; exact set_heap (o := 1) (set_heap (o := 0) q3 _) _, below_gbw ((gb_set _ _ _ _).trans (gb_set _ _ _ _)) hBn (by omega)⟩
          case measure => simp [intOf]; omega
        | false =>
          rw [hls] at KL
          have HN2 : Hid (latN l (j + 1) = (p1, p2)) := by show _ = _; rw [HN.out]; unfold latS; simp [hls]
          clear hls HN
          go_wp2_with (first
            | (go_at_call 16; refine (KL _).out.mono ?_; rintro e w2 ⟨rfl, hb⟩; replace q2 := heap_below hb q2; replace q3 := heap_below hb q3; replace hBn := below_trans hBn hb; clear hb))
          go_roundw
          case rel => exact ⟨j + 1, by omega, by go_num, q2, by rw [HN2.out]; exact q3, hBn⟩
          case measure => simp [intOf]; omega
    · obtain rfl : j = n := by omega
      have f0 := frozen_heap (o := 0) hr2
      have f1 := frozen_heap (o := 1) hr2
      have z0 : wr.cell? ⟨w.heap.size, 0, none⟩ = some (.int .u64 0) := cell_heap hr2
      have z1 : wr.cell? ⟨w.heap.size, 1, none⟩ = some (.int .u64 0) := cell_heap hr2
      go_wp2_with fail
      generalize latN l j = ol at *
      obtain ⟨p1, p2⟩ := ol
      have hh9 := set_heap (o := 1) (set_heap (o := 0) hr2 (.int .u64 (p1 : Int))) (.int .u64 (p2 : Int))
      have hB9 : Below w.heap.size w ((wr.setCell ⟨w.heap.size, 0, none⟩ (.int .u64 (p1 : Int))).setCell ⟨w.heap.size, 1, none⟩ (.int .u64 (p2 : Int))) :=
        below_gbw ((gb_set _ _ _ _).trans (gb_set _ _ _ _)) hBr (Nat.le_refl _)
      generalize (wr.setCell ⟨w.heap.size, 0, none⟩ (.int .u64 (p1 : Int))).setCell ⟨w.heap.size, 1, none⟩ (.int .u64 (p2 : Int)) = w9 at *
      have r0 : w9.cell? ⟨w.heap.size, 0, none⟩ = some (.int .u64 p1) := cell_heap (o := 0) hh9
      have r1 : w9.cell? ⟨w.heap.size, 1, none⟩ = some (.int .u64 p2) := cell_heap (o := 1) hh9
      refine bodyPost_ret (v := stp p1 p2) ?_ rfl ⟨rfl, hB9⟩
      simp [results, Try.results15, go_sem, r0, r1]
end Go.Proofs.Ytieigjlbjiielaa
