/- How deep a value is, and how many values there are: the reference's Size ends. No condition. -/
import Derived.Test.YtieigjlbjiielaaDoorVal1
import Derived.Test.YtieigjlbjiielaaDoorVal2E
namespace Go.Proofs.YtieigjlbjiielaaDoor
open Go.RowKit

theorem at_plusk4 {w : World} {ad : Addr} {m k : Nat} {v : Value} (hk : 0 < k) (h : w.cell? (ad.add (m + k)) = some v) : w.cell? ⟨(ad.add m).block, (ad.add m).off + k, none⟩ = some v := by
  have e : (⟨(ad.add m).block, (ad.add m).off + k, none⟩ : Addr) = ad.add (m + k) := by
    unfold Addr.add
    by_cases hm : m = 0 <;> simp [hm, Nat.add_assoc] <;> omega
  rw [e]; exact h
/-- The four cells of element i. -/
theorem rows4 {w : World} {A : Option Addr} {n c : Nat} {all : List Value} (h : Rd w A n c 4 all) (i : Nat) (hi : i < n) {x0 x1 x2 x3 : Value} (he : (all.drop (i * 4)).take 4 = [x0, x1, x2, x3]) :
    ∃ ad, A = some ad ∧ w.cell? (ad.add (i * 4)) = some x0 ∧ w.cell? ⟨(ad.add (i * 4)).block, (ad.add (i * 4)).off + 1, none⟩ = some x1 ∧ w.cell? ⟨(ad.add (i * 4)).block, (ad.add (i * 4)).off + 2, none⟩ = some x2 ∧ w.cell? ⟨(ad.add (i * 4)).block, (ad.add (i * 4)).off + 3, none⟩ = some x3 := by
  obtain ⟨ad, rfl⟩ := h.some_of_pos (by omega)
  have key : ∀ j, j < 4 → all[i * 4 + j]? = [x0, x1, x2, x3][j]? := by
    intro j hj
    rw [← he, List.getElem?_take_of_lt hj, List.getElem?_drop]
  refine ⟨ad, rfl, ?_, at_plusk4 (by omega) ?_, at_plusk4 (by omega) ?_, at_plusk4 (by omega) ?_⟩
  · exact h.cell ad rfl _ _ (by simpa using key 0 (by omega))
  · exact h.cell ad rfl _ _ (key 1 (by omega))
  · exact h.cell ad rfl _ _ (key 2 (by omega))
  · exact h.cell ad rfl _ _ (key 3 (by omega))
theorem VR.form {w : World} {v : VT} {cs : List Value} (h : VR w v cs) : ∃ (k : Int) (n : Nat) (s : List UInt8) (A : Option Addr) (m c : Nat), cs = [.int .i64 k, .int .u64 (n : Int), .string ⟨s.toArray⟩, .slice A m c] := by
  cases h with
  | mk k n s l A c all hn hs hr hl => exact ⟨k, n, s, A, l.length, c, rfl⟩

theorem high_any (a b : Int) (w : World) : Calls Tryd.prog 21 #[.int .i64 a, .int .i64 b] w fun e w' => (∃ c : Int, e = .returned (.int .i64 c)) ∧ w = w' := by
  by_cases h : b < a
  · go_enter Tryd.func21, Tryd.ntmps21
    go_wp2_with fail
    go_ret
    exact ⟨⟨_, rfl⟩, rfl⟩
  · go_enter Tryd.func21, Tryd.ntmps21
    go_wp2_with fail
    go_ret
    exact ⟨⟨_, rfl⟩, rfl⟩

set_option maxRecDepth 100000 in
set_option maxHeartbeats 1000000 in
theorem size_any {w : World} {v : VT} {cs : List Value} (h : VR w v cs) : ∀ W, Below w.heap.size w W → Calls Tryd.prog 5 #[.agg cs.toArray] W fun e w' => (∃ d n : Int, e = .returned (.tuple #[.int .i64 d, .int .i64 n])) ∧ Below W.heap.size W w' := by
  induction h with
  | mk k n s l A c all hn hs hr hl ih =>
    intro W hb
    obtain ⟨hB, hc⟩ := one_cells W #[.int .i64 k, .int .u64 n, .string ⟨s.toArray⟩, .slice A l.length c] 27
    have c0 := hc 0 _ rfl
    have c3 := hc 3 _ rfl
    have hW := below_then hb hB hb.size
    have hB0 : Below w.heap.size w (W.alloc (.cells #[.int .i64 k, .int .u64 n, .string ⟨s.toArray⟩, .slice A l.length c] 27)) := hW
    clear hc hW
    by_cases hk : k = 4
    · subst hk
      go_enter Tryd.func5, Tryd.ntmps5
      go_upto_region 1 with fail
      generalize W.alloc (.cells #[.int .i64 4, .int .u64 n, .string ⟨s.toArray⟩, .slice A l.length c] 27) = w0 at *
      have hm := hr.cm
      have hnc := hr.nc
      unfold maxLen at hm
      go_wp2_with fail
      go_loopw [4, 5, 6] (fun a b i wr => ∃ (x y : Int) (j : Nat), a = .int .i64 x ∧ b = .int .i64 y ∧ i = .int .i64 j ∧ j ≤ l.length ∧ Below w0.heap.size w0 wr) (fun _ _ i _ => l.length - (intOf i).toNat)
      case atStart => exact ⟨0, 1, 0, rfl, rfl, rfl, by omega, Below.refl _ _⟩
      case round =>
        obtain ⟨x, y, j, rfl, rfl, rfl, hj, hBr⟩ := hrel
        have k3 := cell_below hBr c3
        have hBw := below_then hB0 hBr hB0.size
        by_cases hlt : j < l.length
        · obtain ⟨k', n', s', A', m', c', he⟩ := (hl j hlt).form
          obtain ⟨ad, rfl, e0, e1, e2, e3⟩ := rows4 hr j hlt he
          have KI := fun W h => Lib.hid (ih j hlt W h)
          rw [he] at KI
          replace e0 := cell_belowB hBw (cell_lt e0) e0
          replace e1 := cell_belowB hBw (cell_lt e1) e1
          replace e2 := cell_belowB hBw (cell_lt e2) e2
          replace e3 := cell_belowB hBw (cell_lt e3) e3
          have hjn : (j : Int) < (l.length : Int) := by omega
          clear he ih hl hr
          generalize l.length = len at *
          go_wp2_with fail
          refine (KI _ hBw).out.mono ?_
          rintro e w1 ⟨⟨d, m, rfl⟩, hb1⟩
          replace hBr := hBr.trans (hb1.mono hBr.size)
          go_wp2_with fail
          refine (high_any _ _ _).mono ?_
          rintro e w2 ⟨⟨z, rfl⟩, rfl⟩
          go_wp2_with fail
          go_roundw
          case rel => exact ⟨_, _, j + 1, rfl, rfl, by go_num, by omega, hBr⟩
          case measure => simp [intOf]; omega
        · obtain rfl : j = l.length := by omega
          go_wp2_with fail
          go_ret2
          exact ⟨⟨_, _, rfl⟩, hB.trans (hBr.mono hB.size)⟩
    · have hk1 : (k == 4) = false := by rw [beq_eq_false_iff_ne]; exact hk
      have hk2 : (k != 4) = true := by rw [bne, hk1]; rfl
      go_enter Tryd.func5, Tryd.ntmps5
      go_upto_region 1 with fail
      generalize W.alloc (.cells #[.int .i64 k, .int .u64 n, .string ⟨s.toArray⟩, .slice A l.length c] 27) = w0 at *
      go_wp2_with fail
      go_ret2
      exact ⟨⟨_, _, rfl⟩, hB⟩
end Go.Proofs.YtieigjlbjiielaaDoor
