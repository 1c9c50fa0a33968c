/- What must come of layer 35 (cmd) at any rate. No condition. -/
import Derived.Test.YtefipigdkdopcaaCmd7
import Derived.Deep.DeepCutAuto
namespace Go.Proofs.Ytefipigdkdopcaa
open Go.RowKit

theorem again_text : textK 4 3 9 = [97, 103, 97, 105, 110, 32, 51, 32, 57] := by
  unfold textK
  show txtN (wordK 4) [3, 9] 2 = _
  simp only [txtN, List.getD_cons_zero, List.getD_cons_succ, digs_one (show 3 < 10 by decide), digs_one (show 9 < 10 by decide)]
  decide
theorem tick_text : textK 7 5 0 = [116, 105, 99, 107, 32, 53] := by
  unfold textK
  show txtN (wordK 7) [5, 0] 1 = _
  simp only [txtN, List.getD_cons_zero, digs_one (show 5 < 10 by decide)]
  decide
theorem again_parse : parseC [97, 103, 97, 105, 110, 32, 51, 32, 57] = ⟨4, 3, 9, 0⟩ := by
  rw [← again_text]
  exact parse_text (k := 4) (by decide)
theorem play_all : allC [112, 108, 97, 121, 10, 10, 115, 116, 111, 112, 10] = ⟨[], 3, 17⟩ := by rfl

set_option maxRecDepth 100000 in
set_option maxHeartbeats 1000000 in
theorem awake35_any (w : World) : Calls Try.prog 17 #[] w fun e w' => e = .returned (.bool true) ∧ Below w.heap.size w w' := by
  have K1 := fun W => Lib.hid ((cparse_any [97, 103, 97, 105, 110, 32, 51, 32, 57] W (by decide)).mono (fun e w' h => (show e = .returned (.tuple #[.agg #[.int .i64 4, .int .u64 3, .int .u64 9], .int .i64 0]) ∧ Below W.heap.size W w' from ⟨by rw [h.1, again_parse]; rfl, h.2⟩)))
  have K2 : ∀ W, Hid (Calls Try.prog 13 #[.agg #[.int .i64 7, .int .u64 5, .int .u64 0]] W fun e w' => e = .returned (.tuple #[.string ⟨([116, 105, 99, 107, 32, 53] : List UInt8).toArray⟩, .int .i64 0]) ∧ Below W.heap.size W w') := fun W => Lib.hid ((ctext_yes 7 5 0 W (by decide)).mono (fun e w' h => ⟨by rw [h.1, tick_text], h.2⟩))
  have K3 := fun W => Lib.hid ((call_any [112, 108, 97, 121, 10, 10, 115, 116, 111, 112, 10] W (by decide)).mono (fun e w' h => (show ∃ A c, e = .returned (.tuple #[.slice A 0 c, .int .i64 3, .int .i64 17]) ∧ Below W.heap.size W w' from by
    obtain ⟨v, he, ho, hb⟩ := h
    rw [play_all] at he ho
    obtain ⟨A, c, rfl, -, -⟩ := Rd.of_own ho
    exact ⟨A, c, he, hb⟩)))
  go_enter Try.func17, Try.ntmps17
  go_wp2_with fail
  refine (K1 _).out.mono ?_
  rintro e w1 ⟨rfl, hB⟩
  obtain ⟨hb, hc⟩ := one_cells w1 #[.int .i64 4, .int .u64 3, .int .u64 9] 24
  have c0 := hc 0 (.int .i64 4) rfl
  have c1 := hc 1 (.int .u64 3) rfl
  have c2 := hc 2 (.int .u64 9) rfl
  replace hB := below_trans hB hb
  clear hb hc
  go_upto_region 2 with fail
  generalize w1.alloc (.cells #[.int .i64 4, .int .u64 3, .int .u64 9] 24) = w2 at *
  go_wp2_with fail
  refine (K2 _).out.mono ?_
  rintro e w3 ⟨rfl, hb⟩
  replace c0 := cell_below hb c0
  replace c1 := cell_below hb c1
  replace c2 := cell_below hb c2
  replace hB := below_trans hB hb
  clear hb
  go_wp2_with fail
  refine (K3 _).out.mono ?_
  rintro e w4 ⟨A, c, rfl, hb⟩
  replace c0 := cell_below hb c0
  replace c1 := cell_below hb c1
  replace c2 := cell_below hb c2
  replace hB := below_trans hB hb
  clear hb
  go_wp2_with fail
  go_ret
  exact ⟨rfl, hB⟩

abbrev asPost (k : Int) (a b : Nat) (w : World) (e : Ending) (w' : World) : Prop := e = .returned (cmdV k a b) ∧ Below w.heap.size w w'
set_option maxRecDepth 100000 in
theorem as35_any (k : Int) (a b : Nat) (w : World) : Calls Try.prog 15 #[cmdV k a b] w fun e w' => e = .returned (cmdV k a b) ∧ Below w.heap.size w w' := by
  obtain ⟨hB, hca, hcb⟩ := two_cells w #[.int .i64 k, .int .u64 (a : Int), .int .u64 (b : Int)] #[.int .i64 0, .int .u64 0, .int .u64 0] 24 29
  have c0 := hca 0 (.int .i64 k) rfl
  have c1 := hca 1 (.int .u64 (a : Int)) rfl
  have c2 := hca 2 (.int .u64 (b : Int)) rfl
  have hR := alloc_new (w.alloc (.cells #[.int .i64 k, .int .u64 (a : Int), .int .u64 (b : Int)] 24)) (.cells #[.int .i64 0, .int .u64 0, .int .u64 0] 29 (0, 0))
  rw [alloc_size] at hR
  clear hca hcb
  go_enter Try.func15, Try.ntmps15
  go_upto_region 1 with fail
  generalize (w.alloc (.cells #[.int .i64 k, .int .u64 (a : Int), .int .u64 (b : Int)] 24)).alloc (.cells #[.int .i64 0, .int .u64 0, .int .u64 0] 29) = w1 at *
  obtain ⟨⟨z0, z1, z2⟩, f0, f1, f2⟩ := three_cells' hR
  go_wp2_with fail
  have hh9 := three_heap hR (.int .i64 k) (.int .u64 (a : Int)) (.int .u64 (b : Int))
  have hB9 := below_gbw (three_gb w1 (w.heap.size + 1) (.int .i64 k) (.int .u64 (a : Int)) (.int .u64 (b : Int))) hB (by omega)
  obtain ⟨⟨r0, r1, r2⟩, -⟩ := three_cells' hh9
  refine bodyPost_ret (v := cmdV k a b) ?_ rfl ⟨rfl, hB9⟩
  simp only [three] at r0 r1 r2
  simp [results, Try.results15, go_sem, r0, r1, r2]
end Go.Proofs.Ytefipigdkdopcaa
