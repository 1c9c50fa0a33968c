/- Contract of item's lay for a list. Asked: how its values are laid; room in the count and the depth. -/
import Derived.Test.YtieigjlbjiielaaDoorItem1
namespace Go.Proofs.YtieigjlbjiielaaDoor
open Go.RowKit

theorem gb_then {a b c : World} {row row' : Option Nat} (h : a.grownBy b row) (k : b.grownBy c row') (hr : ∀ k, row' = some k → a.heap.size ≤ k) : a.grownBy c row :=
  ⟨k.os.trans h.os, k.tape.trans h.tape, k.output.trans h.output, Nat.le_trans h.size k.size, fun i hi hne => (k.block i (Nat.lt_of_lt_of_le hi h.size) (fun e => by have := hr i e.symm; omega)).trans (h.block i hi hne)⟩
/-- What is laid, in order: the values, their bytes, how many values each is. -/
abbrev LayL := List (Value × List UInt8 × Nat)
def layB (es : LayL) (j : Nat) : List UInt8 := (es.take j).flatMap (fun x => x.2.1)
def layK (es : LayL) (j : Nat) : Nat := ((es.take j).map (fun x => x.2.2)).sum
theorem layB_succ (es : LayL) (j : Nat) (h : j < es.length) : layB es (j + 1) = layB es j ++ es[j].2.1 := by
  unfold layB
  rw [show es.take (j + 1) = es.take j ++ [es[j]] by rw [List.take_add_one, List.getElem?_eq_getElem h]; rfl, List.flatMap_append]
  simp
theorem layK_succ (es : LayL) (j : Nat) (h : j < es.length) : layK es (j + 1) = layK es j + es[j].2.2 := by
  unfold layK
  rw [show es.take (j + 1) = es.take j ++ [es[j]] by rw [List.take_add_one, List.getElem?_eq_getElem h]; rfl, List.map_append, List.sum_append]
  simp
theorem layK_le (es : LayL) : ∀ j, layK es j ≤ layK es es.length := by
  intro j
  by_cases h : j ≤ es.length
  · have : ∀ d, ∀ j, j + d = es.length → layK es j ≤ layK es es.length := by
      intro d
      induction d with
      | zero => intro j hj; rw [← hj]; exact Nat.le_refl _
      | succ d ih =>
        intro j hj
        have h1 := layK_succ es j (by omega)
        have h2 := ih (j + 1) (by omega)
        omega
    exact this (es.length - j) j (by omega)
  · unfold layK
    rw [List.take_of_length_le (by omega), List.take_length]
    exact Nat.le_refl _
theorem layB_len (es : LayL) (hb : ∀ x ∈ es, x.2.1.length ≤ 1000) : ∀ j, (layB es j).length ≤ 1000 * j := by
  intro j
  induction j with
  | zero => simp [layB]
  | succ j ih =>
    by_cases h : j < es.length
    · rw [layB_succ es j h, List.length_append]
      have := hb _ (List.getElem_mem h)
      omega
    · have : layB es (j + 1) = layB es j := by unfold layB; rw [List.take_of_length_le (by omega), List.take_of_length_le (by omega)]
      rw [this]; omega

set_option maxRecDepth 100000 in
set_option maxHeartbeats 2000000 in
theorem lay_list (w0 : World) (g : Nat) (A : Option Addr) (n c : Nat) (es : LayL) (hx : Rd w0 A n c 1 (es.map (fun x => x.1))) (hA : ∀ ad, A = some ad → ad.block ≠ g) (hn : n ≤ 100)
    (hI : ∀ x ∈ es, x.1 = .nilIface ∨ ∃ t v, x.1 = .iface t v) (hb : ∀ x ∈ es, x.2.1.length ≤ 1000) (dp : Nat) (hL : ∀ x ∈ es, LayAt w0 g x.1 x.2.1 x.2.2 dp) :
    LayAt w0 g (.iface 36 (.slice A n c)) (headB 4 n ++ layB es n) (1 + layK es n) (dp + 1) := by
  intro W m d hw hg hk hd
  have hlen : es.length = n := by have := hx.len; rw [List.length_map] at this; omega
  have KO := Lib.hid (cone_any g m d W hg (by omega) (by omega))
  have KP := fun W => Lib.hid (cput_any 4 n [] W (by decide) (by omega) (by simp))
  have kt := fun x w => it_ta (P := Tryd.prog) Tryd.underlying36 rfl (.slice A n c) x w
  have k1 : ∀ x w, (Instr.typeAssert (.iface 36 (.slice A n c)) x 22 true).run Tryd.prog w = .ok (.tuple #[.int .u64 0, .bool false]) w := fun x w => by simp [Instr.typeAssert, run_underlying Tryd.underlying22]
  have k2 : ∀ x w, (Instr.typeAssert (.iface 36 (.slice A n c)) x 64 true).run Tryd.prog w = .ok (.tuple #[.int .u64 0, .bool false]) w := fun x w => by simp [Instr.typeAssert, run_underlying Tryd.underlying64]
  have k3 : ∀ x w, (Instr.typeAssert (.iface 36 (.slice A n c)) x 61 true).run Tryd.prog w = .ok (.tuple #[.slice none 0 0, .bool false]) w := fun x w => by simp [Instr.typeAssert, run_underlying Tryd.underlying61]
  have k4 : ∀ x w, (Instr.typeAssert (.iface 36 (.slice A n c)) x 9 true).run Tryd.prog w = .ok (.tuple #[.string ⟨#[]⟩, .bool false]) w := fun x w => by simp [Instr.typeAssert, run_underlying Tryd.underlying9]
  have k5 : ∀ x w, (Instr.typeAssert (.iface 36 (.slice A n c)) x 4 true).run Tryd.prog w = .ok (.tuple #[.bool false, .bool false]) w := fun x w => by simp [Instr.typeAssert, run_underlying Tryd.underlying4]
  have hlt := heap_lt hg
  have hm := hx.cm
  have hnc := hx.nc
  unfold maxLen at hm
  have hu8 : (Tryd.prog.info? 5).map (fun i => (i.zero, i.size, i.bytes)) = some (some (.int .u8 0), 1, 1) := by kernel_rfl
  obtain ⟨h4, HH4⟩ : ∃ x, x = headB 4 n := ⟨_, rfl⟩
  have hl4 : h4.length ≤ 9 := by have := headB_length 4 n; have := wideN_le n; rw [HH4]; omega
  have HH := Lib.hid HH4
  clear hg HH4
  go_enter Tryd.func42, Tryd.ntmps42
  go_wp2_with fail
  refine KO.out.mono ?_
  rintro e w1 ⟨rfl, hg1, hs1, hgb⟩
  clear KO
  go_wp2_with fail
  refine (KP _).out.mono ?_
  rintro e w2 ⟨v, rfl, ho, hb2⟩
  rw [List.append_nil, ← HH.out, hs1] at ho
  have hg2 := heap_below hb2 hg1
  have hgw := hgb.trans (gb_below hb2 (some g))
  clear hg1 hb2 hgb KP hs1 k1 k2 k3 k4 k5 kt
  go_wp2_with fail
  go_loopw [16, 76] (fun x i wr => ∃ j : Nat, i = .int .i64 j ∧ j ≤ n ∧ wr.ownsRow W.heap.size 5 1 x (h4 ++ layB es j).length (bs (h4 ++ layB es j)) ∧ wr.heap[g]? = some (cntO (m + 1 + layK es j)) ∧ W.grownBy wr (some g)) (fun _ i _ => n - (intOf i).toNat)
  case atStart => exact ⟨0, rfl, by omega, by simpa [layB] using ho, by simpa [layK] using hg2, hgw⟩
  case round =>
    obtain ⟨j, rfl, hj, hor, hgr, hgW⟩ := hrel
    by_cases hjn : j < n
    · have hji : j < es.length := by omega
      have hB1 := Lib.hid (layB_succ es j hji)
      have hK1 := Lib.hid (layK_succ es j hji)
      have hK2 := Lib.hid (layK_le es (j + 1))
      have hB2 := Lib.hid (layB_len es hb j)
      have hmem : es[j] ∈ es := List.getElem_mem hji
      have hLj := hL _ hmem
      have hIj := hI _ hmem
      have hbj := hb _ hmem
      obtain ⟨ad, rfl⟩ := hx.some_of_pos (by omega)
      have hcl := hx.cell ad rfl j es[j].1 (by rw [List.getElem?_map, List.getElem?_eq_getElem hji]; rfl)
      obtain ⟨⟨u, xs, kx⟩, hq⟩ : ∃ q, q = es[j] := ⟨_, rfl⟩
      rw [← hq] at hB1 hK1 hLj hIj hbj hcl
      dsimp only at hB1 hK1 hLj hIj hbj hcl
      clear hmem hL hI hb hq hx
      have hwr := hw.trans hgW
      have hcr := hwr.cell hcl (by rw [add_block]; simpa using hA ad rfl)
      have KL := hLj wr (m + 1 + layK es j) (d + 1) hwr hgr (by have := hK1.out; have := hK2.out; rw [hlen] at this; omega) (by omega)
      rw [show ((d + 1 : Nat) : Int) = (d : Int) + 1 from by omega] at KL
      have HKL := Lib.hid KL
      have hol := hor.lt
      have HB1 := hB1
      have hjn' : (j : Int) < (n : Int) := by omega
      have hbl : (h4 ++ layB es j).length ≤ 100009 := by rw [List.length_append]; have := hB2.out; omega
      have HOR := Lib.hid hor
      clear hLj KL hcl hor hw hA hwr hgr
      generalize hac : h4 ++ layB es j = ac at *
      have HAC := Lib.hid hac
      clear hac
      have hd17 : (d : Int) < 17 := by omega
      rcases hIj with rfl | ⟨t, y, rfl⟩
      all_goals (
        go_wp2_with fail
        refine HKL.out.mono ?_
        rintro e w3 ⟨v3, rfl, ho3, hg3, hgb3⟩
        clear HKL
        obtain ⟨A3, c3, rfl, hr3, hb3⟩ := Rd.of_own ho3
        have ho4 := HOR.out.kept hgb3 (by
          right
          intro e
          have := hol g e
          omega)
        clear ho3
        go_wp2_with (first
          | (at_builtin; refine wpl_append rfl (.tmp 91) (.tmp 92) 61 rfl W.heap.size 5 _ 1 1 Tryd.underlying61 hu8 rfl (by decide) _ ac.length (bs ac) rfl ho4 A3 xs.length c3 (bs xs) rfl hr3 (bs_one xs) (by unfold maxLen; omega) (by omega) (Nat.le_trans hgW.size hgb3.size) ?_; intro v5 w5 ho5 hg5))
        go_roundw
        case rel =>
          refine ⟨j + 1, by go_num, by omega, ?_, ?_, ?_⟩
          · rw [HB1.out, ← List.append_assoc, HAC.out, List.length_append, bs_append]
            exact ho5
          · have := gb_heap hg5 hg3 (fun e => by have := hol g e.symm; omega)
            rw [hK1.out, ← Nat.add_assoc]
            exact this
          · exact gb_then (hgW.trans hgb3) hg5 (fun k hk => (hol k hk).1)
        case measure => simp [intOf]; omega)
    · obtain rfl : j = n := by omega
      go_wp2_with fail
      go_ret2
      exact ⟨_, rfl, by rw [← HH.out]; exact hor, by rw [← Nat.add_assoc]; exact hgr, hgW⟩
end Go.Proofs.YtieigjlbjiielaaDoor
