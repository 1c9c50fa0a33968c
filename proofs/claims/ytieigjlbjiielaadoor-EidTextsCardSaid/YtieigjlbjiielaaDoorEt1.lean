/- Contract of the reference's Value: a name as a value of the document. Asked: that the name may be. -/
import Derived.Test.YtieigjlbjiielaaDoorEn3E
namespace Go.Proofs.YtieigjlbjiielaaDoor
open Go.RowKit

theorem info_v : (Tryd.prog.info? 27).map (fun i => (i.zero, i.size, i.bytes)) = some (some (.agg #[.int .i64 0, .int .u64 0, .string ⟨#[]⟩, .slice none 0 0]), 4, 56) := by kernel_rfl
abbrev vCs (k : Int) (n : Nat) (s : List UInt8) (u : Value) : List Value := [.int .i64 k, .int .u64 (n : Int), .string ⟨s.toArray⟩, u]
theorem vr_leaf (w : World) (k : Int) (n : Nat) (s : List UInt8) (hn : n < 18446744073709551616) : VR w (.mk k n s []) (vCs k n s (.slice none 0 0)) := .mk k n s [] none 0 [] hn (by decide) (Rd.empty _ _) (fun i hi => absurd hi (by simp))
theorem vr_pair {w : World} (n : Nat) (s : List UInt8) (a b : VT) (A : Option Addr) (c : Nat) (ca cb : List Value) (hn : n < 18446744073709551616) (hr : Rd w A 2 c 4 (ca ++ cb)) (ha : VR w a ca) (hb : VR w b cb) : VR w (.mk 4 n s [a, b]) (vCs 4 n s (.slice A 2 c)) := by
  refine .mk 4 n s [a, b] A c (ca ++ cb) hn (by simp) hr (fun i hi => ?_)
  have la := ha.length
  have lb := hb.length
  match i, hi with
  | 0, _ => simpa [← la] using ha
  | 1, _ =>
    have : (List.take 4 (List.drop (1 * 4) (ca ++ cb))) = cb := by
      rw [Nat.one_mul, ← la, List.drop_left, la, ← lb, List.take_length]
    rw [this]
    exact hb

theorem Rd.of_own' {w : World} {base e size : Nat} {A : Option Addr} {n c : Nat} {xs : List Value} (h : w.ownsRow base e size (.slice A n c) n xs) : Rd w A n c size xs := by
  obtain ⟨A', c', hv, hr, -⟩ := Rd.of_own h
  cases hv
  exact hr
theorem rd_lit (w : World) (cs : Array Value) (e : TypeId) (n size : Nat) (hm : n ≤ maxLen) (hs : cs.size = n * size) : Rd (w.alloc (.cells cs e)) (some ⟨w.heap.size, 0, none⟩) n n size cs.toList := by
  refine ⟨by simpa using hs, Nat.le_refl _, hm, fun e => (by cases e), fun ad e j u hu => ?_⟩
  cases e
  exact World.news_of_block (alloc_new w _) j u hu
set_option maxRecDepth 100000 in
set_option maxHeartbeats 2000000 in
theorem rvalue_none (w : World) : Calls Tryd.prog 20 #[eidV 1 [] 0 0] w fun e w' => ∃ cs, e = .returned (.agg cs.toArray) ∧ VR w' (valE 1 [] 0 0) cs ∧ Below w.heap.size w w' := by
  obtain ⟨hB, hc, hd⟩ := two_cells w #[.int .i64 1, .string ⟨#[]⟩, .int .u64 0, .int .u64 0] #[.int .i64 0, .int .u64 0, .string ⟨#[]⟩, .slice none 0 0] 40 27
  have c0 := hc 0 _ rfl
  have c1 := hc 1 _ rfl
  have c2 := hc 2 _ rfl
  have c3 := hc 3 _ rfl
  have hR := alloc_new (w.alloc (.cells #[.int .i64 1, .string ⟨#[]⟩, .int .u64 0, .int .u64 0] 40)) (.cells #[.int .i64 0, .int .u64 0, .string ⟨#[]⟩, .slice none 0 0] 27 (0, 0))
  rw [alloc_size] at hR
  obtain ⟨i0, hi, hz0, hz1, hz2⟩ := info_parts info_v
  clear hc hd
  go_enter Tryd.func20, Tryd.ntmps20
  go_upto_region 1 with fail
  generalize (w.alloc (.cells #[.int .i64 1, .string ⟨#[]⟩, .int .u64 0, .int .u64 0] 40)).alloc (.cells #[.int .i64 0, .int .u64 0, .string ⟨#[]⟩, .slice none 0 0] 27) = w1 at *
  have hlt1 : w.heap.size + 1 < w1.heap.size := heap_lt hR
  go_upto_region 2 with fail
  have hb1 := (one_cells w1 #[.int .i64 0, .int .u64 1, .string ⟨#[]⟩, .slice none 0 0] 27).1
  have hb2 := (one_cells (w1.alloc (.cells #[.int .i64 0, .int .u64 1, .string ⟨#[]⟩, .slice none 0 0] 27)) #[.int .i64 4, .int .u64 0, .string ⟨#[]⟩, .slice (some ⟨w1.heap.size, 0, none⟩) 1 1] 27).1
  have hb := below_trans hb1 hb2
  have ho : ((w1.alloc (.cells #[.int .i64 0, .int .u64 1, .string ⟨#[]⟩, .slice none 0 0] 27)).alloc (.cells #[.int .i64 4, .int .u64 0, .string ⟨#[]⟩, .slice (some ⟨w1.heap.size, 0, none⟩) 1 1] 27)).ownsRow w1.heap.size 27 4 (.slice (some ⟨w1.heap.size, 0, none⟩) 1 1) 1 [.int .i64 0, .int .u64 1, .string ⟨#[]⟩, .slice none 0 0] := (World.ownsRow_lit w1 #[.int .i64 0, .int .u64 1, .string ⟨#[]⟩, .slice none 0 0] 1 (Nat.le_refl _) (by decide) rfl).alloc _
  have hT := alloc_new (w1.alloc (.cells #[.int .i64 0, .int .u64 1, .string ⟨#[]⟩, .slice none 0 0] 27)) (.cells #[.int .i64 4, .int .u64 0, .string ⟨#[]⟩, .slice (some ⟨w1.heap.size, 0, none⟩) 1 1] 27 (0, 0))
  rw [alloc_size] at hT
  have hsz : Hid (((w1.alloc (.cells #[.int .i64 0, .int .u64 1, .string ⟨#[]⟩, .slice none 0 0] 27)).alloc (.cells #[.int .i64 4, .int .u64 0, .string ⟨#[]⟩, .slice (some ⟨w1.heap.size, 0, none⟩) 1 1] 27)).heap.size = w1.heap.size + 2) := by show _ = _; rw [alloc_size, alloc_size]
  replace c0 := cell_below hb c0
  replace c1 := cell_below hb c1
  replace c2 := cell_below hb c2
  replace c3 := cell_below hb c3
  replace hR := heap_below hb hR
  replace hB := below_trans hB hb
  clear hb1 hb2 hb
  generalize (w1.alloc (.cells #[.int .i64 0, .int .u64 1, .string ⟨#[]⟩, .slice none 0 0] 27)).alloc (.cells #[.int .i64 4, .int .u64 0, .string ⟨#[]⟩, .slice (some ⟨w1.heap.size, 0, none⟩) 1 1] 27) = w2 at *
  obtain ⟨⟨t0, t1, t2, t3⟩, -⟩ := four_cells hT
  go_upto_region 7 with (first
    | (at_builtin; refine wpList_append_own_at _ rfl (.tmp 30) (.tmp 32) 25 rfl w1.heap.size 27 i0 _ 4 56 Tryd.underlying25 hi hz0 hz1 hz2 rfl (by decide) _ 1 _ rfl (ho.alloc _) ⟨w2.heap.size, 0, none⟩ 1 1 [.int .i64 0, .int .u64 0, .string ⟨#[]⟩, .slice none 0 0] (by go_simp) rfl (World.news_of_block (alloc_new _ _)) (by simp [Value.oneCell']) (by decide) (by decide) (by simp only [alloc_size]; have := hsz.out; omega) ?_; intro v5 w5 ho5 hg5 _ hloc; have hg5' : (w2.alloc (.cells #[.int .i64 0, .int .u64 0, .string ⟨#[]⟩, .slice none 0 0] 27)).grownBy w5 (some w1.heap.size) := hg5; have hloc' : v5.ownBlock = some w1.heap.size ∨ v5.ownBlock = some (w2.alloc (.cells #[.int .i64 0, .int .u64 0, .string ⟨#[]⟩, .slice none 0 0] 27)).heap.size := hloc; have hG := (World.grownBy_alloc w2 _ _).trans hg5'; have hT5 := gb_heap hG hT (by simp); have hR5 := gb_heap hG hR (by simp; omega); have hB5 := below_gbw hG hB (by omega); obtain ⟨⟨q0, q1, q2, q3⟩, qf0, qf1, qf2, qf3⟩ := four_cells hT5; clear hg5 hloc; obtain ⟨A, c, hv5, hrd5, hbl⟩ := Rd.of_own ho5; subst hv5; have HLOC := Lib.hid hloc'; have HRD := Lib.hid hrd5; have HO5 := Lib.hid ho5; clear hloc' hrd5 ho5))
  have hne3 : (Value.slice A 2 c).ownBlock ≠ some (w1.heap.size + 1) := by
    have := hsz.out
    rcases HLOC.out with h | h
    · rw [h]; simp
    · rw [h]; simp only [alloc_size, ne_eq, Option.some.injEq]; omega
  have hT6 : (w5.setCell ⟨w1.heap.size + 1, 3, none⟩ (.slice A 2 c)).heap[w1.heap.size + 1]? = some (.cells #[.int .i64 4, .int .u64 0, .string ⟨#[]⟩, .slice A 2 c] 27 (0, 0)) := set_heap (o := 3) hT5 _
  have hG6 := gb_set w5 (w1.heap.size + 1) 3 (.slice A 2 c)
  have hR6 := gb_heap hG6 hR5 (by simp; omega)
  have hB6 := below_gbw hG6 hB5 (by omega)
  have ho6 := HO5.out.kept hG6 (.inr hne3)
  have hrd := (Rd.of_own' ho6)
  clear hG hG6 hT5 hR5 hB5 HO5 HRD HLOC hne3 hg5' hT ho6 hR hB ho hsz c0 c1 c2 c3 t0 t1 t2 t3 q0 q1 q2 q3 qf0 qf1 qf2 qf3
  generalize w5.setCell ⟨w1.heap.size + 1, 3, none⟩ (.slice A 2 c) = w6 at *
  obtain ⟨⟨t0, t1, t2, t3⟩, -⟩ := four_cells hT6
  obtain ⟨⟨z0, z1, z2, z3⟩, f0, f1, f2, f3⟩ := four_cells hR6
  go_wp2_with fail
  have hh9 := four_heap hR6 (.int .i64 4) (.int .u64 0) (.string ⟨#[]⟩) (.slice A 2 c)
  have hG9 := four_gb w6 (w.heap.size + 1) (.int .i64 4) (.int .u64 0) (.string ⟨#[]⟩) (.slice A 2 c)
  have hB9 := below_gbw hG9 hB6 (by omega)
  have hrd9 := hrd.kept hG9 (fun ad e h => by have := hbl ad e; simp at h; omega)
  obtain ⟨⟨r0, r1, r2, r3⟩, -⟩ := four_cells hh9
  refine bodyPost_ret (v := .agg #[.int .i64 4, .int .u64 0, .string ⟨#[]⟩, .slice A 2 c]) ?_ rfl ⟨[.int .i64 4, .int .u64 0, .string ⟨#[]⟩, .slice A 2 c], rfl, ?_, hB9⟩
  · simp [results, Tryd.results20, go_sem, r0, r1, r2, r3]
  · exact vr_pair 0 [] _ _ A c _ _ (by decide) hrd9 (vr_leaf _ 0 1 [] (by decide)) (vr_leaf _ 0 0 [] (by decide))
set_option maxRecDepth 100000 in
set_option maxHeartbeats 2000000 in
theorem rvalue_named (nm : List UInt8) (w : World) (hne : nm ≠ []) : Calls Tryd.prog 20 #[eidV 1 nm 0 0] w fun e w' => ∃ cs, e = .returned (.agg cs.toArray) ∧ VR w' (valE 1 nm 0 0) cs ∧ Below w.heap.size w w' := by
  have hne2 : (nm == []) = false := by simpa using hne
  have HNE := Lib.hid hne
  clear hne
  obtain ⟨hB, hc, hd⟩ := two_cells w #[.int .i64 1, .string ⟨nm.toArray⟩, .int .u64 0, .int .u64 0] #[.int .i64 0, .int .u64 0, .string ⟨#[]⟩, .slice none 0 0] 40 27
  have c0 := hc 0 _ rfl
  have c1 := hc 1 _ rfl
  have c2 := hc 2 _ rfl
  have c3 := hc 3 _ rfl
  have hR := alloc_new (w.alloc (.cells #[.int .i64 1, .string ⟨nm.toArray⟩, .int .u64 0, .int .u64 0] 40)) (.cells #[.int .i64 0, .int .u64 0, .string ⟨#[]⟩, .slice none 0 0] 27 (0, 0))
  rw [alloc_size] at hR
  obtain ⟨i0, hi, hz0, hz1, hz2⟩ := info_parts info_v
  clear hc hd
  go_enter Tryd.func20, Tryd.ntmps20
  go_upto_region 1 with fail
  generalize (w.alloc (.cells #[.int .i64 1, .string ⟨nm.toArray⟩, .int .u64 0, .int .u64 0] 40)).alloc (.cells #[.int .i64 0, .int .u64 0, .string ⟨#[]⟩, .slice none 0 0] 27) = w1 at *
  have hlt1 : w.heap.size + 1 < w1.heap.size := heap_lt hR
  go_upto_region 2 with fail
  have hb1 := (one_cells w1 #[.int .i64 0, .int .u64 1, .string ⟨#[]⟩, .slice none 0 0] 27).1
  have hb2 := (one_cells (w1.alloc (.cells #[.int .i64 0, .int .u64 1, .string ⟨#[]⟩, .slice none 0 0] 27)) #[.int .i64 4, .int .u64 0, .string ⟨#[]⟩, .slice (some ⟨w1.heap.size, 0, none⟩) 1 1] 27).1
  have hb := below_trans hb1 hb2
  have ho : ((w1.alloc (.cells #[.int .i64 0, .int .u64 1, .string ⟨#[]⟩, .slice none 0 0] 27)).alloc (.cells #[.int .i64 4, .int .u64 0, .string ⟨#[]⟩, .slice (some ⟨w1.heap.size, 0, none⟩) 1 1] 27)).ownsRow w1.heap.size 27 4 (.slice (some ⟨w1.heap.size, 0, none⟩) 1 1) 1 [.int .i64 0, .int .u64 1, .string ⟨#[]⟩, .slice none 0 0] := (World.ownsRow_lit w1 #[.int .i64 0, .int .u64 1, .string ⟨#[]⟩, .slice none 0 0] 1 (Nat.le_refl _) (by decide) rfl).alloc _
  have hT := alloc_new (w1.alloc (.cells #[.int .i64 0, .int .u64 1, .string ⟨#[]⟩, .slice none 0 0] 27)) (.cells #[.int .i64 4, .int .u64 0, .string ⟨#[]⟩, .slice (some ⟨w1.heap.size, 0, none⟩) 1 1] 27 (0, 0))
  rw [alloc_size] at hT
  have hsz : Hid (((w1.alloc (.cells #[.int .i64 0, .int .u64 1, .string ⟨#[]⟩, .slice none 0 0] 27)).alloc (.cells #[.int .i64 4, .int .u64 0, .string ⟨#[]⟩, .slice (some ⟨w1.heap.size, 0, none⟩) 1 1] 27)).heap.size = w1.heap.size + 2) := by show _ = _; rw [alloc_size, alloc_size]
  replace c0 := cell_below hb c0
  replace c1 := cell_below hb c1
  replace c2 := cell_below hb c2
  replace c3 := cell_below hb c3
  replace hR := heap_below hb hR
  replace hB := below_trans hB hb
  clear hb1 hb2 hb
  generalize (w1.alloc (.cells #[.int .i64 0, .int .u64 1, .string ⟨#[]⟩, .slice none 0 0] 27)).alloc (.cells #[.int .i64 4, .int .u64 0, .string ⟨#[]⟩, .slice (some ⟨w1.heap.size, 0, none⟩) 1 1] 27) = w2 at *
  obtain ⟨⟨t0, t1, t2, t3⟩, -⟩ := four_cells hT
  go_upto_region 7 with (first
    | (at_builtin; refine wpList_append_own_at _ rfl (.tmp 36) (.tmp 40) 25 rfl w1.heap.size 27 i0 _ 4 56 Tryd.underlying25 hi hz0 hz1 hz2 rfl (by decide) _ 1 _ rfl (ho.alloc _) ⟨w2.heap.size, 0, none⟩ 1 1 [.int .i64 3, .int .u64 0, .string ⟨nm.toArray⟩, .slice none 0 0] (by go_simp) rfl (World.news_of_block (alloc_new _ _)) (by simp [Value.oneCell']) (by decide) (by decide) (by simp only [alloc_size]; have := hsz.out; omega) ?_; intro v5 w5 ho5 hg5 _ hloc; have hg5' : (w2.alloc (.cells #[.int .i64 3, .int .u64 0, .string ⟨nm.toArray⟩, .slice none 0 0] 27)).grownBy w5 (some w1.heap.size) := hg5; have hloc' : v5.ownBlock = some w1.heap.size ∨ v5.ownBlock = some (w2.alloc (.cells #[.int .i64 3, .int .u64 0, .string ⟨nm.toArray⟩, .slice none 0 0] 27)).heap.size := hloc; have hG := (World.grownBy_alloc w2 _ _).trans hg5'; have hT5 := gb_heap hG hT (by simp); have hR5 := gb_heap hG hR (by simp; omega); have hB5 := below_gbw hG hB (by omega); obtain ⟨⟨q0, q1, q2, q3⟩, qf0, qf1, qf2, qf3⟩ := four_cells hT5; clear hg5 hloc; obtain ⟨A, c, hv5, hrd5, hbl⟩ := Rd.of_own ho5; subst hv5; have HLOC := Lib.hid hloc'; have HRD := Lib.hid hrd5; have HO5 := Lib.hid ho5; clear hloc' hrd5 ho5))
  have hne3 : (Value.slice A 2 c).ownBlock ≠ some (w1.heap.size + 1) := by
    have := hsz.out
    rcases HLOC.out with h | h
    · rw [h]; simp
    · rw [h]; simp only [alloc_size, ne_eq, Option.some.injEq]; omega
  have hT6 : (w5.setCell ⟨w1.heap.size + 1, 3, none⟩ (.slice A 2 c)).heap[w1.heap.size + 1]? = some (.cells #[.int .i64 4, .int .u64 0, .string ⟨#[]⟩, .slice A 2 c] 27 (0, 0)) := set_heap (o := 3) hT5 _
  have hG6 := gb_set w5 (w1.heap.size + 1) 3 (.slice A 2 c)
  have hR6 := gb_heap hG6 hR5 (by simp; omega)
  have hB6 := below_gbw hG6 hB5 (by omega)
  have ho6 := HO5.out.kept hG6 (.inr hne3)
  have hrd := (Rd.of_own' ho6)
  clear hG hG6 hT5 hR5 hB5 HO5 HRD HLOC hne3 hg5' hT ho6 hR hB ho hsz c0 c1 c2 c3 t0 t1 t2 t3 q0 q1 q2 q3 qf0 qf1 qf2 qf3
  generalize w5.setCell ⟨w1.heap.size + 1, 3, none⟩ (.slice A 2 c) = w6 at *
  obtain ⟨⟨t0, t1, t2, t3⟩, -⟩ := four_cells hT6
  obtain ⟨⟨z0, z1, z2, z3⟩, f0, f1, f2, f3⟩ := four_cells hR6
  go_wp2_with fail
  have hh9 := four_heap hR6 (.int .i64 4) (.int .u64 0) (.string ⟨#[]⟩) (.slice A 2 c)
  have hG9 := four_gb w6 (w.heap.size + 1) (.int .i64 4) (.int .u64 0) (.string ⟨#[]⟩) (.slice A 2 c)
  have hB9 := below_gbw hG9 hB6 (by omega)
  have hrd9 := hrd.kept hG9 (fun ad e h => by have := hbl ad e; simp at h; omega)
  obtain ⟨⟨r0, r1, r2, r3⟩, -⟩ := four_cells hh9
  refine bodyPost_ret (v := .agg #[.int .i64 4, .int .u64 0, .string ⟨#[]⟩, .slice A 2 c]) ?_ rfl ⟨[.int .i64 4, .int .u64 0, .string ⟨#[]⟩, .slice A 2 c], rfl, ?_, hB9⟩
  · simp [results, Tryd.results20, go_sem, r0, r1, r2, r3]
  · rw [show valE 1 nm 0 0 = .mk 4 0 [] [.mk 0 1 [] [], .mk 3 0 nm []] by unfold valE; rw [if_neg (by decide), if_neg HNE.out]; rfl]
    exact vr_pair 0 [] _ _ A c _ _ (by decide) hrd9 (vr_leaf _ 0 1 [] (by decide)) (vr_leaf _ 3 0 nm (by decide))
set_option maxRecDepth 100000 in
set_option maxHeartbeats 2000000 in
theorem rvalue_ipn (w : World) (nd sv : Nat) (hd : nd < 18446744073709551616) (hs : sv < 18446744073709551616) : Calls Tryd.prog 20 #[eidV 2 [] (nd : Int) (sv : Int)] w fun e w' => ∃ cs, e = .returned (.agg cs.toArray) ∧ VR w' (valE 2 [] nd sv) cs ∧ Below w.heap.size w w' := by
  have HD := Lib.hid hd
  have HS := Lib.hid hs
  clear hd hs
  obtain ⟨hB, hc, hd⟩ := two_cells w #[.int .i64 2, .string ⟨#[]⟩, .int .u64 (nd : Int), .int .u64 (sv : Int)] #[.int .i64 0, .int .u64 0, .string ⟨#[]⟩, .slice none 0 0] 40 27
  have c0 := hc 0 _ rfl
  have c1 := hc 1 _ rfl
  have c2 := hc 2 _ rfl
  have c3 := hc 3 _ rfl
  have hR := alloc_new (w.alloc (.cells #[.int .i64 2, .string ⟨#[]⟩, .int .u64 (nd : Int), .int .u64 (sv : Int)] 40)) (.cells #[.int .i64 0, .int .u64 0, .string ⟨#[]⟩, .slice none 0 0] 27 (0, 0))
  rw [alloc_size] at hR
  obtain ⟨i0, hi, hz0, hz1, hz2⟩ := info_parts info_v
  clear hc hd
  go_enter Tryd.func20, Tryd.ntmps20
  go_upto_region 1 with fail
  generalize (w.alloc (.cells #[.int .i64 2, .string ⟨#[]⟩, .int .u64 (nd : Int), .int .u64 (sv : Int)] 40)).alloc (.cells #[.int .i64 0, .int .u64 0, .string ⟨#[]⟩, .slice none 0 0] 27) = w1 at *
  have hlt1 : w.heap.size + 1 < w1.heap.size := heap_lt hR
  go_upto_region 2 with fail
  have hb1 := (one_cells w1 #[.int .i64 0, .int .u64 2, .string ⟨#[]⟩, .slice none 0 0] 27).1
  have hb2 := (one_cells (w1.alloc (.cells #[.int .i64 0, .int .u64 2, .string ⟨#[]⟩, .slice none 0 0] 27)) #[.int .i64 4, .int .u64 0, .string ⟨#[]⟩, .slice (some ⟨w1.heap.size, 0, none⟩) 1 1] 27).1
  have hb := below_trans hb1 hb2
  have ho : ((w1.alloc (.cells #[.int .i64 0, .int .u64 2, .string ⟨#[]⟩, .slice none 0 0] 27)).alloc (.cells #[.int .i64 4, .int .u64 0, .string ⟨#[]⟩, .slice (some ⟨w1.heap.size, 0, none⟩) 1 1] 27)).ownsRow w1.heap.size 27 4 (.slice (some ⟨w1.heap.size, 0, none⟩) 1 1) 1 [.int .i64 0, .int .u64 2, .string ⟨#[]⟩, .slice none 0 0] := (World.ownsRow_lit w1 #[.int .i64 0, .int .u64 2, .string ⟨#[]⟩, .slice none 0 0] 1 (Nat.le_refl _) (by decide) rfl).alloc _
  have hT := alloc_new (w1.alloc (.cells #[.int .i64 0, .int .u64 2, .string ⟨#[]⟩, .slice none 0 0] 27)) (.cells #[.int .i64 4, .int .u64 0, .string ⟨#[]⟩, .slice (some ⟨w1.heap.size, 0, none⟩) 1 1] 27 (0, 0))
  rw [alloc_size] at hT
  have hsz : Hid (((w1.alloc (.cells #[.int .i64 0, .int .u64 2, .string ⟨#[]⟩, .slice none 0 0] 27)).alloc (.cells #[.int .i64 4, .int .u64 0, .string ⟨#[]⟩, .slice (some ⟨w1.heap.size, 0, none⟩) 1 1] 27)).heap.size = w1.heap.size + 2) := by show _ = _; rw [alloc_size, alloc_size]
  replace c0 := cell_below hb c0
  replace c1 := cell_below hb c1
  replace c2 := cell_below hb c2
  replace c3 := cell_below hb c3
  replace hR := heap_below hb hR
  replace hB := below_trans hB hb
  clear hb1 hb2 hb
  generalize (w1.alloc (.cells #[.int .i64 0, .int .u64 2, .string ⟨#[]⟩, .slice none 0 0] 27)).alloc (.cells #[.int .i64 4, .int .u64 0, .string ⟨#[]⟩, .slice (some ⟨w1.heap.size, 0, none⟩) 1 1] 27) = w2 at *
  obtain ⟨⟨t0, t1, t2, t3⟩, -⟩ := four_cells hT
  go_upto_region 7 with (first
    | (at_builtin; refine wpList_append_own_at _ rfl (.tmp 14) (.tmp 23) 25 rfl w1.heap.size 27 i0 _ 4 56 Tryd.underlying25 hi hz0 hz1 hz2 rfl (by decide) _ 1 _ rfl ((ho.alloc _).alloc _) ⟨(w2.alloc (.cells #[.int .i64 0, .int .u64 (nd : Int), .string ⟨#[]⟩, .slice none 0 0, .int .i64 0, .int .u64 (sv : Int), .string ⟨#[]⟩, .slice none 0 0] 27)).heap.size, 0, none⟩ 1 1 [.int .i64 4, .int .u64 0, .string ⟨#[]⟩, .slice (some ⟨w2.heap.size, 0, none⟩) 2 2] (by go_simp) rfl (World.news_of_block (alloc_new _ _)) (by simp [Value.oneCell']) (by decide) (by decide) (by simp only [alloc_size]; have := hsz.out; omega) ?_; intro v5 w5 ho5 hg5 _ hloc; have hg5' : ((w2.alloc (.cells #[.int .i64 0, .int .u64 (nd : Int), .string ⟨#[]⟩, .slice none 0 0, .int .i64 0, .int .u64 (sv : Int), .string ⟨#[]⟩, .slice none 0 0] 27)).alloc (.cells #[.int .i64 4, .int .u64 0, .string ⟨#[]⟩, .slice (some ⟨w2.heap.size, 0, none⟩) 2 2] 27)).grownBy w5 (some w1.heap.size) := hg5; have hloc' : v5.ownBlock = some w1.heap.size ∨ v5.ownBlock = some ((w2.alloc (.cells #[.int .i64 0, .int .u64 (nd : Int), .string ⟨#[]⟩, .slice none 0 0, .int .i64 0, .int .u64 (sv : Int), .string ⟨#[]⟩, .slice none 0 0] 27)).alloc (.cells #[.int .i64 4, .int .u64 0, .string ⟨#[]⟩, .slice (some ⟨w2.heap.size, 0, none⟩) 2 2] 27)).heap.size := hloc; have hG := ((World.grownBy_alloc w2 _ _).trans (World.grownBy_alloc _ _ _)).trans hg5'; have hT5 := gb_heap hG hT (by simp); have hR5 := gb_heap hG hR (by simp; omega); have hB5 := below_gbw hG hB (by omega); obtain ⟨⟨q0, q1, q2, q3⟩, qf0, qf1, qf2, qf3⟩ := four_cells hT5; clear hg5 hloc; obtain ⟨A, c, hv5, hrd5, hbl⟩ := Rd.of_own ho5; subst hv5; have HLOC := Lib.hid hloc'; have HRD := Lib.hid hrd5; have HO5 := Lib.hid ho5; clear hloc' hrd5 ho5))
  have hne3 : (Value.slice A 2 c).ownBlock ≠ some (w1.heap.size + 1) := by
    have := hsz.out
    rcases HLOC.out with h | h
    · rw [h]; simp
    · rw [h]; simp only [alloc_size, ne_eq, Option.some.injEq]; omega
  have hin := ((rd_lit w2 #[.int .i64 0, .int .u64 (nd : Int), .string ⟨#[]⟩, .slice none 0 0, .int .i64 0, .int .u64 (sv : Int), .string ⟨#[]⟩, .slice none 0 0] 27 2 4 (by decide) rfl).alloc (.cells #[.int .i64 4, .int .u64 0, .string ⟨#[]⟩, .slice (some ⟨w2.heap.size, 0, none⟩) 2 2] 27)).kept hg5' (fun ad e h => by cases e; simp at h; have := hsz.out; omega)
  have hT6 : (w5.setCell ⟨w1.heap.size + 1, 3, none⟩ (.slice A 2 c)).heap[w1.heap.size + 1]? = some (.cells #[.int .i64 4, .int .u64 0, .string ⟨#[]⟩, .slice A 2 c] 27 (0, 0)) := set_heap (o := 3) hT5 _
  have hG6 := gb_set w5 (w1.heap.size + 1) 3 (.slice A 2 c)
  have hR6 := gb_heap hG6 hR5 (by simp; omega)
  have hB6 := below_gbw hG6 hB5 (by omega)
  have ho6 := HO5.out.kept hG6 (.inr hne3)
  have hrd := (Rd.of_own' ho6)
  replace hin := hin.kept hG6 (fun ad e h => by cases e; simp at h; have := hsz.out; omega)
  have hsz2 := hsz.out
  clear hG hG6 hT5 hR5 hB5 HO5 HRD HLOC hne3 hg5' hT ho6 hR hB ho hsz c0 c1 c2 c3 t0 t1 t2 t3 q0 q1 q2 q3 qf0 qf1 qf2 qf3
  generalize w5.setCell ⟨w1.heap.size + 1, 3, none⟩ (.slice A 2 c) = w6 at *
  obtain ⟨⟨t0, t1, t2, t3⟩, -⟩ := four_cells hT6
  obtain ⟨⟨z0, z1, z2, z3⟩, f0, f1, f2, f3⟩ := four_cells hR6
  go_wp2_with fail
  have hh9 := four_heap hR6 (.int .i64 4) (.int .u64 0) (.string ⟨#[]⟩) (.slice A 2 c)
  have hG9 := four_gb w6 (w.heap.size + 1) (.int .i64 4) (.int .u64 0) (.string ⟨#[]⟩) (.slice A 2 c)
  have hB9 := below_gbw hG9 hB6 (by omega)
  have hrd9 := hrd.kept hG9 (fun ad e h => by have := hbl ad e; simp at h; omega)
  have hin9 := hin.kept hG9 (fun ad e h => by cases e; simp at h; omega)
  obtain ⟨⟨r0, r1, r2, r3⟩, -⟩ := four_cells hh9
  refine bodyPost_ret (v := .agg #[.int .i64 4, .int .u64 0, .string ⟨#[]⟩, .slice A 2 c]) ?_ rfl ⟨[.int .i64 4, .int .u64 0, .string ⟨#[]⟩, .slice A 2 c], rfl, ?_, hB9⟩
  · simp [results, Tryd.results20, go_sem, r0, r1, r2, r3]
  · exact vr_pair 0 [] _ _ A c _ _ (by decide) hrd9 (vr_leaf _ 0 2 [] (by decide)) (vr_pair 0 [] _ _ _ 2 _ _ (by decide) hin9 (vr_leaf _ 0 nd [] HD.out) (vr_leaf _ 0 sv [] HS.out))
end Go.Proofs.YtieigjlbjiielaaDoor
