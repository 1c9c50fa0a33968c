/- Where reply.Parse stands; contract of its closure. No condition but lengths' bounds. -/
import Derived.Test.YtefipigdkdopcaaRep9
import Derived.Test.YtefipigdkdopcaaFrame7P
import Derived.Deep.DeepCutAuto
namespace Go.Proofs.Ytefipigdkdopcaa
open Go.RowKit

theorem info_frame : (Try.prog.info? 100).map (fun i => (i.zero, i.size, i.bytes)) = some (some (.agg #[.int .u64 0, .int .u64 0, .int .i64 0, .int .i64 0, .string ⟨#[]⟩]), 5, 48) := by kernel_rfl
theorem info_pair : (Try.prog.info? 109).map (fun i => (i.zero, i.size, i.bytes)) = some (some (.agg #[.int .u64 0, .int .u64 0]), 2, 16) := by kernel_rfl
theorem info_int : (Try.prog.info? 3).map (fun i => (i.zero, i.size, i.bytes)) = some (some (.int .i64 0), 1, 8) := by kernel_rfl
theorem five_one {a b : Int} {k l m n : IntKind} {c d : Int} {s : ByteArray} : ∀ u ∈ (#[.int k a, .int l b, .int m c, .int n d, .string s] : Array Value), u.oneCell' = true := by
  intro u hu
  simp only [List.mem_toArray, List.mem_cons, List.not_mem_nil, or_false] at hu
  rcases hu with rfl | rfl | rfl | rfl | rfl <;> rfl
theorem five_oneL {a b : Int} {k l m n : IntKind} {c d : Int} {s : ByteArray} : ∀ u ∈ ([.int k a, .int l b, .int m c, .int n d, .string s] : List Value), u.oneCell' = true := by
  intro u hu
  simp only [List.mem_cons, List.not_mem_nil, or_false] at hu
  rcases hu with rfl | rfl | rfl | rfl | rfl <;> rfl

/-- Rows of other types lie in other blocks. -/
theorem own_other {w : World} {b1 e1 s1 n1 b2 e2 s2 n2 : Nat} {v1 v2 : Value} {x1 x2 : List Value} (h1 : w.ownsRow b1 e1 s1 v1 n1 x1) (h2 : w.ownsRow b2 e2 s2 v2 n2 x2) (hne : e1 ≠ e2) : v2.ownBlock = none ∨ v2.ownBlock ≠ v1.ownBlock := by
  rcases h1.2 with ⟨rfl, _⟩ | ⟨g, cap, cur, rfl, _, hg, _⟩
  · rcases h2.2 with ⟨rfl, _⟩ | ⟨k, cap2, cur2, rfl, _, hk, _⟩
    · exact .inl rfl
    · exact .inr (by simp [Value.ownBlock])
  · rcases h2.2 with ⟨rfl, _⟩ | ⟨k, cap2, cur2, rfl, _, hk, _⟩
    · exact .inl rfl
    · refine .inr (fun e => ?_)
      simp only [Value.ownBlock, Option.some.injEq] at e
      subst e
      rw [hg] at hk
      cases hk
      exact hne rfl

/-- Places: of the reader, of its pointer, of the reply; of something else that stays. -/
structure Pl (Bw B g gp gr g0 : Nat) : Prop where
  w1 : Bw ≤ g
  w2 : Bw ≤ gp
  w3 : Bw ≤ gr
  h1 : g < B
  h2 : gp < B
  h3 : gr < B
  h4 : g0 < B
  n1 : g ≠ gp
  n2 : g ≠ gr
  n3 : gp ≠ gr
  n4 : g0 ≠ g
  n5 : g0 ≠ gp
  n6 : g0 ≠ gr

/-- Where Parse stands. -/
structure PSt (W0 : World) (Bw B g gp gr g0 : Nat) (z : Obj) (ws : List (List UInt8)) (e : Int) (n : Nat) (fs : List Fr) (ls : List (Nat × Nat)) (cs : List Int) (vf vl vc : Value) (w : World) : Prop where
  rd : WRd w g Bw ws
  hp : w.heap[gp]? = some (.cells #[.pointer (some ⟨g, 0, none⟩)] 101 (0, 0))
  hr : w.heap[gr]? = some (.cells #[.int .i64 e, .int .u64 (n : Int), vf, vl, vc] 47 (0, 0))
  hz : w.heap[g0]? = some z
  of : w.ownsRow B 100 5 vf fs.length (frCs fs)
  ol : w.ownsRow B 109 2 vl ls.length (prCs ls)
  oc : w.ownsRow B 3 1 vc cs.length (inCs cs)
  sz : B ≤ w.heap.size
  bel : Below W0.heap.size W0 w
section
variable {W0 : World} {Bw B g gp gr g0 : Nat} {z : Obj} {ws : List (List UInt8)} {e : Int} {n : Nat} {fs : List Fr} {ls : List (Nat × Nat)} {cs : List Int} {vf vl vc : Value} {w w' : World}
theorem own_ne {e s k n : Nat} {v : Value} {x : List Value} (h : w.ownsRow B e s v n x) (hk : k < B) : v.ownBlock = none ∨ v.ownBlock ≠ some k := by
  rcases h.2 with ⟨rfl, _⟩ | ⟨j, cap, cur, rfl, hb, _⟩
  · exact .inl rfl
  · refine .inr (fun e => ?_)
    simp only [Value.ownBlock, Option.some.injEq] at e
    omega
theorem own_ne' {e s k n : Nat} {v : Value} {x : List Value} (h : w.ownsRow B e s v n x) (hk : k < B) : some k ≠ v.ownBlock := fun e => by
  rcases own_ne h hk with h | h
  · rw [h] at e; cases e
  · exact h e.symm
theorem PSt.gone (h : PSt W0 Bw B g gp gr g0 z ws e n fs ls cs vf vl vc w) (hP : Pl Bw B g gp gr g0) (hW : W0.heap.size ≤ g) {ws' : List (List UInt8)} (hg : w.grownBy w' (some g)) (hr : WRd w' g Bw ws') : PSt W0 Bw B g gp gr g0 z ws' e n fs ls cs vf vl vc w' :=
  ⟨hr, gb_heap hg h.hp (by simp; exact fun e => hP.n1 e.symm), gb_heap hg h.hr (by simp; exact fun e => hP.n2 e.symm), gb_heap hg h.hz (by simp; exact hP.n4),
    h.of.kept hg (own_ne h.of hP.h1), h.ol.kept hg (own_ne h.ol hP.h1), h.oc.kept hg (own_ne h.oc hP.h1), Nat.le_trans h.sz (World.grownBy.size hg), below_gbw hg h.bel hW⟩
theorem PSt.kept (h : PSt W0 Bw B g gp gr g0 z ws e n fs ls cs vf vl vc w) (hb : Below w.heap.size w w') : PSt W0 Bw B g gp gr g0 z ws e n fs ls cs vf vl vc w' :=
  ⟨h.rd.kept hb, heap_below hb h.hp, heap_below hb h.hr, heap_below hb h.hz, own_below h.of hb, own_below h.ol hb, own_below h.oc hb, Nat.le_trans h.sz hb.size, below_trans h.bel hb⟩
theorem WRd.grown {l : List (List UInt8)} {row : Option Nat} (h : WRd w g Bw l) (hg : w.grownBy w' row) (hne : ∀ k, k < B → some k ≠ row) (hgB : g < B) (hBw : Bw ≤ g) : WRd w' g Bw l := by
  obtain ⟨A, n, c, h1, h2, h3⟩ := h
  exact ⟨A, n, c, gb_heap hg h1 (hne _ hgB), h2.kept hg (fun ad e => hne _ (by have := (h3 ad e).2; omega)), h3⟩
/-- A row grows, and its slice is stored into the reply. -/
theorem PSt.put (h : PSt W0 Bw B g gp gr g0 z ws e n fs ls cs vf vl vc w) (hP : Pl Bw B g gp gr g0) (hW : W0.heap.size ≤ B) (hW2 : W0.heap.size ≤ gr) {row : Option Nat} (hg : w.grownBy w' row) (hne : ∀ k, k < B → some k ≠ row) (hrow : ∀ k, row = some k → B ≤ k)
    {fs' : List Fr} {ls' : List (Nat × Nat)} {cs' : List Int} {vf' vl' vc' : Value} (o : Nat) (v : Value) (hset : (#[.int .i64 e, .int .u64 (n : Int), vf, vl, vc] : Array Value).setIfInBounds o v = #[.int .i64 e, .int .u64 (n : Int), vf', vl', vc'])
    (hf : w'.ownsRow B 100 5 vf' fs'.length (frCs fs')) (hl : w'.ownsRow B 109 2 vl' ls'.length (prCs ls')) (hc : w'.ownsRow B 3 1 vc' cs'.length (inCs cs')) :
    PSt W0 Bw B g gp gr g0 z ws e n fs' ls' cs' vf' vl' vc' (w'.setCell ⟨gr, o, none⟩ v) := by
  have hs := gb_set w' gr o v
  have hr' := gb_heap hg h.hr (hne _ hP.h3)
  refine ⟨?_, gb_heap hs (gb_heap hg h.hp (hne _ hP.h2)) (by simp; exact hP.n3), ?_, gb_heap hs (gb_heap hg h.hz (hne _ hP.h4)) (by simp; exact hP.n6),
    hf.kept hs (own_ne hf hP.h3), hl.kept hs (own_ne hl hP.h3), hc.kept hs (own_ne hc hP.h3), ?_, ?_⟩
  · obtain ⟨A, m, c, h1, h2, h3⟩ := h.rd.grown hg hne hP.h1 hP.w1
    refine ⟨A, m, c, gb_heap hs h1 (by simp; exact hP.n2), h2.kept hs (fun ad e => ?_), h3⟩
    have h4 := (h3 ad e).2
    have h5 := hP.w3
    simp only [ne_eq, Option.some.injEq]
    omega
  · rw [← hset]; exact set_heap hr' v
  · exact Nat.le_trans (Nat.le_trans h.sz (World.grownBy.size hg)) (World.grownBy.size hs)
  · exact below_gbw hs (h.bel.grown hg h.bel.size (fun k hk => Nat.le_trans hW (hrow k hk))) hW2
/-- Where Parse stands ahead of the reply's block. -/
structure PS0 (W0 : World) (Bw g gp g0 : Nat) (z : Obj) (ws : List (List UInt8)) (w : World) : Prop where
  rd : WRd w g Bw ws
  hp : w.heap[gp]? = some (.cells #[.pointer (some ⟨g, 0, none⟩)] 101 (0, 0))
  hz : w.heap[g0]? = some z
  bel : Below W0.heap.size W0 w
theorem PS0.gone (h : PS0 W0 Bw g gp g0 z ws w) (n1 : g ≠ gp) (n2 : g0 ≠ g) (hW : W0.heap.size ≤ g) {ws' : List (List UInt8)} (hg : w.grownBy w' (some g)) (hr : WRd w' g Bw ws') : PS0 W0 Bw g gp g0 z ws' w' :=
  ⟨hr, gb_heap hg h.hp (by simp; exact fun e => n1 e.symm), gb_heap hg h.hz (by simp; exact n2), below_gbw hg h.bel hW⟩
theorem PS0.kept (h : PS0 W0 Bw g gp g0 z ws w) (hb : Below w.heap.size w w') : PS0 W0 Bw g gp g0 z ws w' :=
  ⟨h.rd.kept hb, heap_below hb h.hp, heap_below hb h.hz, below_trans h.bel hb⟩
end

theorem unhex_len : ∀ s : List UInt8, ∀ l, unhexF s = some l → l.length * 2 = s.length := fun s l h => by
  rw [← hex_unhex s l h, hexS_length]; omega
/-- The frame of a word. -/
def frOf (s : List UInt8) : Fr := let x := fgetF ((unhexF s).getD []); (x.1, x.2.1, (x.2.2.1 : Int), (x.2.2.2.1 : Int), x.2.2.2.2.1)

set_option maxRecDepth 100000 in
set_option maxHeartbeats 4000000 in
theorem one_any (W0 : World) (Bw B g gp gr g0 : Nat) (z : Obj) (ws : List (List UInt8)) (e : Int) (n : Nat) (fs : List Fr) (ls : List (Nat × Nat)) (cs : List Int) (vf vl vc : Value) (w : World)
    (h : PSt W0 Bw B g gp gr g0 z ws e n fs ls cs vf vl vc w) (hP : Pl Bw B g gp gr g0) (hW : W0.heap.size ≤ B) (hW2 : W0.heap.size ≤ gr) (hW3 : W0.heap.size ≤ g) (hN : (ws.headD []).length ≤ 100000) (hF : fs.length ≤ 100000) :
    Calls Try.prog 65 #[.pointer (some ⟨gp, 0, none⟩), .pointer (some ⟨gr, 0, none⟩)] w fun x w' => x = .returned (.tuple #[]) ∧ ∃ vf', PSt W0 Bw B g gp gr g0 z ws.tail e n (fs ++ [frOf (ws.headD [])]) ls cs vf' vl vc w' := by
  have KN := Lib.hid (rnext_any g Bw ws w h.rd)
  have c0 : w.cell? ⟨gp, 0, none⟩ = some (.pointer (some ⟨g, 0, none⟩)) := cell_heap h.hp
  have KB := fun W => Lib.hid (rbytes_any (ws.headD []) W hN)
  have hul := unhex_len (ws.headD [])
  obtain ⟨fx, hfx⟩ : ∃ fx, frOf (ws.headD []) = fx := ⟨_, rfl⟩
  rw [hfx]
  unfold frOf at hfx
  dsimp only at hfx
  generalize unhexF (ws.headD []) = ub at *
  replace hfx := Lib.hid hfx
  generalize ws.headD [] = s at *
  have HH := Lib.hid h
  clear h
  go_enter Try.func65, Try.ntmps65
  go_wp2_with fail
  refine KN.out.mono ?_
  rintro x w1 ⟨rfl, hr1, hg1⟩
  have h1 := HH.out.gone hP hW3 hg1 hr1
  clear HH hr1 hg1 KN c0
  go_wp2_with fail
  refine (KB _).out.mono ?_
  intro x w2 hun
  obtain ⟨A, m, c, ok, rfl, hx, hb2, hm⟩ : ∃ A m c ok, x = .returned (.tuple #[.slice A m c, .bool ok]) ∧ RdB w2 A m c (ub.getD []) ∧ Below w1.heap.size w1 w2 ∧ m ≤ 100000 := by
    cases ub with
    | none => exact ⟨none, 0, 0, false, hun.1, Rd.empty _ _, hun.2, by omega⟩
    | some l =>
      obtain ⟨⟨v, rfl, ho⟩, hb⟩ := hun
      obtain ⟨A, c, rfl, hr, -⟩ := Rd.of_own ho
      have := hul l rfl
      exact ⟨A, _, c, true, rfl, hr, hb, by omega⟩
  have h2 := h1.kept hb2
  clear hun hb2 h1 KB hul
  generalize ub.getD [] = xs at *
  obtain ⟨nu, id, o, t, d, er, hgf⟩ : ∃ nu id o t d er, fgetF xs = (nu, id, o, t, d, er) := ⟨_, _, _, _, _, _, rfl⟩
  have KG := Lib.hid (fget32_any nu id o t d er xs A m c w2 hx (by omega) hgf)
  have HFX : Hid (fx = (nu, id, (o : Int), (t : Int), d)) := by
    have := hfx.out
    rw [hgf] at this
    exact this.symm
  clear hgf hx hfx
  generalize (if er = 0 then 15 + (d.length : Int) else 0) = sz at *
  go_wp2_with fail
  refine KG.out.mono ?_
  rintro x w3 ⟨rfl, hb3⟩
  have h3 := h2.kept hb3
  obtain ⟨hb4, hca⟩ := one_cells w3 (frmCs nu id (o : Int) (t : Int) d) 100
  have q0 := hca 0 (.int .u64 (nu : Int)) rfl
  have q1 := hca 1 (.int .u64 (id : Int)) rfl
  have q2 := hca 2 (.int .i64 (o : Int)) rfl
  have q3 := hca 3 (.int .i64 (t : Int)) rfl
  have q4 := hca 4 (.string ⟨d.toArray⟩) rfl
  have h4 := h3.kept hb4
  clear h2 h3 hb3 hb4 hca KG
  go_upto_region 2 with fail
  generalize w3.alloc (.cells (frmCs nu id (o : Int) (t : Int) d) 100) = w4 at *
  have k2 : w4.cell? ⟨gr, 2, none⟩ = some vf := cell_heap h4.hr
  have hof := h4.of
  have hz4 := h4.sz
  go_wp2_with (first
    | (at_builtin; refine wpl_append1 rfl (.tmp 20) (.tmp 22) 43 rfl B 100 _ 5 48 Try.underlying43 info_frame rfl (by decide) _ fs.length _ rfl hof (frmCs nu id (o : Int) (t : Int) d) (0, 0) 1 rfl rfl five_one (by unfold maxLen; omega) (by omega) hz4 ?_; intro v7 w7 ho7 hg7; replace hg7 : w4.grownBy w7 vf.ownBlock := hg7; have hr7 := gb_heap hg7 h4.hr (own_ne' hof hP.h3); have fz := frozen_heap (o := 2) hr7; have fy : w7.cell? ⟨gr, 2, none⟩ = some vf := cell_heap hr7; obtain ⟨A7, c7, rfl, -, -⟩ := Rd.of_own ho7))
  go_end0
  refine ⟨rfl, .slice A7 (fs.length + 1) c7, ?_⟩
  rw [HFX.out]
  have hne := fun k (hk : k < B) => own_ne' hof hk
  refine h4.put hP hW hW2 hg7 hne (fun k hk => (hof.lt k hk).1) 2 _ rfl ?_ (h4.ol.kept hg7 (own_other hof h4.ol (by decide))) (h4.oc.kept hg7 (own_other hof h4.oc (by decide)))
  rw [List.length_append, frCs_append]
  exact ho7
end Go.Proofs.Ytefipigdkdopcaa
