/- Layer 41 (tape): where Parse stands; contracts of take. No condition but lengths' bounds. -/
import Derived.Test.YtefipigdkdopcaaTap7
import Derived.Deep.DeepCutAuto
namespace Go.Proofs.Ytefipigdkdopcaa
open Go.RowKit

theorem info_int : (Try.prog.info? 3).map (fun i => (i.zero, i.size, i.bytes)) = some (some (.int .i64 0), 1, 8) := by kernel_rfl
theorem info_ft : (Try.prog.info? 130).map (fun i => (i.zero, i.size, i.bytes)) = some (some (.agg #[.int .i64 0, .int .i64 0, .slice none 0 0]), 3, 40) := by kernel_rfl
theorem info_st : (Try.prog.info? 78).map (fun i => (i.zero, i.size, i.bytes)) = some (some (.agg zSt), 5, 48) := by kernel_rfl
theorem own_other {w : World} {b1 e1 s1 n1 b2 e2 s2 n2 : Nat} {v1 v2 : Value} {x1 x2 : List Value} (h1 : w.ownsRow b1 e1 s1 v1 n1 x1) (h2 : w.ownsRow b2 e2 s2 v2 n2 x2) (hne : e1 ≠ e2) : v2.ownBlock = none ∨ v2.ownBlock ≠ v1.ownBlock := by
  rcases h1.2 with ⟨rfl, _⟩ | ⟨g, cap, cur, rfl, _, hg, _⟩
  · rcases h2.2 with ⟨rfl, _⟩ | ⟨k, cap2, cur2, rfl, _, hk, _⟩
    · exact .inl rfl
    · exact .inr (by simp [Value.ownBlock])
  · rcases h2.2 with ⟨rfl, _⟩ | ⟨k, cap2, cur2, rfl, _, hk, _⟩
    · exact .inl rfl
    · refine .inr (fun e => ?_)
      simp only [Value.ownBlock, Option.some.injEq] at e
      subst e
      rw [hg] at hk
      cases hk
      exact hne rfl
theorem own_ne {w : World} {B e s k n : Nat} {v : Value} {x : List Value} (h : w.ownsRow B e s v n x) (hk : k < B) : v.ownBlock = none ∨ v.ownBlock ≠ some k := by
  rcases h.2 with ⟨rfl, _⟩ | ⟨j, cap, cur, rfl, hb, _⟩
  · exact .inl rfl
  · refine .inr (fun e => ?_)
    simp only [Value.ownBlock, Option.some.injEq] at e
    omega
theorem own_ne' {w : World} {B e s k n : Nat} {v : Value} {x : List Value} (h : w.ownsRow B e s v n x) (hk : k < B) : some k ≠ v.ownBlock := fun e => by
  rcases own_ne h hk with h | h
  · rw [h] at e; cases e
  · exact h e.symm
theorem ne_of_or {v : Option Nat} {k : Nat} (h : v = none ∨ v ≠ some k) : some k ≠ v := fun e => by
  rcases h with h | h
  · rw [h] at e; cases e
  · exact h e.symm
theorem all_snoc {α : Type} {P : α → Prop} {l : List α} {a : α} (h : ∀ f ∈ l, P f) (ha : P a) : ∀ f ∈ l ++ [a], P f := fun f hf => by
  rcases List.mem_append.1 hf with hf | hf
  · exact h f hf
  · rw [List.mem_singleton] at hf; subst hf; exact ha
theorem Rd.of_own' {w : World} {base e size : Nat} {A : Option Addr} {m c n : Nat} {xs : List Value} (h : w.ownsRow base e size (.slice A m c) n xs) : Rd w A n c size xs ∧ m = n := by
  obtain ⟨A', c', h1, h2, -⟩ := Rd.of_own h
  simp only [Value.slice.injEq] at h1
  obtain ⟨rfl, rfl, rfl⟩ := h1
  exact ⟨h2, rfl⟩
set_option maxRecDepth 100000 in
theorem tbytes_own (s : List UInt8) (w : World) (hp : s.length ≤ 100000) :
    Calls Try.prog 89 #[.string ⟨s.toArray⟩] w fun e w' => ∃ A m c, e = .returned (.slice A m c) ∧ w'.ownsRow w.heap.size 5 1 (.slice A m c) (bytesW s).length (bs (bytesW s)) ∧ Below w.heap.size w w' := by
  have KB : Hid (Calls Try.prog 30 #[.string ⟨s.toArray⟩] w fun e w' => ∃ A m c ok, e = .returned (.tuple #[.slice A m c, .bool ok]) ∧ w'.ownsRow w.heap.size 5 1 (.slice A m c) (bytesW s).length (bs (bytesW s)) ∧ Below w.heap.size w w') := Lib.hid ((rbytes_any s w hp).mono (fun e w' h => by
    unfold bytesW
    cases hu : unhexF s with
    | none => rw [hu] at h; exact ⟨none, 0, 0, false, h.1, World.ownsRow_nil _ _ _ _, h.2⟩
    | some l =>
      rw [hu] at h
      obtain ⟨⟨v, h1, h2⟩, h3⟩ := h
      obtain ⟨A, c, rfl, hr, -⟩ := Rd.of_own h2
      exact ⟨A, _, c, true, h1, h2, h3⟩))
  go_enter Try.func89, Try.ntmps89
  go_wp2_with fail
  refine KB.out.mono ?_
  rintro e w2 ⟨A, m, c, ok, rfl, hr, hb⟩
  clear KB
  go_wp2_with fail
  go_ret
  exact ⟨A, m, c, rfl, hr, hb⟩

/-- Where Parse stands. -/
structure TSt (W0 : World) (B gs : Nat) (Kp : World → Prop) (x y z : Int) (bl : List Int) (fs : List FtV) (ss : List StV) (vb vf vs : Value) (w : World) : Prop where
  hs : w.heap[gs]? = some (.cells #[.int .i64 x, .int .i64 y, .int .i64 z, vb, vf, vs] 69 (0, 0))
  hz : Kp w
  ks : ∀ (u u' : World) (row : Option Nat), Kp u → u.grownBy u' row → (∀ k, row = some k → B ≤ k ∨ k = gs) → Kp u'
  ob : w.ownsRow B 3 1 vb bl.length (inCs bl)
  of : w.ownsRow B 130 3 vf fs.length (ftCs fs)
  os : w.ownsRow B 78 5 vs ss.length (stCs ss)
  om : ∀ f ∈ fs, w.ownsRow B 5 1 (.slice f.A f.m f.c) f.x.length (bs f.x)
  sz : B ≤ w.heap.size
  bel : Below W0.heap.size W0 w
structure TPl (W0 : World) (B gs : Nat) : Prop where
  h1 : gs < B
  h4 : W0.heap.size ≤ gs
  h5 : W0.heap.size ≤ B
section
variable {W0 : World} {B gs : Nat} {Kp : World → Prop} {x y z : Int} {bl : List Int} {fs : List FtV} {ss : List StV} {vb vf vs : Value} {w w' : World}
theorem TSt.kept (h : TSt W0 B gs Kp x y z bl fs ss vb vf vs w) (hb : Below w.heap.size w w') : TSt W0 B gs Kp x y z bl fs ss vb vf vs w' :=
  ⟨heap_below hb h.hs, h.ks _ _ none h.hz (gb_below hb none) (fun k e => by cases e), h.ks, own_below h.ob hb, own_below h.of hb, own_below h.os hb, fun f hf => own_below (h.om f hf) hb, Nat.le_trans h.sz hb.size, below_trans h.bel hb⟩
/-- A row may grow, and the script's cells are set. -/
theorem TSt.put (h : TSt W0 B gs Kp x y z bl fs ss vb vf vs w) (hP : TPl W0 B gs) {row : Option Nat} {w1 w2 : World} (hg : w.grownBy w1 row) (hne : ∀ k, k < B → some k ≠ row) (hrow : ∀ k, row = some k → B ≤ k) (hs : w1.grownBy w2 (some gs))
    {x' y' z' : Int} {bl' : List Int} {fs' : List FtV} {ss' : List StV} {vb' vf' vs' : Value}
    (hh : w2.heap[gs]? = some (.cells #[.int .i64 x', .int .i64 y', .int .i64 z', vb', vf', vs'] 69 (0, 0)))
    (hb : w1.ownsRow B 3 1 vb' bl'.length (inCs bl')) (hf : w1.ownsRow B 130 3 vf' fs'.length (ftCs fs')) (hst : w1.ownsRow B 78 5 vs' ss'.length (stCs ss')) (hm : ∀ f ∈ fs', w1.ownsRow B 5 1 (.slice f.A f.m f.c) f.x.length (bs f.x)) :
    TSt W0 B gs Kp x' y' z' bl' fs' ss' vb' vf' vs' w2 :=
  ⟨hh, h.ks _ _ _ (h.ks _ _ _ h.hz hg (fun k e => .inl (hrow k e))) hs (fun k e => .inr (by cases e; rfl)), h.ks, hb.kept hs (own_ne hb hP.h1), hf.kept hs (own_ne hf hP.h1), hst.kept hs (own_ne hst hP.h1), fun f hf => (hm f hf).kept hs (own_ne (hm f hf) hP.h1),
    Nat.le_trans (Nat.le_trans h.sz (World.grownBy.size hg)) (World.grownBy.size hs), below_gbw hs (h.bel.grown hg h.bel.size (fun k hk => Nat.le_trans hP.h5 (hrow k hk))) hP.h4⟩
/-- A row lies in no block of another type. -/
theorem own_ne6 {w : World} {B e s k n : Nat} {v : Value} {x : List Value} {cs : Array Value} {t : TypeId} {fr : Nat × Nat} (h : w.ownsRow B e s v n x) (hh : w.heap[k]? = some (.cells cs t fr)) (hne : t ≠ e) : v.ownBlock = none ∨ v.ownBlock ≠ some k := by
  rcases h.2 with ⟨rfl, _⟩ | ⟨j, cap, cur, rfl, hb, hg, _⟩
  · exact .inl rfl
  · refine .inr (fun e => ?_)
    simp only [Value.ownBlock, Option.some.injEq] at e
    subst e
    rw [hg] at hh
    cases hh
    exact hne rfl
/-- A block that is none of the script's rows changes. -/
theorem TSt.other (h : TSt W0 B gs Kp x y z bl fs ss vb vf vs w) {k : Nat} (hg : w.grownBy w' (some k)) (hk : W0.heap.size ≤ k) (n1 : k ≠ gs) (n2 : B ≤ k)
    (hb : vb.ownBlock = none ∨ vb.ownBlock ≠ some k) (hf : vf.ownBlock = none ∨ vf.ownBlock ≠ some k) (hs : vs.ownBlock = none ∨ vs.ownBlock ≠ some k) (hm : ∀ f ∈ fs, (Value.slice f.A f.m f.c).ownBlock = none ∨ (Value.slice f.A f.m f.c).ownBlock ≠ some k) :
    TSt W0 B gs Kp x y z bl fs ss vb vf vs w' :=
  ⟨gb_heap hg h.hs (by simp; omega), h.ks _ _ _ h.hz hg (fun j e => .inl (by cases e; exact n2)), h.ks, h.ob.kept hg hb, h.of.kept hg hf, h.os.kept hg hs, fun f hfm => (h.om f hfm).kept hg (hm f hfm), Nat.le_trans h.sz (World.grownBy.size hg), below_gbw hg h.bel hk⟩
end

set_option maxRecDepth 100000 in
set_option maxHeartbeats 4000000 in
theorem take_geom (W0 : World) (B gs : Nat) (Kp : World → Prop) (x y z : Int) (bl : List Int) (fs : List FtV) (ss : List StV) (vb vf vs : Value) (w : World) (h : TSt W0 B gs Kp x y z bl fs ss vb vf vs w) (hP : TPl W0 B gs)
    (u v t : List UInt8) (A : Option Addr) (c : Nat) (hx : RdS w A 4 c [wGeom, u, v, t]) (hu : u.length ≤ 100000 ∧ v.length ≤ 100000 ∧ t.length ≤ 100000) :
    Calls Try.prog 124 #[.pointer (some ⟨gs, 0, none⟩), .slice A 4 c] w fun e w' => e = .returned (.string ⟨(firstS (numF u) (numF v) (numF t)).toArray⟩) ∧ TSt W0 B gs Kp (numF u) (numF v) (numF t) bl fs ss vb vf vs w' := by
  obtain ⟨ad, rfl⟩ := hx.some_of_pos (by omega)
  have e0 : w.cell? ad = some (.string ⟨#[103, 101, 111, 109]⟩) := by
    have := hx.scell 0 (by omega)
    have e : ad.add 0 = ad := by unfold Addr.add; simp
    rw [e] at this
    exact this
  have hcm := hx.cm
  have hnc := hx.nc
  unfold maxLen at hcm
  have K1 : ∀ W, RdS W (some ad) 4 c [wGeom, u, v, t] → Hid (Calls Try.prog 88 #[.slice (some ad) 4 c, .int .i64 1] W fun e w' => e = .returned (.int .i64 (numF u)) ∧ Below W.heap.size W w') := fun W h => Lib.hid (tnum_any [wGeom, u, v, t] 1 (some ad) 4 c W h (by omega) (by omega) hu.1)
  have K2 : ∀ W, RdS W (some ad) 4 c [wGeom, u, v, t] → Hid (Calls Try.prog 88 #[.slice (some ad) 4 c, .int .i64 2] W fun e w' => e = .returned (.int .i64 (numF v)) ∧ Below W.heap.size W w') := fun W h => Lib.hid (tnum_any [wGeom, u, v, t] 2 (some ad) 4 c W h (by omega) (by omega) hu.2.1)
  have K3 : ∀ W, RdS W (some ad) 4 c [wGeom, u, v, t] → Hid (Calls Try.prog 88 #[.slice (some ad) 4 c, .int .i64 3] W fun e w' => e = .returned (.int .i64 (numF t)) ∧ Below W.heap.size W w') := fun W h => Lib.hid (tnum_any [wGeom, u, v, t] 3 (some ad) 4 c W h (by omega) (by omega) hu.2.2)
  have b1 := numF_bounds u
  have b2 := numF_bounds v
  have b3 := numF_bounds t
  unfold farN at b1 b2 b3
  have KF := fun W => Lib.hid (first_any (numF u) (numF v) (numF t) W (by unfold i64; omega) (by unfold i64; omega) (by unfold i64; omega))
  clear hu b1 b2 b3
  generalize firstS (numF u) (numF v) (numF t) = fx at *
  generalize numF u = nu at *
  generalize numF v = nv at *
  generalize numF t = nt at *
  go_enter Try.func124, Try.ntmps124
  go_wp2_with fail
  refine (K1 _ hx).out.mono ?_
  rintro e w2 ⟨rfl, hb⟩
  replace hx := hx.below hb
  replace h := h.kept hb
  clear hb K1 e0
  go_wp2_with fail
  refine (K2 _ hx).out.mono ?_
  rintro e w3 ⟨rfl, hb⟩
  replace hx := hx.below hb
  replace h := h.kept hb
  clear hb K2
  go_wp2_with fail
  refine (K3 _ hx).out.mono ?_
  rintro e w4 ⟨rfl, hb⟩
  replace h := h.kept hb
  clear hb K3 hx
  have c0 : w4.cell? ⟨gs, 0, none⟩ = some (.int .i64 x) := cell_heap h.hs
  have c1 : w4.cell? ⟨gs, 1, none⟩ = some (.int .i64 y) := cell_heap h.hs
  have c2 : w4.cell? ⟨gs, 2, none⟩ = some (.int .i64 z) := cell_heap h.hs
  have f0 := frozen_heap (o := 0) h.hs
  have f1 := frozen_heap (o := 1) h.hs
  have f2 := frozen_heap (o := 2) h.hs
  have hh := set_heap (o := 2) (set_heap (o := 1) (set_heap (o := 0) h.hs (.int .i64 nu)) (.int .i64 nv)) (.int .i64 nt)
  have h2 := h.put hP (World.grownBy.refl w4 none) (fun k _ => by simp) (fun k e => by cases e) (((gb_set w4 gs 0 (.int .i64 nu)).trans (gb_set _ gs 1 (.int .i64 nv))).trans (gb_set _ gs 2 (.int .i64 nt))) hh h.ob h.of h.os h.om
  go_upto_region 4 with fail
  clear c0 c1 c2 f0 f1 f2 hh h
  generalize ((w4.setCell ⟨gs, 0, none⟩ (.int .i64 nu)).setCell ⟨gs, 1, none⟩ (.int .i64 nv)).setCell ⟨gs, 2, none⟩ (.int .i64 nt) = w5 at *
  have c0 : w5.cell? ⟨gs, 0, none⟩ = some (.int .i64 nu) := cell_heap h2.hs
  have c1 : w5.cell? ⟨gs, 1, none⟩ = some (.int .i64 nv) := cell_heap h2.hs
  have c2 : w5.cell? ⟨gs, 2, none⟩ = some (.int .i64 nt) := cell_heap h2.hs
  go_wp2_with fail
  refine (KF _).out.mono ?_
  rintro e w6 ⟨rfl, hb⟩
  go_wp2_with fail
  go_ret
  exact ⟨rfl, h2.kept hb⟩

set_option maxRecDepth 100000 in
set_option maxHeartbeats 4000000 in
theorem take_bad (W0 : World) (B gs : Nat) (Kp : World → Prop) (x y z : Int) (bl : List Int) (fs : List FtV) (ss : List StV) (vb vf vs : Value) (w : World) (h : TSt W0 B gs Kp x y z bl fs ss vb vf vs w) (hP : TPl W0 B gs)
    (u : List UInt8) (A : Option Addr) (c : Nat) (hx : RdS w A 2 c [wBad, u]) (hu : u.length ≤ 100000) (hN : bl.length ≤ 1000000) :
    Calls Try.prog 124 #[.pointer (some ⟨gs, 0, none⟩), .slice A 2 c] w fun e w' => e = .returned (.string ⟨(badS (numF u)).toArray⟩) ∧ ∃ vb', TSt W0 B gs Kp x y z (bl ++ [numF u]) fs ss vb' vf vs w' := by
  obtain ⟨ad, rfl⟩ := hx.some_of_pos (by omega)
  have e0 : w.cell? ad = some (.string ⟨#[98, 97, 100]⟩) := by
    have := hx.scell 0 (by omega)
    have e : ad.add 0 = ad := by unfold Addr.add; simp
    rw [e] at this
    exact this
  have hcm := hx.cm
  have hnc := hx.nc
  unfold maxLen at hcm
  have K1 : ∀ W, RdS W (some ad) 2 c [wBad, u] → Hid (Calls Try.prog 88 #[.slice (some ad) 2 c, .int .i64 1] W fun e w' => e = .returned (.int .i64 (numF u)) ∧ Below W.heap.size W w') := fun W h => Lib.hid (tnum_any [wBad, u] 1 (some ad) 2 c W h (by omega) (by omega) hu)
  have b1 := numF_bounds u
  unfold farN at b1
  have KD := fun W => Lib.hid (digits_below (numF u) W (by unfold i64; omega))
  have hl1 := digI_len (n := numF u) (by omega) (by omega)
  have HBs : Hid ((⟨(badS (numF u)).toArray⟩ : ByteArray) = ⟨#[98, 97, 100, 32]⟩ ++ ⟨(digI (numF u)).toArray⟩) := by show _ = _; unfold badS; rw [← cat_bytes]
  clear hu b1
  generalize badS (numF u) = fx at *
  generalize digI (numF u) = du at *
  generalize numF u = nu at *
  go_enter Try.func124, Try.ntmps124
  go_wp2_with fail
  refine (K1 _ hx).out.mono ?_
  rintro e w2 ⟨rfl, hb⟩
  replace h := h.kept hb
  clear hb K1 e0 hx
  have c3 : w2.cell? ⟨gs, 3, none⟩ = some vb := cell_heap h.hs
  have hob := h.ob
  have hz4 := h.sz
  go_upto_region 7 with fail
  go_wp2_with (first
    | (at_builtin; refine wpl_append1 rfl (.tmp 35) (.tmp 37) 45 rfl B 3 _ 1 8 Try.underlying45 info_int rfl (by decide) _ bl.length _ rfl hob #[.int .i64 nu] (0, 0) 1 rfl rfl one8 (by unfold maxLen; omega) (by omega) hz4 ?_; intro v7 w7 ho7 hg7; replace hg7 : w2.grownBy w7 vb.ownBlock := hg7; have hr7 := gb_heap hg7 h.hs (own_ne' hob hP.h1); have fz := frozen_heap (o := 3) hr7; have fy : w7.cell? ⟨gs, 3, none⟩ = some vb := cell_heap hr7; obtain ⟨A7, c7, rfl, -, -⟩ := Rd.of_own ho7; have h8 := h.put hP (bl' := bl ++ [nu]) hg7 (fun k hk => own_ne' hob hk) (fun k hk => (hob.lt k hk).1) (gb_set w7 gs 3 (.slice A7 (bl.length + 1) c7)) (set_heap (o := 3) hr7 (.slice A7 (bl.length + 1) c7)) (by rw [List.length_append, inCs_append]; exact ho7) (h.of.kept hg7 (own_other hob h.of (by decide))) (h.os.kept hg7 (own_other hob h.os (by decide))) (fun f hf => (h.om f hf).kept hg7 (own_other hob (h.om f hf) (by decide)))))
  refine (KD _).out.mono ?_
  rintro e w6 ⟨rfl, hb⟩
  go_wp2_with fail
  go_ret
  exact ⟨by rw [HBs.out]; rfl, _, h8.kept hb⟩
end Go.Proofs.Ytefipigdkdopcaa
