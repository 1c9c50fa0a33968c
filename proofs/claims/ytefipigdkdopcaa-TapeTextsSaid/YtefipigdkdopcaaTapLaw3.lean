/- The law TapeTexts of layer 41 (tape), walked. -/
import Derived.Test.YtefipigdkdopcaaTap22
namespace Go.Proofs.Ytefipigdkdopcaa
open Go.RowKit

/-- A script's rows, its faults' bytes with them. -/
structure SF (w : World) (bs : List Int) (fs : List FtV) (ss : List StV) (B : Option Addr) (b1 b2 : Nat) (F : Option Addr) (f1 f2 : Nat) (S : Option Addr) (s1 s2 : Nat) : Prop where
  r : Sc3 w bs fs ss B b1 b2 F f1 f2 S s1 s2
  m : AllFt w fs
theorem SF.below {w w' : World} {bs : List Int} {fs : List FtV} {ss : List StV} {B F S : Option Addr} {b1 b2 f1 f2 s1 s2 : Nat} (h : SF w bs fs ss B b1 b2 F f1 f2 S s1 s2) (hb : Below w.heap.size w w') : SF w' bs fs ss B b1 b2 F f1 f2 S s1 s2 :=
  ⟨h.r.below hb, h.m.below hb⟩
theorem SF.len {w : World} {bs : List Int} {fs : List FtV} {ss : List StV} {B F S : Option Addr} {b1 b2 f1 f2 s1 s2 : Nat} (h : SF w bs fs ss B b1 b2 F f1 f2 S s1 s2) (hL : LightS bs fs ss) : b1 ≤ 1000000 ∧ f1 ≤ 1000000 ∧ s1 ≤ 1000000 := by
  have := h.r.b.ilen
  have := h.r.f.ftlen
  have := h.r.s.stlen
  obtain ⟨h1, h2, h3, -⟩ := hL
  omega

set_option maxRecDepth 100000 in
set_option maxHeartbeats 16000000 in
theorem tapetexts_law (x y z : Int) (bl : List Int) (fs : List FtV) (ss : List StV) (B : Option Addr) (b1 b2 : Nat) (F : Option Addr) (f1 f2 : Nat) (S : Option Addr) (s1 s2 : Nat)
    (x' y' z' : Int) (bl' : List Int) (fs' : List FtV) (ss' : List StV) (B' : Option Addr) (b1' b2' : Nat) (F' : Option Addr) (f1' f2' : Nat) (S' : Option Addr) (s1' s2' : Nat) (w : World)
    (hx : SF w bl fs ss B b1 b2 F f1 f2 S s1 s2) (hy : SF w bl' fs' ss' B' b1' b2' F' f1' f2' S' s1' s2') :
    Calls Try.prog 12 #[.agg (scA x y z B b1 b2 F f1 f2 S s1 s2), .agg (scA x' y' z' B' b1' b2' F' f1' f2' S' s1' s2')] w fun e w' => e = .returned (.bool true) ∧ Below w.heap.size w w' := by
  have KAW := fun W => Lib.hid (awake41_any W)
  have KA := fun x y z B b1 b2 F f1 f2 S s1 s2 W => Lib.hid (as41_any x y z B b1 b2 F f1 f2 S s1 s2 W)
  have KL1 := fun W (h : SF W bl fs ss B b1 b2 F f1 f2 S s1 s2) => Lib.hid (light41_any x y z bl fs ss B b1 b2 F f1 f2 S s1 s2 W h.r)
  have KL2 := fun W (h : SF W bl' fs' ss' B' b1' b2' F' f1' f2' S' s1' s2') => Lib.hid (light41_any x' y' z' bl' fs' ss' B' b1' b2' F' f1' f2' S' s1' s2' W h.r)
  have hh1 := alloc_new w (.cells (scA x y z B b1 b2 F f1 f2 S s1 s2) 69 (0, 0))
  have hh2 := alloc_new (w.alloc (.cells (scA x y z B b1 b2 F f1 f2 S s1 s2) 69)) (.cells (scA x' y' z' B' b1' b2' F' f1' f2' S' s1' s2') 69 (0, 0))
  rw [alloc_size] at hh2
  replace hh1 := heap_below ((Below.refl _ (w.alloc (.cells (scA x y z B b1 b2 F f1 f2 S s1 s2) 69))).alloc (Nat.le_refl _) (.cells (scA x' y' z' B' b1' b2' F' f1' f2' S' s1' s2') 69)) hh1
  obtain ⟨hB, -, -⟩ := two_cells w (scA x y z B b1 b2 F f1 f2 S s1 s2) (scA x' y' z' B' b1' b2' F' f1' f2' S' s1' s2') 69 69
  replace hx := hx.below hB
  replace hy := hy.below hB
  obtain ⟨⟨p0, p1, p2, p3, p4, p5⟩, -⟩ := six_cells hh1
  obtain ⟨⟨q0, q1, q2, q3, q4, q5⟩, -⟩ := six_cells hh2
  go_enter Try.func12, Try.ntmps12
  go_upto_region 1 with fail
  generalize (w.alloc (.cells (scA x y z B b1 b2 F f1 f2 S s1 s2) 69)).alloc (.cells (scA x' y' z' B' b1' b2' F' f1' f2' S' s1' s2') 69) = w1 at *
  go_wp2_with fail
  refine (KL1 _ hx).out.mono ?_
  rintro e w2 ⟨b, rfl, hL1, hb⟩
  replace hx := hx.below hb
  replace hy := hy.below hb
  replace hh1 := heap_below hb hh1
  replace hh2 := heap_below hb hh2
  replace hB := below_trans hB hb
  clear hb KL1 p0 p1 p2 p3 p4 p5 q0 q1 q2 q3 q4 q5
  obtain ⟨⟨p0, p1, p2, p3, p4, p5⟩, -⟩ := six_cells hh1
  obtain ⟨⟨q0, q1, q2, q3, q4, q5⟩, -⟩ := six_cells hh2
  cases b with
  | false =>
    clear hL1 KL2 p0 p1 p2 p3 p4 p5 q0 q1 q2 q3 q4 q5 KA
    go_wp2_with fail
    refine (KAW _).out.mono ?_
    rintro e w9 ⟨rfl, hb⟩
    go_wp2_with fail
    go_ret
    exact ⟨rfl, below_trans hB hb⟩
  | true =>
  replace hL1 := Lib.hid (hL1 rfl)
  go_wp2_with fail
  refine (KL2 _ hy).out.mono ?_
  rintro e w3 ⟨b, rfl, hL2, hb⟩
  replace hx := hx.below hb
  replace hy := hy.below hb
  replace hh1 := heap_below hb hh1
  replace hh2 := heap_below hb hh2
  replace hB := below_trans hB hb
  clear hb KL2 p0 p1 p2 p3 p4 p5 q0 q1 q2 q3 q4 q5
  obtain ⟨⟨p0, p1, p2, p3, p4, p5⟩, -⟩ := six_cells hh1
  obtain ⟨⟨q0, q1, q2, q3, q4, q5⟩, -⟩ := six_cells hh2
  cases b with
  | false =>
    clear hL2 hL1 p0 p1 p2 p3 p4 p5 q0 q1 q2 q3 q4 q5 KA
    go_wp2_with fail
    refine (KAW _).out.mono ?_
    rintro e w9 ⟨rfl, hb⟩
    go_wp2_with fail
    go_ret
    exact ⟨rfl, below_trans hB hb⟩
  | true =>
  replace hL2 := Lib.hid (hL2 rfl)
  have hN1 := hx.len hL1.out
  have hN2 := hy.len hL2.out
  have hD1 : ∀ s ∈ ss, s.d.length ≤ 9223372036854775807 := fun s hs => by have := hL1.out.2.2.2 s hs; omega
  have hs60 := hL1.out.2.2.1
  clear hL1 hL2
  have KC := fun W (h : SF W bl fs ss B b1 b2 F f1 f2 S s1 s2) => Lib.hid (tcheck_any x y z bl fs ss B b1 b2 F f1 f2 S s1 s2 W h.r hN1 hD1)
  have KM := fun W (h : SF W bl fs ss B b1 b2 F f1 f2 S s1 s2) => Lib.hid (may41_any x y z bl fs ss B b1 b2 F f1 f2 S s1 s2 W h.r hN1 hD1)
  have KS1 := fun W (h : SF W bl fs ss B b1 b2 F f1 f2 S s1 s2) (h' : SF W bl' fs' ss' B' b1' b2' F' f1' f2' S' s1' s2') => Lib.hid (tsame_any x y z bl fs ss B b1 b2 F f1 f2 S s1 s2 x' y' z' bl' fs' ss' B' b1' b2' F' f1' f2' S' s1' s2' W h.r h.m hN1 h'.r h'.m hN2)
  have KS2 := fun W (h : SF W bl fs ss B b1 b2 F f1 f2 S s1 s2) (h' : SF W bl' fs' ss' B' b1' b2' F' f1' f2' S' s1' s2') => Lib.hid (r41same_any x y z bl fs ss B b1 b2 F f1 f2 S s1 s2 x' y' z' bl' fs' ss' B' b1' b2' F' f1' f2' S' s1' s2' W h.r h.m hN1 h'.r h'.m hN2)
  generalize sameP ⟨x, y, z, bl, fs.map ftP, ss⟩ ⟨x', y', z', bl', fs'.map ftP, ss'⟩ = sm at *
  by_cases hg : ScOk x y z bl fs ss
  · have hch := scE_zero.2 hg
    rw [hch] at KC
    rw [may_yes hg] at KM
    have KT := fun W (h : SF W bl fs ss B b1 b2 F f1 f2 S s1 s2) => Lib.hid (ttext_yes x y z bl fs ss B b1 b2 F f1 f2 S s1 s2 W h.r h.m hg)
    have KR := fun W (h : SF W bl fs ss B b1 b2 F f1 f2 S s1 s2) => Lib.hid (r41text_any x y z bl fs ss B b1 b2 F f1 f2 S s1 s2 W h.r h.m hg)
    have hlen : ∀ f ∈ fs, f.x.length = f.m := fun f hf => (hx.m f hf).blen
    have hgp : ScOkP ⟨x, y, z, bl, fs.map ftP, ss⟩ := (scok_plain hlen).1 hg
    have htx : textT x y z bl fs ss = glue (linesP ⟨x, y, z, bl, fs.map ftP, ss⟩) := by rw [text_glue, linesT_plain]
    have htl : (textT x y z bl fs ss).length ≤ 600000 := by
      have h1 := lines_bound hg hlen
      have h2 : textT x y z bl fs ss = Lib.join (linesT x y z bl fs ss) [10] ++ [10] := rfl
      have h3 := join_len10 (linesT x y z bl fs ss)
      rw [h2, List.length_append, List.length_singleton]
      omega
    have hfr : ∀ p ∈ linesL (textT x y z bl fs ss), p.length ≤ 20000 := by
      intro p hp
      have hf : ∀ p ∈ linesP ⟨x, y, z, bl, fs.map ftP, ss⟩, (∀ d ∈ p, d ≠ 10) ∧ p.length ≤ 20000 := by
        intro p hp
        rw [← linesT_plain] at hp
        unfold linesT at hp
        obtain ⟨g1, g2, g3⟩ := geom_i64 hg.g
        have l1 := digI_len g1.1 g1.2
        have l2 := digI_len g2.1 g2.2
        have l3 := digI_len g3.1 g3.2
        rcases List.mem_append.1 hp with hp | hp
        · rcases List.mem_append.1 hp with hp | hp
          · rcases List.mem_append.1 hp with hp | hp
            · rw [List.mem_singleton] at hp; subst hp
              refine ⟨free_first x y z, ?_⟩
              unfold firstS
              simp only [List.length_append, List.length_cons, List.length_nil]
              omega
            · obtain ⟨b, hb, rfl⟩ := List.mem_map.1 hp
              have hi := bad_i64 (List.all_eq_true.1 hg.b b hb)
              have := digI_len hi.1 hi.2
              refine ⟨free_bad b, ?_⟩
              unfold badS
              simp only [List.length_append, List.length_cons, List.length_nil]
              omega
          · obtain ⟨f, hf, rfl⟩ := List.mem_map.1 hp
            obtain ⟨hi, hm⟩ := fault_i64 (List.all_eq_true.1 hg.f f hf)
            have l4 := digI_len hi.1 hi.2
            have l5 := hexW_length f.x
            have l6 := hlen f hf
            have l7 : (harmW f.k).length ≤ 5 := by unfold harmW; split <;> simp
            refine ⟨free_harm _ _ _, ?_⟩
            unfold ftS harmS
            simp only [List.length_append, List.length_cons, List.length_nil]
            omega
        · obtain ⟨s, hs, rfl⟩ := List.mem_map.1 hp
          have ho := List.all_eq_true.1 hg.s s hs
          have := line_len ho
          exact ⟨free_line ho, by omega⟩
      rw [htx, lines_glue _ (fun q hq => (hf q hq).1)] at hp
      exact (hf p hp).2
    have KP : ∀ W, Hid (Calls Try.prog 38 #[.string ⟨(textT x y z bl fs ss).toArray⟩] W fun e w' => ∃ gs X x0 Y y0 Z z0, e = .returned (.tuple #[.agg (scA x y z X bl.length x0 Y gs.length y0 Z ss.length z0), .int .i64 0, .int .i64 0]) ∧ SF w' bl gs ss X bl.length x0 Y gs.length y0 Z ss.length z0 ∧ gs.map ftP = fs.map ftP ∧ Below W.heap.size W w') := fun W => Lib.hid ((tparse_any _ W (by omega) hfr).mono (fun e w' q => by
      obtain ⟨a, ha, hp⟩ := prT_text hgp
      rw [htx, hp] at q
      obtain ⟨gs, X, x0, Y, y0, Z, z0, h1, h2, h3, h4⟩ := q.2.1 ⟨rfl, by dsimp only; omega, hgp⟩
      exact ⟨gs, X, x0, Y, y0, Z, z0, h1, ⟨h2, h3⟩, h4, q.1⟩))
    have hb34 := hg.b1
    have hf64 := hg.f1
    have hs4k := hg.s1
    have KS3 := fun gs X x0 Y y0 Z z0 W (h : SF W bl gs ss X bl.length x0 Y gs.length y0 Z ss.length z0) (h' : SF W bl fs ss B b1 b2 F f1 f2 S s1 s2) (he : gs.map ftP = fs.map ftP) (hl : gs.length ≤ 1000000) => Lib.hid ((r41same_any x y z bl gs ss X bl.length x0 Y gs.length y0 Z ss.length z0 x y z bl fs ss B b1 b2 F f1 f2 S s1 s2 W h.r h.m (by omega) h'.r h'.m hN1).mono (fun e w' q => (⟨by rw [q.1, he, sameP_refl], q.2⟩ : e = .returned (.bool true) ∧ Below W.heap.size W w')))
    have hfle : ∀ gs : List FtV, gs.map ftP = fs.map ftP → gs.length ≤ 1000000 := fun gs h => by have := congrArg List.length h; simp at this; omega
    replace hfle := Lib.hid hfle
    clear hg hch hgp htx htl hfr hb34 hf64 hs4k hN1 hN2 hD1 hs60 hlen
    generalize textT x y z bl fs ss = tx at *
    go_wp2_with fail
    refine (KT _ hx).out.mono ?_
    rintro e w4 ⟨rfl, hb⟩
    replace hx := hx.below hb
    replace hy := hy.below hb
    replace hh1 := heap_below hb hh1
    replace hh2 := heap_below hb hh2
    replace hB := below_trans hB hb
    clear hb  p0 p1 p2 p3 p4 p5 q0 q1 q2 q3 q4 q5
    obtain ⟨⟨p0, p1, p2, p3, p4, p5⟩, -⟩ := six_cells hh1
    obtain ⟨⟨q0, q1, q2, q3, q4, q5⟩, -⟩ := six_cells hh2
    go_wp2_with fail
    refine (KA x y z B b1 b2 F f1 f2 S s1 s2 _).out.mono ?_
    rintro e w5 ⟨rfl, hb⟩
    replace hx := hx.below hb
    replace hy := hy.below hb
    replace hh1 := heap_below hb hh1
    replace hh2 := heap_below hb hh2
    replace hB := below_trans hB hb
    clear hb  p0 p1 p2 p3 p4 p5 q0 q1 q2 q3 q4 q5
    obtain ⟨⟨p0, p1, p2, p3, p4, p5⟩, -⟩ := six_cells hh1
    obtain ⟨⟨q0, q1, q2, q3, q4, q5⟩, -⟩ := six_cells hh2
    go_wp2_with fail
    refine (KM _ hx).out.mono ?_
    rintro e w6 ⟨rfl, hb⟩
    replace hx := hx.below hb
    replace hy := hy.below hb
    replace hh1 := heap_below hb hh1
    replace hh2 := heap_below hb hh2
    replace hB := below_trans hB hb
    clear hb  p0 p1 p2 p3 p4 p5 q0 q1 q2 q3 q4 q5
    obtain ⟨⟨p0, p1, p2, p3, p4, p5⟩, -⟩ := six_cells hh1
    obtain ⟨⟨q0, q1, q2, q3, q4, q5⟩, -⟩ := six_cells hh2
    go_upto_region 5 with fail
    refine wp_region_held (S := fun W => Below (w6).heap.size (w6) W) (by kernel_rfl) ?_
    change wpAnyH _ _ _ _ _ _ _ _ (w6).drew
    have hS : (fun W => Below (w6).heap.size (w6) W) (w6).drew := (Below.refl _ _).drew
    refine wpAnyH_take (i := 0) (oi := { dst := some 28, op := Op.load 69 (Operand.tmp 2), type := 69, pos := "law.go:46", after := #[], guard := none }) (v := ?_) rfl (by kernel_rfl) (by kernel_rfl) (by kernel_rfl) (fun _ _ _ h => h) (Or.inl ⟨by rfl, ?_⟩) (by assumption) ?_
    rotate_left
    · (intro wS hS; have p0 := cell_below hS p0; have p1 := cell_below hS p1; have p2 := cell_below hS p2; have p3 := cell_below hS p3; have p4 := cell_below hS p4; have p5 := cell_below hS p5; have q0 := cell_below hS q0; have q1 := cell_below hS q1; have q2 := cell_below hS q2; have q3 := cell_below hS q3; have q4 := cell_below hS q4; have q5 := cell_below hS q5; go_simp <;> with_reducible rfl)
    try simp only [Act.put, List.setIfInBounds_toArray, List.set_cons_zero, List.set_cons_succ]
    refine wpAnyH_take (i := 3) (oi := { dst := some 31, op := Op.move (Operand.tmp 7), type := 4, pos := "law.go:46", after := #[], guard := none }) (v := ?_) rfl (by kernel_rfl) (by kernel_rfl) (by kernel_rfl) (fun _ _ _ h => h) (Or.inl ⟨by rfl, ?_⟩) (by assumption) ?_
    rotate_left
    · (intro wS hS; go_simp <;> with_reducible rfl)
    try simp only [Act.put, List.setIfInBounds_toArray, List.set_cons_zero, List.set_cons_succ]
    refine wpAnyH_ready (rs := [1]) (by kernel_rfl) (by simp) ?_
    refine AllReadyH.cons (o := { dst := some 29, op := Op.call { callee := Callee.value (Operand.func 49), args := #[Operand.tmp 28], argTypes := #[69] }, type := 25, pos := "law.go:46", after := #[{ on := 0, ground := Ground.data }], guard := none }) rfl (fun K hK => ?_) AllReadyH.nil
    go_simp
    refine (KC _ (hx.below hS)).out.mono ?_
    rintro e w101 ⟨rfl, hb⟩
    replace hS : (fun W => Below (w6).heap.size (w6) W) w101 := below_then hS hb (Below.size hS)
    refine hK.out _ _ hS (fun _ => ?_)
    clear hK K hb
    try simp only [Act.put, List.setIfInBounds_toArray, List.set_cons_zero, List.set_cons_succ]
    refine wpAnyH_take (i := 2) (oi := { dst := some 30, op := Op.binOp BinOp.eql 25 (Operand.tmp 29) (Operand.const (Value.int IntKind.i64 0)) 25, type := 4, pos := "law.go:46", after := #[{ on := 1, ground := Ground.data }], guard := none }) (v := ?_) rfl (by kernel_rfl) (by kernel_rfl) (by kernel_rfl) (fun _ _ _ h => h) (Or.inl ⟨by rfl, ?_⟩) (by assumption) ?_
    rotate_left
    · (intro wS hS; go_simp <;> with_reducible rfl)
    try simp only [Act.put, List.setIfInBounds_toArray, List.set_cons_zero, List.set_cons_succ]
    refine wpAnyH_take (i := 4) (oi := { dst := some 32, op := Op.binOp BinOp.neq 4 (Operand.tmp 30) (Operand.tmp 31) 4, type := 4, pos := "law.go:46", after := #[{ on := 2, ground := Ground.data }, { on := 3, ground := Ground.data }], guard := none }) (v := ?_) rfl (by kernel_rfl) (by kernel_rfl) (by kernel_rfl) (fun _ _ _ h => h) (Or.inl ⟨by rfl, ?_⟩) (by assumption) ?_
    rotate_left
    · (intro wS hS; go_simp <;> with_reducible rfl)
    try simp only [Act.put, List.setIfInBounds_toArray, List.set_cons_zero, List.set_cons_succ]
    refine wpAnyH_take (i := 5) (oi := { dst := some 33, op := Op.move (Operand.tmp 32), type := 4, pos := "law.go:46", after := #[{ on := 4, ground := Ground.data }, { on := 1, ground := Ground.chain }], guard := none }) (v := ?_) rfl (by kernel_rfl) (by kernel_rfl) (by kernel_rfl) (fun _ _ _ h => h) (Or.inl ⟨by rfl, ?_⟩) (by assumption) ?_
    rotate_left
    · (intro wS hS; go_simp <;> with_reducible rfl)
    try simp only [Act.put, List.setIfInBounds_toArray, List.set_cons_zero, List.set_cons_succ]
    refine wpAnyH_take (i := 6) (oi := { dst := some 34, op := Op.load 69 (Operand.tmp 2), type := 69, pos := "law.go:46", after := #[{ on := 5, ground := Ground.guard }], guard := some (5, false) }) (v := ?_) rfl (by kernel_rfl) (by kernel_rfl) (by kernel_rfl) (fun _ _ _ h => h) (Or.inl ⟨by rfl, ?_⟩) (by assumption) ?_
    rotate_left
    · (intro wS hS; have p0 := cell_below hS p0; have p1 := cell_below hS p1; have p2 := cell_below hS p2; have p3 := cell_below hS p3; have p4 := cell_below hS p4; have p5 := cell_below hS p5; have q0 := cell_below hS q0; have q1 := cell_below hS q1; have q2 := cell_below hS q2; have q3 := cell_below hS q3; have q4 := cell_below hS q4; have q5 := cell_below hS q5; go_simp <;> with_reducible rfl)
    try simp only [Act.put, List.setIfInBounds_toArray, List.set_cons_zero, List.set_cons_succ]
    refine wpAnyH_take (i := 7) (oi := { dst := some 35, op := Op.load 69 (Operand.tmp 3), type := 69, pos := "law.go:46", after := #[{ on := 5, ground := Ground.guard }], guard := some (5, false) }) (v := ?_) rfl (by kernel_rfl) (by kernel_rfl) (by kernel_rfl) (fun _ _ _ h => h) (Or.inl ⟨by rfl, ?_⟩) (by assumption) ?_
    rotate_left
    · (intro wS hS; have p0 := cell_below hS p0; have p1 := cell_below hS p1; have p2 := cell_below hS p2; have p3 := cell_below hS p3; have p4 := cell_below hS p4; have p5 := cell_below hS p5; have q0 := cell_below hS q0; have q1 := cell_below hS q1; have q2 := cell_below hS q2; have q3 := cell_below hS q3; have q4 := cell_below hS q4; have q5 := cell_below hS q5; go_simp <;> with_reducible rfl)
    try simp only [Act.put, List.setIfInBounds_toArray, List.set_cons_zero, List.set_cons_succ]
    refine wpAnyH_take (i := 9) (oi := { dst := some 37, op := Op.load 69 (Operand.tmp 2), type := 69, pos := "law.go:46", after := #[{ on := 5, ground := Ground.guard }], guard := some (5, false) }) (v := ?_) rfl (by kernel_rfl) (by kernel_rfl) (by kernel_rfl) (fun _ _ _ h => h) (Or.inl ⟨by rfl, ?_⟩) (by assumption) ?_
    rotate_left
    · (intro wS hS; have p0 := cell_below hS p0; have p1 := cell_below hS p1; have p2 := cell_below hS p2; have p3 := cell_below hS p3; have p4 := cell_below hS p4; have p5 := cell_below hS p5; have q0 := cell_below hS q0; have q1 := cell_below hS q1; have q2 := cell_below hS q2; have q3 := cell_below hS q3; have q4 := cell_below hS q4; have q5 := cell_below hS q5; go_simp <;> with_reducible rfl)
    try simp only [Act.put, List.setIfInBounds_toArray, List.set_cons_zero, List.set_cons_succ]
    refine wpAnyH_take (i := 11) (oi := { dst := some 39, op := Op.load 69 (Operand.tmp 3), type := 69, pos := "law.go:46", after := #[{ on := 5, ground := Ground.guard }], guard := some (5, false) }) (v := ?_) rfl (by kernel_rfl) (by kernel_rfl) (by kernel_rfl) (fun _ _ _ h => h) (Or.inl ⟨by rfl, ?_⟩) (by assumption) ?_
    rotate_left
    · (intro wS hS; have p0 := cell_below hS p0; have p1 := cell_below hS p1; have p2 := cell_below hS p2; have p3 := cell_below hS p3; have p4 := cell_below hS p4; have p5 := cell_below hS p5; have q0 := cell_below hS q0; have q1 := cell_below hS q1; have q2 := cell_below hS q2; have q3 := cell_below hS q3; have q4 := cell_below hS q4; have q5 := cell_below hS q5; go_simp <;> with_reducible rfl)
    try simp only [Act.put, List.setIfInBounds_toArray, List.set_cons_zero, List.set_cons_succ]
    refine wpAnyH_ready (rs := [8]) (by kernel_rfl) (by simp) ?_
    refine AllReadyH.cons (o := { dst := some 36, op := Op.call { callee := Callee.value (Operand.func 50), args := #[Operand.tmp 34, Operand.tmp 35], argTypes := #[69, 69] }, type := 4, pos := "law.go:46", after := #[{ on := 6, ground := Ground.data }, { on := 7, ground := Ground.data }, { on := 5, ground := Ground.chain }, { on := 5, ground := Ground.guard }], guard := some (5, false) }) rfl (fun K hK => ?_) AllReadyH.nil
    go_simp
    refine (KS1 _ (hx.below hS) (hy.below hS)).out.mono ?_
    rintro e w108 ⟨rfl, hb⟩
    replace hS : (fun W => Below (w6).heap.size (w6) W) w108 := below_then hS hb (Below.size hS)
    refine hK.out _ _ hS (fun _ => ?_)
    clear hK K hb
    try simp only [Act.put, List.setIfInBounds_toArray, List.set_cons_zero, List.set_cons_succ]
    refine wpAnyH_ready (rs := [10]) (by kernel_rfl) (by simp) ?_
    refine AllReadyH.cons (o := { dst := some 38, op := Op.call { callee := Callee.value (Operand.func 41), args := #[Operand.tmp 37], argTypes := #[69] }, type := 73, pos := "law.go:46", after := #[{ on := 9, ground := Ground.data }, { on := 8, ground := Ground.chain }, { on := 5, ground := Ground.guard }], guard := some (5, false) }) rfl (fun K hK => ?_) AllReadyH.nil
    go_simp
    refine (KA x y z B b1 b2 F f1 f2 S s1 s2 _).out.mono ?_
    rintro e w110 ⟨rfl, hb⟩
    replace hS : (fun W => Below (w6).heap.size (w6) W) w110 := below_then hS hb (Below.size hS)
    refine hK.out _ _ hS (fun _ => ?_)
    clear hK K hb
    try simp only [Act.put, List.setIfInBounds_toArray, List.set_cons_zero, List.set_cons_succ]
    refine wpAnyH_ready (rs := [12]) (by kernel_rfl) (by simp) ?_
    refine AllReadyH.cons (o := { dst := some 40, op := Op.call { callee := Callee.value (Operand.func 41), args := #[Operand.tmp 39], argTypes := #[69] }, type := 73, pos := "law.go:46", after := #[{ on := 11, ground := Ground.data }, { on := 10, ground := Ground.chain }, { on := 5, ground := Ground.guard }], guard := some (5, false) }) rfl (fun K hK => ?_) AllReadyH.nil
    go_simp
    refine (KA x' y' z' B' b1' b2' F' f1' f2' S' s1' s2' _).out.mono ?_
    rintro e w112 ⟨rfl, hb⟩
    replace hS : (fun W => Below (w6).heap.size (w6) W) w112 := below_then hS hb (Below.size hS)
    refine hK.out _ _ hS (fun _ => ?_)
    clear hK K hb
    try simp only [Act.put, List.setIfInBounds_toArray, List.set_cons_zero, List.set_cons_succ]
    refine wpAnyH_ready (rs := [13]) (by kernel_rfl) (by simp) ?_
    refine AllReadyH.cons (o := { dst := some 41, op := Op.call { callee := Callee.value (Operand.func 40), args := #[Operand.tmp 38, Operand.tmp 40], argTypes := #[73, 73] }, type := 4, pos := "law.go:46", after := #[{ on := 10, ground := Ground.data }, { on := 12, ground := Ground.data }, { on := 12, ground := Ground.chain }, { on := 5, ground := Ground.guard }], guard := some (5, false) }) rfl (fun K hK => ?_) AllReadyH.nil
    go_simp
    refine (KS2 _ (hx.below hS) (hy.below hS)).out.mono ?_
    rintro e w113 ⟨rfl, hb⟩
    replace hS : (fun W => Below (w6).heap.size (w6) W) w113 := below_then hS hb (Below.size hS)
    refine hK.out _ _ hS (fun _ => ?_)
    clear hK K hb
    try simp only [Act.put, List.setIfInBounds_toArray, List.set_cons_zero, List.set_cons_succ]
    refine wpAnyH_take (i := 14) (oi := { dst := some 42, op := Op.binOp BinOp.neq 4 (Operand.tmp 36) (Operand.tmp 41) 4, type := 4, pos := "law.go:46", after := #[{ on := 8, ground := Ground.data }, { on := 13, ground := Ground.data }, { on := 5, ground := Ground.guard }], guard := some (5, false) }) (v := ?_) rfl (by kernel_rfl) (by kernel_rfl) (by kernel_rfl) (fun _ _ _ h => h) (Or.inl ⟨by rfl, ?_⟩) (by assumption) ?_
    rotate_left
    · (intro wS hS; go_simp <;> with_reducible rfl)
    try simp only [Act.put, List.setIfInBounds_toArray, List.set_cons_zero, List.set_cons_succ]
    refine wpAnyH_take (i := 15) (oi := { dst := some 43, op := Op.pick (Operand.tmp 33) (Operand.const (Value.bool true)) (Operand.tmp 42), type := 4, pos := "law.go:46", after := #[{ on := 5, ground := Ground.data }, { on := 14, ground := Ground.data }], guard := none }) (v := ?_) rfl (by kernel_rfl) (by kernel_rfl) (by kernel_rfl) (fun _ _ _ h => h) (Or.inl ⟨by rfl, ?_⟩) (by assumption) ?_
    rotate_left
    · (intro wS hS; go_simp <;> with_reducible rfl)
    try simp only [Act.put, List.setIfInBounds_toArray, List.set_cons_zero, List.set_cons_succ]
    refine wpAnyH_done (by kernel_rfl) ?_ _
    replace hx := hx.below hS
    replace hh1 := heap_below hS hh1
    replace hB := below_trans hB hS
    clear hS KC KM KT KS1 KS2 hy hh2 p0 p1 p2 p3 p4 p5 q0 q1 q2 q3 q4 q5
    go_wp2_with fail
    refine (KP _).out.mono ?_
    rintro e w7 ⟨gs, X, x0, Y, y0, Z, z0, rfl, hz, he, hb⟩
    have hgl := hfle.out gs he
    replace KS3 := fun W h h' => KS3 gs X x0 Y y0 Z z0 W h h' he hgl
    replace hx := hx.below hb
    replace hh1 := heap_below hb hh1
    replace hB := below_trans hB hb
    clear hb he hgl hfle KP
    generalize bl.length = n1 at *
    generalize gs.length = n2 at *
    generalize ss.length = n3 at *
    obtain ⟨hb1, -⟩ := one_cells w7 (scA x y z X n1 x0 Y n2 y0 Z n3 z0) 69
    have hh3 := alloc_new w7 (.cells (scA x y z X n1 x0 Y n2 y0 Z n3 z0) 69 (0, 0))
    replace hx := hx.below hb1
    replace hz := hz.below hb1
    replace hh1 := heap_below hb1 hh1
    replace hB := below_trans hB hb1
    clear hb1
    go_upto_region 10 with fail
    generalize w7.alloc (.cells (scA x y z X n1 x0 Y n2 y0 Z n3 z0) 69) = w8 at *
    obtain ⟨⟨p0, p1, p2, p3, p4, p5⟩, -⟩ := six_cells hh1
    obtain ⟨⟨q0, q1, q2, q3, q4, q5⟩, -⟩ := six_cells hh3
    refine wp_region_held (S := fun W => Below (w8).heap.size (w8) W) (by kernel_rfl) ?_
    change wpAnyH _ _ _ _ _ _ _ _ (w8).drew
    have hS : (fun W => Below (w8).heap.size (w8) W) (w8).drew := (Below.refl _ _).drew
    refine wpAnyH_ready (rs := [0]) (by kernel_rfl) (by simp) ?_
    refine AllReadyH.cons (o := { dst := some 61, op := Op.call { callee := Callee.value (Operand.func 37), args := #[], argTypes := #[] }, type := 4, pos := "law.go:53", after := #[], guard := none }) rfl (fun K hK => ?_) AllReadyH.nil
    go_simp
    refine (KAW _).out.mono ?_
    rintro e w100 ⟨rfl, hb⟩
    replace hS : (fun W => Below (w8).heap.size (w8) W) w100 := below_then hS hb (Below.size hS)
    refine hK.out _ _ hS (fun _ => ?_)
    clear hK K hb
    try simp only [Act.put, List.setIfInBounds_toArray, List.set_cons_zero, List.set_cons_succ]
    refine wpAnyH_take (i := 1) (oi := { dst := some 62, op := Op.move (Operand.tmp 61), type := 4, pos := "law.go:53", after := #[{ on := 0, ground := Ground.data }, { on := 0, ground := Ground.chain }], guard := none }) (v := ?_) rfl (by kernel_rfl) (by kernel_rfl) (by kernel_rfl) (fun _ _ _ h => h) (Or.inl ⟨by rfl, ?_⟩) (by assumption) ?_
    rotate_left
    · (intro wS hS; go_simp <;> with_reducible rfl)
    try simp only [Act.put, List.setIfInBounds_toArray, List.set_cons_zero, List.set_cons_succ]
    refine wpAnyH_take (i := 2) (oi := { dst := some 63, op := Op.move (Operand.tmp 6), type := 25, pos := "law.go:53", after := #[{ on := 1, ground := Ground.guard }], guard := some (1, true) }) (v := ?_) rfl (by kernel_rfl) (by kernel_rfl) (by kernel_rfl) (fun _ _ _ h => h) (Or.inl ⟨by rfl, ?_⟩) (by assumption) ?_
    rotate_left
    · (intro wS hS; go_simp <;> with_reducible rfl)
    try simp only [Act.put, List.setIfInBounds_toArray, List.set_cons_zero, List.set_cons_succ]
    refine wpAnyH_take (i := 3) (oi := { dst := some 64, op := Op.binOp BinOp.eql 25 (Operand.tmp 63) (Operand.const (Value.int IntKind.i64 0)) 25, type := 4, pos := "law.go:53", after := #[{ on := 2, ground := Ground.data }, { on := 1, ground := Ground.guard }], guard := some (1, true) }) (v := ?_) rfl (by kernel_rfl) (by kernel_rfl) (by kernel_rfl) (fun _ _ _ h => h) (Or.inl ⟨by rfl, ?_⟩) (by assumption) ?_
    rotate_left
    · (intro wS hS; go_simp <;> with_reducible rfl)
    try simp only [Act.put, List.setIfInBounds_toArray, List.set_cons_zero, List.set_cons_succ]
    refine wpAnyH_take (i := 4) (oi := { dst := some 65, op := Op.pick (Operand.tmp 62) (Operand.tmp 64) (Operand.const (Value.bool false)), type := 4, pos := "law.go:53", after := #[{ on := 1, ground := Ground.data }, { on := 3, ground := Ground.data }], guard := none }) (v := ?_) rfl (by kernel_rfl) (by kernel_rfl) (by kernel_rfl) (fun _ _ _ h => h) (Or.inl ⟨by rfl, ?_⟩) (by assumption) ?_
    rotate_left
    · (intro wS hS; go_simp <;> with_reducible rfl)
    try simp only [Act.put, List.setIfInBounds_toArray, List.set_cons_zero, List.set_cons_succ]
    refine wpAnyH_take (i := 5) (oi := { dst := some 66, op := Op.move (Operand.tmp 65), type := 4, pos := "law.go:53", after := #[{ on := 4, ground := Ground.data }, { on := 1, ground := Ground.chain }], guard := none }) (v := ?_) rfl (by kernel_rfl) (by kernel_rfl) (by kernel_rfl) (fun _ _ _ h => h) (Or.inl ⟨by rfl, ?_⟩) (by assumption) ?_
    rotate_left
    · (intro wS hS; go_simp <;> with_reducible rfl)
    try simp only [Act.put, List.setIfInBounds_toArray, List.set_cons_zero, List.set_cons_succ]
    refine wpAnyH_take (i := 6) (oi := { dst := some 67, op := Op.move (Operand.tmp 5), type := 9, pos := "law.go:53", after := #[{ on := 5, ground := Ground.guard }], guard := some (5, true) }) (v := ?_) rfl (by kernel_rfl) (by kernel_rfl) (by kernel_rfl) (fun _ _ _ h => h) (Or.inl ⟨by rfl, ?_⟩) (by assumption) ?_
    rotate_left
    · (intro wS hS; go_simp <;> with_reducible rfl)
    try simp only [Act.put, List.setIfInBounds_toArray, List.set_cons_zero, List.set_cons_succ]
    refine wpAnyH_take (i := 7) (oi := { dst := some 68, op := Op.load 69 (Operand.tmp 2), type := 69, pos := "law.go:53", after := #[{ on := 5, ground := Ground.guard }], guard := some (5, true) }) (v := ?_) rfl (by kernel_rfl) (by kernel_rfl) (by kernel_rfl) (fun _ _ _ h => h) (Or.inl ⟨by rfl, ?_⟩) (by assumption) ?_
    rotate_left
    · (intro wS hS; have p0 := cell_below hS p0; have p1 := cell_below hS p1; have p2 := cell_below hS p2; have p3 := cell_below hS p3; have p4 := cell_below hS p4; have p5 := cell_below hS p5; have q0 := cell_below hS q0; have q1 := cell_below hS q1; have q2 := cell_below hS q2; have q3 := cell_below hS q3; have q4 := cell_below hS q4; have q5 := cell_below hS q5; go_simp <;> with_reducible rfl)
    try simp only [Act.put, List.setIfInBounds_toArray, List.set_cons_zero, List.set_cons_succ]
    refine wpAnyH_ready (rs := [8]) (by kernel_rfl) (by simp) ?_
    refine AllReadyH.cons (o := { dst := some 69, op := Op.call { callee := Callee.value (Operand.func 41), args := #[Operand.tmp 68], argTypes := #[69] }, type := 73, pos := "law.go:53", after := #[{ on := 7, ground := Ground.data }, { on := 5, ground := Ground.chain }, { on := 5, ground := Ground.guard }], guard := some (5, true) }) rfl (fun K hK => ?_) AllReadyH.nil
    go_simp
    refine (KA x y z B b1 b2 F f1 f2 S s1 s2 _).out.mono ?_
    rintro e w108 ⟨rfl, hb⟩
    replace hS : (fun W => Below (w8).heap.size (w8) W) w108 := below_then hS hb (Below.size hS)
    refine hK.out _ _ hS (fun _ => ?_)
    clear hK K hb
    try simp only [Act.put, List.setIfInBounds_toArray, List.set_cons_zero, List.set_cons_succ]
    refine wpAnyH_ready (rs := [9]) (by kernel_rfl) (by simp) ?_
    refine AllReadyH.cons (o := { dst := some 70, op := Op.call { callee := Callee.value (Operand.func 43), args := #[Operand.tmp 69], argTypes := #[73] }, type := 9, pos := "law.go:53", after := #[{ on := 8, ground := Ground.data }, { on := 8, ground := Ground.chain }, { on := 5, ground := Ground.guard }], guard := some (5, true) }) rfl (fun K hK => ?_) AllReadyH.nil
    go_simp
    refine (KR _ (hx.below hS)).out.mono ?_
    rintro e w109 ⟨rfl, hb⟩
    replace hS : (fun W => Below (w8).heap.size (w8) W) w109 := below_then hS hb (Below.size hS)
    refine hK.out _ _ hS (fun _ => ?_)
    clear hK K hb
    try simp only [Act.put, List.setIfInBounds_toArray, List.set_cons_zero, List.set_cons_succ]
    refine wpAnyH_take (i := 10) (oi := { dst := some 71, op := Op.binOp BinOp.eql 9 (Operand.tmp 67) (Operand.tmp 70) 9, type := 4, pos := "law.go:53", after := #[{ on := 6, ground := Ground.data }, { on := 9, ground := Ground.data }, { on := 5, ground := Ground.guard }], guard := some (5, true) }) (v := ?_) rfl (by kernel_rfl) (by kernel_rfl) (by kernel_rfl) (fun _ _ _ h => h) (Or.inl ⟨by rfl, ?_⟩) (by assumption) ?_
    rotate_left
    · (intro wS hS; go_simp <;> with_reducible rfl)
    try simp only [Act.put, List.setIfInBounds_toArray, List.set_cons_zero, List.set_cons_succ]
    refine wpAnyH_take (i := 11) (oi := { dst := some 72, op := Op.pick (Operand.tmp 66) (Operand.tmp 71) (Operand.const (Value.bool false)), type := 4, pos := "law.go:53", after := #[{ on := 5, ground := Ground.data }, { on := 10, ground := Ground.data }], guard := none }) (v := ?_) rfl (by kernel_rfl) (by kernel_rfl) (by kernel_rfl) (fun _ _ _ h => h) (Or.inl ⟨by rfl, ?_⟩) (by assumption) ?_
    rotate_left
    · (intro wS hS; go_simp <;> with_reducible rfl)
    try simp only [Act.put, List.setIfInBounds_toArray, List.set_cons_zero, List.set_cons_succ]
    refine wpAnyH_take (i := 12) (oi := { dst := some 73, op := Op.move (Operand.tmp 72), type := 4, pos := "law.go:53", after := #[{ on := 11, ground := Ground.data }, { on := 9, ground := Ground.chain }], guard := none }) (v := ?_) rfl (by kernel_rfl) (by kernel_rfl) (by kernel_rfl) (fun _ _ _ h => h) (Or.inl ⟨by rfl, ?_⟩) (by assumption) ?_
    rotate_left
    · (intro wS hS; go_simp <;> with_reducible rfl)
    try simp only [Act.put, List.setIfInBounds_toArray, List.set_cons_zero, List.set_cons_succ]
    refine wpAnyH_take (i := 13) (oi := { dst := some 74, op := Op.move (Operand.tmp 9), type := 3, pos := "law.go:53", after := #[{ on := 12, ground := Ground.guard }], guard := some (12, true) }) (v := ?_) rfl (by kernel_rfl) (by kernel_rfl) (by kernel_rfl) (fun _ _ _ h => h) (Or.inl ⟨by rfl, ?_⟩) (by assumption) ?_
    rotate_left
    · (intro wS hS; go_simp <;> with_reducible rfl)
    try simp only [Act.put, List.setIfInBounds_toArray, List.set_cons_zero, List.set_cons_succ]
    refine wpAnyH_take (i := 14) (oi := { dst := some 75, op := Op.binOp BinOp.eql 3 (Operand.tmp 74) (Operand.const (Value.int IntKind.i64 0)) 3, type := 4, pos := "law.go:53", after := #[{ on := 13, ground := Ground.data }, { on := 12, ground := Ground.guard }], guard := some (12, true) }) (v := ?_) rfl (by kernel_rfl) (by kernel_rfl) (by kernel_rfl) (fun _ _ _ h => h) (Or.inl ⟨by rfl, ?_⟩) (by assumption) ?_
    rotate_left
    · (intro wS hS; go_simp <;> with_reducible rfl)
    try simp only [Act.put, List.setIfInBounds_toArray, List.set_cons_zero, List.set_cons_succ]
    refine wpAnyH_take (i := 15) (oi := { dst := some 76, op := Op.pick (Operand.tmp 73) (Operand.tmp 75) (Operand.const (Value.bool false)), type := 4, pos := "law.go:53", after := #[{ on := 12, ground := Ground.data }, { on := 14, ground := Ground.data }], guard := none }) (v := ?_) rfl (by kernel_rfl) (by kernel_rfl) (by kernel_rfl) (fun _ _ _ h => h) (Or.inl ⟨by rfl, ?_⟩) (by assumption) ?_
    rotate_left
    · (intro wS hS; go_simp <;> with_reducible rfl)
    try simp only [Act.put, List.setIfInBounds_toArray, List.set_cons_zero, List.set_cons_succ]
    refine wpAnyH_take (i := 16) (oi := { dst := some 77, op := Op.move (Operand.tmp 76), type := 4, pos := "law.go:53", after := #[{ on := 15, ground := Ground.data }, { on := 12, ground := Ground.chain }], guard := none }) (v := ?_) rfl (by kernel_rfl) (by kernel_rfl) (by kernel_rfl) (fun _ _ _ h => h) (Or.inl ⟨by rfl, ?_⟩) (by assumption) ?_
    rotate_left
    · (intro wS hS; go_simp <;> with_reducible rfl)
    try simp only [Act.put, List.setIfInBounds_toArray, List.set_cons_zero, List.set_cons_succ]
    refine wpAnyH_take (i := 17) (oi := { dst := some 78, op := Op.move (Operand.tmp 10), type := 25, pos := "law.go:53", after := #[{ on := 16, ground := Ground.guard }], guard := some (16, true) }) (v := ?_) rfl (by kernel_rfl) (by kernel_rfl) (by kernel_rfl) (fun _ _ _ h => h) (Or.inl ⟨by rfl, ?_⟩) (by assumption) ?_
    rotate_left
    · (intro wS hS; go_simp <;> with_reducible rfl)
    try simp only [Act.put, List.setIfInBounds_toArray, List.set_cons_zero, List.set_cons_succ]
    refine wpAnyH_take (i := 18) (oi := { dst := some 79, op := Op.binOp BinOp.eql 25 (Operand.tmp 78) (Operand.const (Value.int IntKind.i64 0)) 25, type := 4, pos := "law.go:53", after := #[{ on := 17, ground := Ground.data }, { on := 16, ground := Ground.guard }], guard := some (16, true) }) (v := ?_) rfl (by kernel_rfl) (by kernel_rfl) (by kernel_rfl) (fun _ _ _ h => h) (Or.inl ⟨by rfl, ?_⟩) (by assumption) ?_
    rotate_left
    · (intro wS hS; go_simp <;> with_reducible rfl)
    try simp only [Act.put, List.setIfInBounds_toArray, List.set_cons_zero, List.set_cons_succ]
    refine wpAnyH_take (i := 19) (oi := { dst := some 80, op := Op.pick (Operand.tmp 77) (Operand.tmp 79) (Operand.const (Value.bool false)), type := 4, pos := "law.go:53", after := #[{ on := 16, ground := Ground.data }, { on := 18, ground := Ground.data }], guard := none }) (v := ?_) rfl (by kernel_rfl) (by kernel_rfl) (by kernel_rfl) (fun _ _ _ h => h) (Or.inl ⟨by rfl, ?_⟩) (by assumption) ?_
    rotate_left
    · (intro wS hS; go_simp <;> with_reducible rfl)
    try simp only [Act.put, List.setIfInBounds_toArray, List.set_cons_zero, List.set_cons_succ]
    refine wpAnyH_take (i := 20) (oi := { dst := some 81, op := Op.move (Operand.tmp 80), type := 4, pos := "law.go:53", after := #[{ on := 19, ground := Ground.data }, { on := 16, ground := Ground.chain }], guard := none }) (v := ?_) rfl (by kernel_rfl) (by kernel_rfl) (by kernel_rfl) (fun _ _ _ h => h) (Or.inl ⟨by rfl, ?_⟩) (by assumption) ?_
    rotate_left
    · (intro wS hS; go_simp <;> with_reducible rfl)
    try simp only [Act.put, List.setIfInBounds_toArray, List.set_cons_zero, List.set_cons_succ]
    refine wpAnyH_take (i := 21) (oi := { dst := some 82, op := Op.load 69 (Operand.tmp 8), type := 69, pos := "law.go:53", after := #[{ on := 20, ground := Ground.guard }], guard := some (20, true) }) (v := ?_) rfl (by kernel_rfl) (by kernel_rfl) (by kernel_rfl) (fun _ _ _ h => h) (Or.inl ⟨by rfl, ?_⟩) (by assumption) ?_
    rotate_left
    · (intro wS hS; have p0 := cell_below hS p0; have p1 := cell_below hS p1; have p2 := cell_below hS p2; have p3 := cell_below hS p3; have p4 := cell_below hS p4; have p5 := cell_below hS p5; have q0 := cell_below hS q0; have q1 := cell_below hS q1; have q2 := cell_below hS q2; have q3 := cell_below hS q3; have q4 := cell_below hS q4; have q5 := cell_below hS q5; go_simp <;> with_reducible rfl)
    try simp only [Act.put, List.setIfInBounds_toArray, List.set_cons_zero, List.set_cons_succ]
    refine wpAnyH_take (i := 23) (oi := { dst := some 84, op := Op.load 69 (Operand.tmp 2), type := 69, pos := "law.go:53", after := #[{ on := 20, ground := Ground.guard }], guard := some (20, true) }) (v := ?_) rfl (by kernel_rfl) (by kernel_rfl) (by kernel_rfl) (fun _ _ _ h => h) (Or.inl ⟨by rfl, ?_⟩) (by assumption) ?_
    rotate_left
    · (intro wS hS; have p0 := cell_below hS p0; have p1 := cell_below hS p1; have p2 := cell_below hS p2; have p3 := cell_below hS p3; have p4 := cell_below hS p4; have p5 := cell_below hS p5; have q0 := cell_below hS q0; have q1 := cell_below hS q1; have q2 := cell_below hS q2; have q3 := cell_below hS q3; have q4 := cell_below hS q4; have q5 := cell_below hS q5; go_simp <;> with_reducible rfl)
    try simp only [Act.put, List.setIfInBounds_toArray, List.set_cons_zero, List.set_cons_succ]
    refine wpAnyH_ready (rs := [22]) (by kernel_rfl) (by simp) ?_
    refine AllReadyH.cons (o := { dst := some 83, op := Op.call { callee := Callee.value (Operand.func 41), args := #[Operand.tmp 82], argTypes := #[69] }, type := 73, pos := "law.go:53", after := #[{ on := 21, ground := Ground.data }, { on := 20, ground := Ground.chain }, { on := 20, ground := Ground.guard }], guard := some (20, true) }) rfl (fun K hK => ?_) AllReadyH.nil
    go_simp
    refine (KA x y z X n1 x0 Y n2 y0 Z n3 z0 _).out.mono ?_
    rintro e w122 ⟨rfl, hb⟩
    replace hS : (fun W => Below (w8).heap.size (w8) W) w122 := below_then hS hb (Below.size hS)
    refine hK.out _ _ hS (fun _ => ?_)
    clear hK K hb
    try simp only [Act.put, List.setIfInBounds_toArray, List.set_cons_zero, List.set_cons_succ]
    refine wpAnyH_ready (rs := [24]) (by kernel_rfl) (by simp) ?_
    refine AllReadyH.cons (o := { dst := some 85, op := Op.call { callee := Callee.value (Operand.func 41), args := #[Operand.tmp 84], argTypes := #[69] }, type := 73, pos := "law.go:53", after := #[{ on := 23, ground := Ground.data }, { on := 22, ground := Ground.chain }, { on := 20, ground := Ground.guard }], guard := some (20, true) }) rfl (fun K hK => ?_) AllReadyH.nil
    go_simp
    refine (KA x y z B b1 b2 F f1 f2 S s1 s2 _).out.mono ?_
    rintro e w124 ⟨rfl, hb⟩
    replace hS : (fun W => Below (w8).heap.size (w8) W) w124 := below_then hS hb (Below.size hS)
    refine hK.out _ _ hS (fun _ => ?_)
    clear hK K hb
    try simp only [Act.put, List.setIfInBounds_toArray, List.set_cons_zero, List.set_cons_succ]
    refine wpAnyH_ready (rs := [25]) (by kernel_rfl) (by simp) ?_
    refine AllReadyH.cons (o := { dst := some 86, op := Op.call { callee := Callee.value (Operand.func 40), args := #[Operand.tmp 83, Operand.tmp 85], argTypes := #[73, 73] }, type := 4, pos := "law.go:53", after := #[{ on := 22, ground := Ground.data }, { on := 24, ground := Ground.data }, { on := 24, ground := Ground.chain }, { on := 20, ground := Ground.guard }], guard := some (20, true) }) rfl (fun K hK => ?_) AllReadyH.nil
    go_simp
    refine (KS3 _ (hz.below hS) (hx.below hS)).out.mono ?_
    rintro e w125 ⟨rfl, hb⟩
    replace hS : (fun W => Below (w8).heap.size (w8) W) w125 := below_then hS hb (Below.size hS)
    refine hK.out _ _ hS (fun _ => ?_)
    clear hK K hb
    try simp only [Act.put, List.setIfInBounds_toArray, List.set_cons_zero, List.set_cons_succ]
    refine wpAnyH_take (i := 26) (oi := { dst := some 87, op := Op.pick (Operand.tmp 81) (Operand.tmp 86) (Operand.const (Value.bool false)), type := 4, pos := "law.go:53", after := #[{ on := 20, ground := Ground.data }, { on := 25, ground := Ground.data }], guard := none }) (v := ?_) rfl (by kernel_rfl) (by kernel_rfl) (by kernel_rfl) (fun _ _ _ h => h) (Or.inl ⟨by rfl, ?_⟩) (by assumption) ?_
    rotate_left
    · (intro wS hS; go_simp <;> with_reducible rfl)
    try simp only [Act.put, List.setIfInBounds_toArray, List.set_cons_zero, List.set_cons_succ]
    refine wpAnyH_take (i := 27) (oi := { dst := some 4, op := Op.assign (Operand.tmp 87), type := 4, pos := "law.go:53", after := #[{ on := 26, ground := Ground.data }, { on := 25, ground := Ground.chain }, { on := 0, ground := Ground.phase }, { on := 1, ground := Ground.phase }, { on := 2, ground := Ground.phase }, { on := 3, ground := Ground.phase }, { on := 4, ground := Ground.phase }, { on := 5, ground := Ground.phase }, { on := 6, ground := Ground.phase }, { on := 7, ground := Ground.phase }, { on := 8, ground := Ground.phase }, { on := 9, ground := Ground.phase }, { on := 10, ground := Ground.phase }, { on := 11, ground := Ground.phase }, { on := 12, ground := Ground.phase }, { on := 13, ground := Ground.phase }, { on := 14, ground := Ground.phase }, { on := 15, ground := Ground.phase }, { on := 16, ground := Ground.phase }, { on := 17, ground := Ground.phase }, { on := 18, ground := Ground.phase }, { on := 19, ground := Ground.phase }, { on := 20, ground := Ground.phase }, { on := 21, ground := Ground.phase }, { on := 22, ground := Ground.phase }, { on := 23, ground := Ground.phase }, { on := 24, ground := Ground.phase }, { on := 25, ground := Ground.phase }, { on := 26, ground := Ground.phase }], guard := none }) (v := ?_) rfl (by kernel_rfl) (by kernel_rfl) (by kernel_rfl) (fun _ _ _ h => h) (Or.inl ⟨by rfl, ?_⟩) (by assumption) ?_
    rotate_left
    · (intro wS hS; go_simp <;> with_reducible rfl)
    try simp only [Act.put, List.setIfInBounds_toArray, List.set_cons_zero, List.set_cons_succ]
    refine wpAnyH_done (by kernel_rfl) ?_ _
    go_wp2_with fail
    go_ret
    exact ⟨ret_bool (by simp), below_trans hB hS⟩
  · have KT := fun W (h : SF W bl fs ss B b1 b2 F f1 f2 S s1 s2) => Lib.hid (ttext_no x y z bl fs ss B b1 b2 F f1 f2 S s1 s2 W h.r hN1 hD1 hg)
    rw [scE_three hg] at KC
    rw [may_no hg] at KM
    clear hg hN1 hN2 hD1 hs60
    go_wp2_with fail
    refine (KT _ hx).out.mono ?_
    rintro e w4 ⟨rfl, hb⟩
    replace hx := hx.below hb
    replace hy := hy.below hb
    replace hh1 := heap_below hb hh1
    replace hh2 := heap_below hb hh2
    replace hB := below_trans hB hb
    clear hb  p0 p1 p2 p3 p4 p5 q0 q1 q2 q3 q4 q5
    obtain ⟨⟨p0, p1, p2, p3, p4, p5⟩, -⟩ := six_cells hh1
    obtain ⟨⟨q0, q1, q2, q3, q4, q5⟩, -⟩ := six_cells hh2
    go_wp2_with fail
    refine (KA x y z B b1 b2 F f1 f2 S s1 s2 _).out.mono ?_
    rintro e w5 ⟨rfl, hb⟩
    replace hx := hx.below hb
    replace hy := hy.below hb
    replace hh1 := heap_below hb hh1
    replace hh2 := heap_below hb hh2
    replace hB := below_trans hB hb
    clear hb  p0 p1 p2 p3 p4 p5 q0 q1 q2 q3 q4 q5
    obtain ⟨⟨p0, p1, p2, p3, p4, p5⟩, -⟩ := six_cells hh1
    obtain ⟨⟨q0, q1, q2, q3, q4, q5⟩, -⟩ := six_cells hh2
    go_wp2_with fail
    refine (KM _ hx).out.mono ?_
    rintro e w6 ⟨rfl, hb⟩
    replace hx := hx.below hb
    replace hy := hy.below hb
    replace hh1 := heap_below hb hh1
    replace hh2 := heap_below hb hh2
    replace hB := below_trans hB hb
    clear hb  p0 p1 p2 p3 p4 p5 q0 q1 q2 q3 q4 q5
    obtain ⟨⟨p0, p1, p2, p3, p4, p5⟩, -⟩ := six_cells hh1
    obtain ⟨⟨q0, q1, q2, q3, q4, q5⟩, -⟩ := six_cells hh2
    go_upto_region 5 with fail
    refine wp_region_held (S := fun W => Below (w6).heap.size (w6) W) (by kernel_rfl) ?_
    change wpAnyH _ _ _ _ _ _ _ _ (w6).drew
    have hS : (fun W => Below (w6).heap.size (w6) W) (w6).drew := (Below.refl _ _).drew
    refine wpAnyH_take (i := 0) (oi := { dst := some 28, op := Op.load 69 (Operand.tmp 2), type := 69, pos := "law.go:46", after := #[], guard := none }) (v := ?_) rfl (by kernel_rfl) (by kernel_rfl) (by kernel_rfl) (fun _ _ _ h => h) (Or.inl ⟨by rfl, ?_⟩) (by assumption) ?_
    rotate_left
    · (intro wS hS; have p0 := cell_below hS p0; have p1 := cell_below hS p1; have p2 := cell_below hS p2; have p3 := cell_below hS p3; have p4 := cell_below hS p4; have p5 := cell_below hS p5; have q0 := cell_below hS q0; have q1 := cell_below hS q1; have q2 := cell_below hS q2; have q3 := cell_below hS q3; have q4 := cell_below hS q4; have q5 := cell_below hS q5; go_simp <;> with_reducible rfl)
    try simp only [Act.put, List.setIfInBounds_toArray, List.set_cons_zero, List.set_cons_succ]
    refine wpAnyH_take (i := 3) (oi := { dst := some 31, op := Op.move (Operand.tmp 7), type := 4, pos := "law.go:46", after := #[], guard := none }) (v := ?_) rfl (by kernel_rfl) (by kernel_rfl) (by kernel_rfl) (fun _ _ _ h => h) (Or.inl ⟨by rfl, ?_⟩) (by assumption) ?_
    rotate_left
    · (intro wS hS; go_simp <;> with_reducible rfl)
    try simp only [Act.put, List.setIfInBounds_toArray, List.set_cons_zero, List.set_cons_succ]
    refine wpAnyH_ready (rs := [1]) (by kernel_rfl) (by simp) ?_
    refine AllReadyH.cons (o := { dst := some 29, op := Op.call { callee := Callee.value (Operand.func 49), args := #[Operand.tmp 28], argTypes := #[69] }, type := 25, pos := "law.go:46", after := #[{ on := 0, ground := Ground.data }], guard := none }) rfl (fun K hK => ?_) AllReadyH.nil
    go_simp
    refine (KC _ (hx.below hS)).out.mono ?_
    rintro e w101 ⟨rfl, hb⟩
    replace hS : (fun W => Below (w6).heap.size (w6) W) w101 := below_then hS hb (Below.size hS)
    refine hK.out _ _ hS (fun _ => ?_)
    clear hK K hb
    try simp only [Act.put, List.setIfInBounds_toArray, List.set_cons_zero, List.set_cons_succ]
    refine wpAnyH_take (i := 2) (oi := { dst := some 30, op := Op.binOp BinOp.eql 25 (Operand.tmp 29) (Operand.const (Value.int IntKind.i64 0)) 25, type := 4, pos := "law.go:46", after := #[{ on := 1, ground := Ground.data }], guard := none }) (v := ?_) rfl (by kernel_rfl) (by kernel_rfl) (by kernel_rfl) (fun _ _ _ h => h) (Or.inl ⟨by rfl, ?_⟩) (by assumption) ?_
    rotate_left
    · (intro wS hS; go_simp <;> with_reducible rfl)
    try simp only [Act.put, List.setIfInBounds_toArray, List.set_cons_zero, List.set_cons_succ]
    refine wpAnyH_take (i := 4) (oi := { dst := some 32, op := Op.binOp BinOp.neq 4 (Operand.tmp 30) (Operand.tmp 31) 4, type := 4, pos := "law.go:46", after := #[{ on := 2, ground := Ground.data }, { on := 3, ground := Ground.data }], guard := none }) (v := ?_) rfl (by kernel_rfl) (by kernel_rfl) (by kernel_rfl) (fun _ _ _ h => h) (Or.inl ⟨by rfl, ?_⟩) (by assumption) ?_
    rotate_left
    · (intro wS hS; go_simp <;> with_reducible rfl)
    try simp only [Act.put, List.setIfInBounds_toArray, List.set_cons_zero, List.set_cons_succ]
    refine wpAnyH_take (i := 5) (oi := { dst := some 33, op := Op.move (Operand.tmp 32), type := 4, pos := "law.go:46", after := #[{ on := 4, ground := Ground.data }, { on := 1, ground := Ground.chain }], guard := none }) (v := ?_) rfl (by kernel_rfl) (by kernel_rfl) (by kernel_rfl) (fun _ _ _ h => h) (Or.inl ⟨by rfl, ?_⟩) (by assumption) ?_
    rotate_left
    · (intro wS hS; go_simp <;> with_reducible rfl)
    try simp only [Act.put, List.setIfInBounds_toArray, List.set_cons_zero, List.set_cons_succ]
    refine wpAnyH_take (i := 6) (oi := { dst := some 34, op := Op.load 69 (Operand.tmp 2), type := 69, pos := "law.go:46", after := #[{ on := 5, ground := Ground.guard }], guard := some (5, false) }) (v := ?_) rfl (by kernel_rfl) (by kernel_rfl) (by kernel_rfl) (fun _ _ _ h => h) (Or.inl ⟨by rfl, ?_⟩) (by assumption) ?_
    rotate_left
    · (intro wS hS; have p0 := cell_below hS p0; have p1 := cell_below hS p1; have p2 := cell_below hS p2; have p3 := cell_below hS p3; have p4 := cell_below hS p4; have p5 := cell_below hS p5; have q0 := cell_below hS q0; have q1 := cell_below hS q1; have q2 := cell_below hS q2; have q3 := cell_below hS q3; have q4 := cell_below hS q4; have q5 := cell_below hS q5; go_simp <;> with_reducible rfl)
    try simp only [Act.put, List.setIfInBounds_toArray, List.set_cons_zero, List.set_cons_succ]
    refine wpAnyH_take (i := 7) (oi := { dst := some 35, op := Op.load 69 (Operand.tmp 3), type := 69, pos := "law.go:46", after := #[{ on := 5, ground := Ground.guard }], guard := some (5, false) }) (v := ?_) rfl (by kernel_rfl) (by kernel_rfl) (by kernel_rfl) (fun _ _ _ h => h) (Or.inl ⟨by rfl, ?_⟩) (by assumption) ?_
    rotate_left
    · (intro wS hS; have p0 := cell_below hS p0; have p1 := cell_below hS p1; have p2 := cell_below hS p2; have p3 := cell_below hS p3; have p4 := cell_below hS p4; have p5 := cell_below hS p5; have q0 := cell_below hS q0; have q1 := cell_below hS q1; have q2 := cell_below hS q2; have q3 := cell_below hS q3; have q4 := cell_below hS q4; have q5 := cell_below hS q5; go_simp <;> with_reducible rfl)
    try simp only [Act.put, List.setIfInBounds_toArray, List.set_cons_zero, List.set_cons_succ]
    refine wpAnyH_take (i := 9) (oi := { dst := some 37, op := Op.load 69 (Operand.tmp 2), type := 69, pos := "law.go:46", after := #[{ on := 5, ground := Ground.guard }], guard := some (5, false) }) (v := ?_) rfl (by kernel_rfl) (by kernel_rfl) (by kernel_rfl) (fun _ _ _ h => h) (Or.inl ⟨by rfl, ?_⟩) (by assumption) ?_
    rotate_left
    · (intro wS hS; have p0 := cell_below hS p0; have p1 := cell_below hS p1; have p2 := cell_below hS p2; have p3 := cell_below hS p3; have p4 := cell_below hS p4; have p5 := cell_below hS p5; have q0 := cell_below hS q0; have q1 := cell_below hS q1; have q2 := cell_below hS q2; have q3 := cell_below hS q3; have q4 := cell_below hS q4; have q5 := cell_below hS q5; go_simp <;> with_reducible rfl)
    try simp only [Act.put, List.setIfInBounds_toArray, List.set_cons_zero, List.set_cons_succ]
    refine wpAnyH_take (i := 11) (oi := { dst := some 39, op := Op.load 69 (Operand.tmp 3), type := 69, pos := "law.go:46", after := #[{ on := 5, ground := Ground.guard }], guard := some (5, false) }) (v := ?_) rfl (by kernel_rfl) (by kernel_rfl) (by kernel_rfl) (fun _ _ _ h => h) (Or.inl ⟨by rfl, ?_⟩) (by assumption) ?_
    rotate_left
    · (intro wS hS; have p0 := cell_below hS p0; have p1 := cell_below hS p1; have p2 := cell_below hS p2; have p3 := cell_below hS p3; have p4 := cell_below hS p4; have p5 := cell_below hS p5; have q0 := cell_below hS q0; have q1 := cell_below hS q1; have q2 := cell_below hS q2; have q3 := cell_below hS q3; have q4 := cell_below hS q4; have q5 := cell_below hS q5; go_simp <;> with_reducible rfl)
    try simp only [Act.put, List.setIfInBounds_toArray, List.set_cons_zero, List.set_cons_succ]
    refine wpAnyH_ready (rs := [8]) (by kernel_rfl) (by simp) ?_
    refine AllReadyH.cons (o := { dst := some 36, op := Op.call { callee := Callee.value (Operand.func 50), args := #[Operand.tmp 34, Operand.tmp 35], argTypes := #[69, 69] }, type := 4, pos := "law.go:46", after := #[{ on := 6, ground := Ground.data }, { on := 7, ground := Ground.data }, { on := 5, ground := Ground.chain }, { on := 5, ground := Ground.guard }], guard := some (5, false) }) rfl (fun K hK => ?_) AllReadyH.nil
    go_simp
    refine (KS1 _ (hx.below hS) (hy.below hS)).out.mono ?_
    rintro e w108 ⟨rfl, hb⟩
    replace hS : (fun W => Below (w6).heap.size (w6) W) w108 := below_then hS hb (Below.size hS)
    refine hK.out _ _ hS (fun _ => ?_)
    clear hK K hb
    try simp only [Act.put, List.setIfInBounds_toArray, List.set_cons_zero, List.set_cons_succ]
    refine wpAnyH_ready (rs := [10]) (by kernel_rfl) (by simp) ?_
    refine AllReadyH.cons (o := { dst := some 38, op := Op.call { callee := Callee.value (Operand.func 41), args := #[Operand.tmp 37], argTypes := #[69] }, type := 73, pos := "law.go:46", after := #[{ on := 9, ground := Ground.data }, { on := 8, ground := Ground.chain }, { on := 5, ground := Ground.guard }], guard := some (5, false) }) rfl (fun K hK => ?_) AllReadyH.nil
    go_simp
    refine (KA x y z B b1 b2 F f1 f2 S s1 s2 _).out.mono ?_
    rintro e w110 ⟨rfl, hb⟩
    replace hS : (fun W => Below (w6).heap.size (w6) W) w110 := below_then hS hb (Below.size hS)
    refine hK.out _ _ hS (fun _ => ?_)
    clear hK K hb
    try simp only [Act.put, List.setIfInBounds_toArray, List.set_cons_zero, List.set_cons_succ]
    refine wpAnyH_ready (rs := [12]) (by kernel_rfl) (by simp) ?_
    refine AllReadyH.cons (o := { dst := some 40, op := Op.call { callee := Callee.value (Operand.func 41), args := #[Operand.tmp 39], argTypes := #[69] }, type := 73, pos := "law.go:46", after := #[{ on := 11, ground := Ground.data }, { on := 10, ground := Ground.chain }, { on := 5, ground := Ground.guard }], guard := some (5, false) }) rfl (fun K hK => ?_) AllReadyH.nil
    go_simp
    refine (KA x' y' z' B' b1' b2' F' f1' f2' S' s1' s2' _).out.mono ?_
    rintro e w112 ⟨rfl, hb⟩
    replace hS : (fun W => Below (w6).heap.size (w6) W) w112 := below_then hS hb (Below.size hS)
    refine hK.out _ _ hS (fun _ => ?_)
    clear hK K hb
    try simp only [Act.put, List.setIfInBounds_toArray, List.set_cons_zero, List.set_cons_succ]
    refine wpAnyH_ready (rs := [13]) (by kernel_rfl) (by simp) ?_
    refine AllReadyH.cons (o := { dst := some 41, op := Op.call { callee := Callee.value (Operand.func 40), args := #[Operand.tmp 38, Operand.tmp 40], argTypes := #[73, 73] }, type := 4, pos := "law.go:46", after := #[{ on := 10, ground := Ground.data }, { on := 12, ground := Ground.data }, { on := 12, ground := Ground.chain }, { on := 5, ground := Ground.guard }], guard := some (5, false) }) rfl (fun K hK => ?_) AllReadyH.nil
    go_simp
    refine (KS2 _ (hx.below hS) (hy.below hS)).out.mono ?_
    rintro e w113 ⟨rfl, hb⟩
    replace hS : (fun W => Below (w6).heap.size (w6) W) w113 := below_then hS hb (Below.size hS)
    refine hK.out _ _ hS (fun _ => ?_)
    clear hK K hb
    try simp only [Act.put, List.setIfInBounds_toArray, List.set_cons_zero, List.set_cons_succ]
    refine wpAnyH_take (i := 14) (oi := { dst := some 42, op := Op.binOp BinOp.neq 4 (Operand.tmp 36) (Operand.tmp 41) 4, type := 4, pos := "law.go:46", after := #[{ on := 8, ground := Ground.data }, { on := 13, ground := Ground.data }, { on := 5, ground := Ground.guard }], guard := some (5, false) }) (v := ?_) rfl (by kernel_rfl) (by kernel_rfl) (by kernel_rfl) (fun _ _ _ h => h) (Or.inl ⟨by rfl, ?_⟩) (by assumption) ?_
    rotate_left
    · (intro wS hS; go_simp <;> with_reducible rfl)
    try simp only [Act.put, List.setIfInBounds_toArray, List.set_cons_zero, List.set_cons_succ]
    refine wpAnyH_take (i := 15) (oi := { dst := some 43, op := Op.pick (Operand.tmp 33) (Operand.const (Value.bool true)) (Operand.tmp 42), type := 4, pos := "law.go:46", after := #[{ on := 5, ground := Ground.data }, { on := 14, ground := Ground.data }], guard := none }) (v := ?_) rfl (by kernel_rfl) (by kernel_rfl) (by kernel_rfl) (fun _ _ _ h => h) (Or.inl ⟨by rfl, ?_⟩) (by assumption) ?_
    rotate_left
    · (intro wS hS; go_simp <;> with_reducible rfl)
    try simp only [Act.put, List.setIfInBounds_toArray, List.set_cons_zero, List.set_cons_succ]
    refine wpAnyH_done (by kernel_rfl) ?_ _
    replace hB := below_trans hB hS
    clear hS KC KM KT KS1 KS2 hy hh2 hx hh1 p0 p1 p2 p3 p4 p5 q0 q1 q2 q3 q4 q5
    go_wp2_with fail
    refine (KAW _).out.mono ?_
    rintro e w7 ⟨rfl, hb⟩
    go_wp2_with fail
    go_ret
    exact ⟨rfl, below_trans hB hb⟩
end Go.Proofs.Ytefipigdkdopcaa
