/- Layer 41 (tape): contracts of number, bytes, order, Step. No condition but lengths' bounds. -/
import Derived.Test.YtefipigdkdopcaaTap6
import Derived.Test.YtefipigdkdopcaaRep4
import Derived.Test.YtefipigdkdopcaaCmd5
import Derived.Deep.DeepCutAuto
namespace Go.Proofs.Ytefipigdkdopcaa
open Go.RowKit

abbrev five (w : World) (g : Nat) (a b c d e : Value) : World := ((((w.setCell ⟨g, 0, none⟩ a).setCell ⟨g, 1, none⟩ b).setCell ⟨g, 2, none⟩ c).setCell ⟨g, 3, none⟩ d).setCell ⟨g, 4, none⟩ e
theorem five_heap {w : World} {g : Nat} {a0 b0 c0 d0 e0 : Value} {t : TypeId} (h : w.heap[g]? = some (.cells #[a0, b0, c0, d0, e0] t (0, 0))) (a b c d e : Value) : (five w g a b c d e).heap[g]? = some (.cells #[a, b, c, d, e] t (0, 0)) := by
  have h1 := set_heap (o := 0) h a
  have h2 := set_heap (o := 1) h1 b
  have h3 := set_heap (o := 2) h2 c
  have h4 := set_heap (o := 3) h3 d
  exact set_heap (o := 4) h4 e
theorem five_gb (w : World) (g : Nat) (a b c d e : Value) : w.grownBy (five w g a b c d e) (some g) :=
  ((((gb_set _ _ _ _).trans (gb_set _ _ _ _)).trans (gb_set _ _ _ _)).trans (gb_set _ _ _ _)).trans (gb_set _ _ _ _)
theorem five_cells {w : World} {g : Nat} {a b c d e : Value} {t : TypeId} (h : w.heap[g]? = some (.cells #[a, b, c, d, e] t (0, 0))) :
    (w.cell? ⟨g, 0, none⟩ = some a ∧ w.cell? ⟨g, 1, none⟩ = some b ∧ w.cell? ⟨g, 2, none⟩ = some c ∧ w.cell? ⟨g, 3, none⟩ = some d ∧ w.cell? ⟨g, 4, none⟩ = some e) ∧
    (w.frozen? ⟨g, 0, none⟩ = false ∧ w.frozen? ⟨g, 1, none⟩ = false ∧ w.frozen? ⟨g, 2, none⟩ = false ∧ w.frozen? ⟨g, 3, none⟩ = false ∧ w.frozen? ⟨g, 4, none⟩ = false) :=
  ⟨⟨cell_heap h, cell_heap h, cell_heap h, cell_heap h, cell_heap h⟩, frozen_heap h, frozen_heap h, frozen_heap h, frozen_heap h, frozen_heap h⟩

set_option maxRecDepth 100000 in
theorem tnum_any (l : List (List UInt8)) (i : Nat) (A : Option Addr) (n c : Nat) (w : World) (hx : RdS w A n c l) (hi : i < n) (hN : n ≤ 1000000) (hp : (l.getD i []).length ≤ 100000) :
    Calls Try.prog 88 #[.slice A n c, .int .i64 i] w fun e w' => e = .returned (.int .i64 (numF (l.getD i []))) ∧ Below w.heap.size w w' := by
  obtain ⟨ad, rfl⟩ := hx.some_of_pos (by omega)
  have e0 := hx.scell i hi
  have hq : (i : Int) < n := by omega
  have KN := fun W => Lib.hid (number_any (l.getD i []) W hp)
  generalize l.getD i [] = s at *
  clear hx hp
  go_enter Try.func88, Try.ntmps88
  go_wp2_with fail
  refine (KN _).out.mono ?_
  rintro e w2 ⟨rfl, hb⟩
  go_wp2_with fail
  go_ret
  exact ⟨rfl, hb⟩
/-- The bytes that a word tells. -/
def bytesW (s : List UInt8) : List UInt8 := (unhexF s).getD []
theorem bytesW_len (s : List UInt8) : (bytesW s).length * 2 ≤ s.length := by
  unfold bytesW
  cases h : unhexF s with
  | none => simp
  | some l =>
    have := hex_unhex s l h
    have h2 := hexS_length l
    rw [this] at h2
    rw [Option.getD_some]; omega
set_option maxRecDepth 100000 in
theorem tbytes_any (s : List UInt8) (w : World) (hp : s.length ≤ 100000) :
    Calls Try.prog 89 #[.string ⟨s.toArray⟩] w fun e w' => ∃ A m c, e = .returned (.slice A m c) ∧ RdB w' A m c (bytesW s) ∧ Below w.heap.size w w' := by
  have KB : Hid (Calls Try.prog 30 #[.string ⟨s.toArray⟩] w fun e w' => ∃ A m c ok, e = .returned (.tuple #[.slice A m c, .bool ok]) ∧ RdB w' A m c (bytesW s) ∧ Below w.heap.size w w') := Lib.hid ((rbytes_any s w hp).mono (fun e w' h => by
    unfold bytesW
    cases hu : unhexF s with
    | none => rw [hu] at h; exact ⟨none, 0, 0, false, h.1, Rd.empty _ _, h.2⟩
    | some l =>
      rw [hu] at h
      obtain ⟨⟨v, h1, h2⟩, h3⟩ := h
      obtain ⟨A, c, rfl, hr, -⟩ := Rd.of_own h2
      exact ⟨A, _, c, true, h1, hr, h3⟩))
  go_enter Try.func89, Try.ntmps89
  go_wp2_with fail
  refine KB.out.mono ?_
  rintro e w2 ⟨A, m, c, ok, rfl, hr, hb⟩
  clear KB
  go_wp2_with fail
  go_ret
  exact ⟨A, m, c, rfl, hr, hb⟩
def wGeom : List UInt8 := [103, 101, 111, 109]
def wBad : List UInt8 := [98, 97, 100]
def wFail : List UInt8 := [102, 97, 105, 108]
def wCut : List UInt8 := [99, 117, 116]
def ordF (s : List UInt8) : Nat × Nat := if s = wGeom then (0, 4) else if s = wBad then (1, 2) else if s = wFail ∨ s = wCut then (2, 3) else (3, 0)
set_option maxRecDepth 100000 in
set_option maxHeartbeats 1000000 in
theorem order_any (s : List UInt8) (w : World) : Calls Try.prog 123 #[.string ⟨s.toArray⟩] w fun e w' => e = .returned (.tuple #[.int .i64 (ordF s).1, .int .i64 (ordF s).2]) ∧ w = w' := by
  by_cases h1 : s = wGeom
  · have ho : ordF s = (0, 4) := by unfold ordF; rw [if_pos h1]
    rw [ho]
    unfold wGeom at h1
    subst h1
    clear ho
    go_enter Try.func123, Try.ntmps123
    go_wp2_with fail
    go_ret2
    exact ⟨rfl, rfl⟩
  by_cases h2 : s = wBad
  · have ho : ordF s = (1, 2) := by unfold ordF; rw [if_neg h1, if_pos h2]
    rw [ho]
    unfold wBad at h2
    subst h2
    clear ho h1
    go_enter Try.func123, Try.ntmps123
    go_wp2_with fail
    go_ret2
    exact ⟨rfl, rfl⟩
  by_cases h3 : s = wFail
  · have ho : ordF s = (2, 3) := by unfold ordF; rw [if_neg h1, if_neg h2, if_pos (.inl h3)]
    rw [ho]
    unfold wFail at h3
    subst h3
    clear ho h1 h2
    go_enter Try.func123, Try.ntmps123
    go_wp2_with fail
    go_ret2
    exact ⟨rfl, rfl⟩
  by_cases h4 : s = wCut
  · have ho : ordF s = (2, 3) := by unfold ordF; rw [if_neg h1, if_neg h2, if_pos (.inr h4)]
    rw [ho]
    unfold wCut at h4
    subst h4
    clear ho h1 h2 h3
    go_enter Try.func123, Try.ntmps123
    go_wp2_with fail
    go_ret2
    exact ⟨rfl, rfl⟩
  · have ho : ordF s = (3, 0) := by unfold ordF; rw [if_neg h1, if_neg h2, if_neg (fun h => h.elim h3 h4)]
    rw [ho]
    have b1 : (s == [103, 101, 111, 109]) = false := by unfold wGeom at h1; simpa using h1
    have b2 : (s == [98, 97, 100]) = false := by unfold wBad at h2; simpa using h2
    have b3 : (s == [102, 97, 105, 108]) = false := by unfold wFail at h3; simpa using h3
    have b4 : (s == [99, 117, 116]) = false := by unfold wCut at h4; simpa using h4
    clear ho h1 h2 h3 h4
    go_enter Try.func123, Try.ntmps123
    go_wp2_with fail
    go_ret2
    exact ⟨rfl, rfl⟩

def st0 : StV := ⟨0, [], 0, 0, 0⟩
def stChk (st : StV) (s : List UInt8) : StV × Nat := if lineS st = s ∧ stepOk st = true then (st, 0) else (st0, 6)
/-- What a line is as a step, and the error. -/
def stepF (s : List UInt8) : StV × Nat :=
  match wordsL s with
  | [] => (st0, 17)
  | h :: r =>
    if h = wPow then if r.length = 0 then stChk ⟨9, [], 0, 0, 0⟩ s else (st0, 17)
    else if h = wIng then if r.length = 2 then stChk ⟨8, bytesW (r.getD 1 []), numF (r.getD 0 []), 0, 0⟩ s else (st0, 17)
    else (⟨((parseC s).k : Nat), [], 0, (parseC s).a, (parseC s).b⟩, (parseC s).e)

abbrev zSt : Array Value := #[.int .i64 0, .string ⟨#[]⟩, .int .i64 0, .int .u64 0, .int .u64 0]

set_option maxRecDepth 100000 in
set_option maxHeartbeats 8000000 in
theorem tstep_any (s : List UInt8) (w : World) (hN : s.length ≤ 20000) : Calls Try.prog 45 #[.string ⟨s.toArray⟩] w fun e w' => e = .returned (.tuple #[.agg (stA (stepF s).1), .int .i64 ((stepF s).2 : Nat)]) ∧ Below w.heap.size w w' := by
  have hB := (one_cells w zSt 78).1
  have hR := alloc_new w (.cells zSt 78 (0, 0))
  have KW := fun W => Lib.hid (words_rd s W (by omega))
  have KP := fun W => Lib.hid (cparse_any s W (by omega))
  have hlen : (wordsL s).length ≤ s.length + 1 := split2_length 32 9 true s
  have hall : ∀ p ∈ wordsL s, p.length ≤ s.length := fun p hp => (split2_free 32 9 true s p hp).2.2
  have HF : Hid (stepF s = match wordsL s with
    | [] => (st0, 17)
    | h :: r =>
      if h = wPow then if r.length = 0 then stChk ⟨9, [], 0, 0, 0⟩ s else (st0, 17)
      else if h = wIng then if r.length = 2 then stChk ⟨8, bytesW (r.getD 1 []), numF (r.getD 0 []), 0, 0⟩ s else (st0, 17)
      else (⟨((parseC s).k : Nat), [], 0, (parseC s).a, (parseC s).b⟩, (parseC s).e)) := rfl
  generalize wordsL s = l at *
  obtain ⟨R, hRd⟩ : ∃ R, R = stepF s := ⟨_, rfl⟩
  rw [← hRd] at HF ⊢
  clear hRd
  have HL := Lib.hid hall
  clear hall
  go_enter Try.func45, Try.ntmps45
  go_upto_region 1 with fail
  generalize w.alloc (.cells zSt 78) = w1 at *
  go_wp2_with fail
  refine (KW _).out.mono ?_
  rintro e w2 ⟨A, c, rfl, hx, hb⟩
  replace hR := heap_below hb hR
  replace hB := below_trans hB hb
  clear hb KW
  have HEND : ∀ (W : World), W.heap[w.heap.size]? = some (.cells zSt 78 (0, 0)) → Below w.heap.size w W →
      (five W w.heap.size (.int .i64 0) (.string ⟨#[]⟩) (.int .i64 0) (.int .u64 0) (.int .u64 0)).heap[w.heap.size]? = some (.cells zSt 78 (0, 0)) ∧ Below w.heap.size w (five W w.heap.size (.int .i64 0) (.string ⟨#[]⟩) (.int .i64 0) (.int .u64 0) (.int .u64 0)) := fun W h1 h2 =>
    ⟨five_heap h1 _ _ _ _ _, below_gbw (five_gb W _ _ _ _ _ _) h2 (Nat.le_refl _)⟩
  cases l with
  | nil =>
    have HF2 : Hid (R = (st0, 17)) := HF.out
    clear HF KP
    obtain ⟨⟨z0, z1, z2, z3, z4⟩, f0, f1, f2, f3, f4⟩ := five_cells hR
    go_wp2_with fail
    obtain ⟨hh9, hB9⟩ := HEND w2 hR hB
    obtain ⟨⟨r0, r1, r2, r3, r4⟩, -⟩ := five_cells hh9
    refine bodyPost_ret (v := .tuple #[.agg zSt, .int .i64 17]) ?_ rfl ⟨by rw [HF2.out]; rfl, hB9⟩
    simp only [five] at r0 r1 r2 r3 r4
    simp [results, Try.results45, go_sem, r0, r1, r2, r3, r4]
  | cons h r =>
  rw [List.length_cons] at hx hlen ⊢
  have hrl : r.length ≤ 20000 := by omega
  obtain ⟨ad, rfl⟩ := hx.some_of_pos (by omega)
  have hab := hx.blk ad rfl (by omega)
  have hh5 := alloc_new w2 (.cells zSt 78 (0, 0))
  have hb5 := (one_cells w2 zSt 78).1
  have hg05 := heap_lt hR
  replace hx := hx.below hb5
  replace hR := heap_below hb5 hR
  replace hB := below_trans hB hb5
  clear hb5
  have e0 : (w2.alloc (.cells zSt 78)).cell? ad = some (.string ⟨h.toArray⟩) := by
    have := hx.scell 0 (by omega)
    have e : ad.add 0 = ad := by unfold Addr.add; simp
    rw [e] at this
    exact this
  dsimp only at HF
  have hcm := hx.cm
  have hnc := hx.nc
  unfold maxLen at hcm
  go_upto_region 5 with fail
  generalize w2.alloc (.cells zSt 78) = w3 at *
  obtain ⟨g5, hg5⟩ : ∃ g, g = w2.heap.size := ⟨_, rfl⟩
  rw [← hg5] at hh5 hab hg05 ⊢
  clear hg5
  obtain ⟨⟨y0, y1, y2, y3, y4⟩, k0, k1, k2, k3, k4⟩ := five_cells hh5
  by_cases hp : h = wPow
  · rw [if_pos hp] at HF
    unfold wPow at hp
    subst hp
    by_cases hr0 : r.length = 0
    · rw [if_pos hr0] at HF
      obtain rfl : r = [] := List.eq_nil_of_length_eq_zero hr0
      obtain ⟨st, hst⟩ : ∃ st : StV, st = ⟨9, [], 0, 0, 0⟩ := ⟨_, rfl⟩
      rw [← hst] at HF
      have hh6 := set_heap (o := 0) hh5 (.int .i64 9)
      have hG := gb_set w3 g5 0 (.int .i64 9)
      have hsp : i64 st.p := by rw [hst]; unfold i64; dsimp only; omega
      have hsd : st.d.length ≤ 10000 := by rw [hst]; simp
      have hh7 : (w3.setCell ⟨g5, 0, none⟩ (.int .i64 9)).heap[g5]? = some (.cells (stA st) 78 (0, 0)) := by rw [hst]; exact hh6
      replace hR := gb_heap hG hR (by simp; omega)
      replace hB := below_gbw hG hB (by omega)
      clear hst hh5 hh6 hG KP HL hr0 hx
      have hh5 := hh7
      clear hh7
      go_upto_region 16 with fail
      generalize w3.setCell ⟨g5, 0, none⟩ (.int .i64 9) = w4 at *
      clear e0 y0 y1 y2 y3 y4 k0 k1 k2 k3 k4
      have KL := fun W => Lib.hid (line_any st W hsp (by omega))
      have KS := fun W => Lib.hid (step_any st W (by omega))
      obtain ⟨⟨y0, y1, y2, y3, y4⟩, -⟩ := five_cells hh5
      have HS : Hid (R = if lineS st = s ∧ stepOk st = true then (st, 0) else (st0, 6)) := HF.out
      clear HF hsp hsd
      by_cases hl : lineS st = s
      · rw [hl] at KL
        cases hk : stepOk st with
        | true =>
          have HF2 : Hid (R = (st, 0)) := by show _ = _; rw [HS.out, if_pos ⟨hl, hk⟩]
          rw [hk] at KS
          clear HS hl hk
          obtain ⟨sk, sd, sp, sa, sb⟩ := st
          dsimp only at y0 y1 y2 y3 y4
          go_wp2_with fail
          refine (KL _).out.mono ?_
          rintro e w6 ⟨rfl, hb⟩
          replace hR := heap_below hb hR
          replace hh5 := heap_below hb hh5
          replace hB := below_trans hB hb
          clear hb y0 y1 y2 y3 y4
          obtain ⟨⟨y0, y1, y2, y3, y4⟩, -⟩ := five_cells hh5
          dsimp only at y0 y1 y2 y3 y4
          go_wp2_with fail
          refine (KS _).out.mono ?_
          rintro e w7 ⟨rfl, hb⟩
          replace hR := heap_below hb hR
          replace hh5 := heap_below hb hh5
          replace hB := below_trans hB hb
          clear hb y0 y1 y2 y3 y4
          obtain ⟨⟨y0, y1, y2, y3, y4⟩, -⟩ := five_cells hh5
          dsimp only at y0 y1 y2 y3 y4
          obtain ⟨⟨z0, z1, z2, z3, z4⟩, f0, f1, f2, f3, f4⟩ := five_cells hR
          go_wp2_with fail
          have hh9 := five_heap hR (.int .i64 sk) (.string ⟨sd.toArray⟩) (.int .i64 sp) (.int .u64 (sa : Int)) (.int .u64 (sb : Int))
          have hB9 := below_gbw (five_gb w7 w.heap.size (.int .i64 sk) (.string ⟨sd.toArray⟩) (.int .i64 sp) (.int .u64 (sa : Int)) (.int .u64 (sb : Int))) hB (Nat.le_refl _)
          obtain ⟨⟨r0, r1, r2, r3, r4⟩, -⟩ := five_cells hh9
          refine bodyPost_ret (v := .tuple #[.agg (stA ⟨sk, sd, sp, sa, sb⟩), .int .i64 0]) ?_ rfl ⟨by rw [HF2.out]; rfl, hB9⟩
          simp only [five] at r0 r1 r2 r3 r4
          simp [results, Try.results45, go_sem, r0, r1, r2, r3, r4]
        | false =>
          have HF2 : Hid (R = (st0, 6)) := by show _ = _; rw [HS.out, if_neg (fun h => by rw [hk] at h; exact absurd h.2 (by simp))]
          rw [hk] at KS
          clear HS hl hk
          obtain ⟨sk, sd, sp, sa, sb⟩ := st
          dsimp only at y0 y1 y2 y3 y4
          go_wp2_with fail
          refine (KL _).out.mono ?_
          rintro e w6 ⟨rfl, hb⟩
          replace hR := heap_below hb hR
          replace hh5 := heap_below hb hh5
          replace hB := below_trans hB hb
          clear hb y0 y1 y2 y3 y4
          obtain ⟨⟨y0, y1, y2, y3, y4⟩, -⟩ := five_cells hh5
          dsimp only at y0 y1 y2 y3 y4
          go_wp2_with fail
          refine (KS _).out.mono ?_
          rintro e w7 ⟨rfl, hb⟩
          replace hR := heap_below hb hR
          replace hB := below_trans hB hb
          clear hb y0 y1 y2 y3 y4 hh5
          obtain ⟨⟨z0, z1, z2, z3, z4⟩, f0, f1, f2, f3, f4⟩ := five_cells hR
          go_wp2_with fail
          obtain ⟨hh9, hB9⟩ := HEND w7 hR hB
          obtain ⟨⟨r0, r1, r2, r3, r4⟩, -⟩ := five_cells hh9
          refine bodyPost_ret (v := .tuple #[.agg zSt, .int .i64 6]) ?_ rfl ⟨by rw [HF2.out]; rfl, hB9⟩
          simp only [five] at r0 r1 r2 r3 r4
          simp [results, Try.results45, go_sem, r0, r1, r2, r3, r4]
      · have HF2 : Hid (R = (st0, 6)) := by show _ = _; rw [HS.out, if_neg (fun h => hl h.1)]
        have hbe : (lineS st == s) = false := by simpa using hl
        clear HS hl KS
        generalize lineS st = ls at *
        obtain ⟨sk, sd, sp, sa, sb⟩ := st
        dsimp only at y0 y1 y2 y3 y4
        go_wp2_with fail
        refine (KL _).out.mono ?_
        rintro e w6 ⟨rfl, hb⟩
        replace hR := heap_below hb hR
        replace hB := below_trans hB hb
        clear hb y0 y1 y2 y3 y4 hh5
        obtain ⟨⟨z0, z1, z2, z3, z4⟩, f0, f1, f2, f3, f4⟩ := five_cells hR
        go_wp2_with fail
        obtain ⟨hh9, hB9⟩ := HEND w6 hR hB
        obtain ⟨⟨r0, r1, r2, r3, r4⟩, -⟩ := five_cells hh9
        refine bodyPost_ret (v := .tuple #[.agg zSt, .int .i64 6]) ?_ rfl ⟨by rw [HF2.out]; rfl, hB9⟩
        simp only [five] at r0 r1 r2 r3 r4
        simp [results, Try.results45, go_sem, r0, r1, r2, r3, r4]
    · rw [if_neg hr0] at HF
      have HF2 := HF
      have hn1 : ((r.length : Int) + 1 != 1) = true := by rw [bne_iff_ne]; omega
      clear HF KP HL hx
      obtain ⟨⟨z0, z1, z2, z3, z4⟩, f0, f1, f2, f3, f4⟩ := five_cells hR
      go_wp2_with fail
      obtain ⟨hh9, hB9⟩ := HEND w3 hR hB
      obtain ⟨⟨r0, r1, r2, r3, r4⟩, -⟩ := five_cells hh9
      refine bodyPost_ret (v := .tuple #[.agg zSt, .int .i64 17]) ?_ rfl ⟨by rw [HF2.out]; rfl, hB9⟩
      simp only [five] at r0 r1 r2 r3 r4
      simp [results, Try.results45, go_sem, r0, r1, r2, r3, r4]
  rw [if_neg hp] at HF
  have hb1 : (h == [112, 111, 119, 101, 114]) = false := by unfold wPow at hp; simpa using hp
  clear hp
  by_cases hi : h = wIng
  · rw [if_pos hi] at HF
    unfold wIng at hi
    subst hi
    by_cases hr0 : r.length = 2
    · rw [if_pos hr0] at HF
      obtain ⟨u, v, rfl⟩ : ∃ u v, r = [u, v] := by
        match r, hr0 with
        | [u, v], _ => exact ⟨u, v, rfl⟩
      have hul : u.length ≤ 20000 := Nat.le_trans (HL.out u (by simp)) hN
      have hvl : v.length ≤ 20000 := Nat.le_trans (HL.out v (by simp)) hN
      have K1 : ∀ W, Rd W (some ad) 3 c 1 (strs [[105, 110, 103, 101, 115, 116], u, v]) → Hid (Calls Try.prog 88 #[.slice (some ad) 3 c, .int .i64 1] W fun e w' => ∃ (A : Option Addr) (m k : Nat), e = .returned (.int .i64 (numF u)) ∧ True ∧ Below W.heap.size W w') := fun W h => Lib.hid ((tnum_any [[105, 110, 103, 101, 115, 116], u, v] 1 (some ad) 3 c W h (by omega) (by omega) (by simpa using Nat.le_trans hul (by omega))).mono (fun e w' h => ⟨none, 0, 0, h.1, trivial, h.2⟩))
      have K2 := fun W => Lib.hid (tbytes_any v W (by omega))
      have hbl := bytesW_len v
      have hnb := numF_bounds u
      unfold farN at hnb
      have q2 : w3.cell? ⟨ad.block, ad.off + 2, none⟩ = some (.string ⟨v.toArray⟩) := by
        have := hx.scell 2 (by simp)
        simpa [Addr.add] using this
      replace hx : Rd w3 (some ad) 3 c 1 (strs [[105, 110, 103, 101, 115, 116], u, v]) := hx
      obtain ⟨st, hst⟩ : ∃ st : StV, st = ⟨8, bytesW v, numF u, 0, 0⟩ := ⟨_, rfl⟩
      replace HF : Hid (R = stChk st s) := by rw [hst]; exact HF
      have hsp : i64 st.p := by rw [hst]; unfold i64; dsimp only; omega
      have hsd : st.d.length ≤ 10000 := by rw [hst]; dsimp only; omega
      have hz3 := hnc
      generalize bytesW v = bv at *
      generalize numF u = nu at *
      clear HL hr0 hul hvl hnb KP
      replace hx := hx.below ((Below.refl w3.heap.size w3).drew)
      replace hh5 := heap_below ((Below.refl w3.heap.size w3).drew) hh5
      replace hR := heap_below ((Below.refl w3.heap.size w3).drew) hR
      replace hB := below_trans hB ((Below.refl w3.heap.size w3).drew)
      replace q2 := cell_below ((Below.refl w3.heap.size w3).drew) q2
      have hne : some ad.block ≠ some g5 := by simp; omega
      go_upto_region 15 with fail
      clear e0 y0 y1 y2 y3 y4 k0 k1 k2 k3 k4
      refine wp_region_held (S := fun W => W.cell? ⟨ad.block, ad.off + 2, none⟩ = some (.string ⟨v.toArray⟩)) (by kernel_rfl) ?_
      change wpAnyH _ _ _ _ _ _ _ _ (w3).drew
      have hS : (fun W => W.cell? ⟨ad.block, ad.off + 2, none⟩ = some (.string ⟨v.toArray⟩)) (w3).drew := q2
      generalize (w3).drew = wd at hS hx hh5 hR hB ⊢
      refine wpAnyH_take (i := 0) (oi := { dst := some 43, op := Op.move (Operand.tmp 4), type := 91, pos := "tape.go:145", after := #[], guard := none }) (v := ?_) rfl (by kernel_rfl) (by kernel_rfl) (by kernel_rfl) (fun _ _ _ h => h) (Or.inl ⟨by rfl, ?_⟩) (by assumption) ?_
      rotate_left
      · (intro wS hS; go_simp <;> with_reducible rfl)
      try simp only [Act.put, List.setIfInBounds_toArray, List.set_cons_zero, List.set_cons_succ]
      refine wpAnyH_take (i := 2) (oi := { dst := some 45, op := Op.move (Operand.tmp 4), type := 91, pos := "tape.go:145", after := #[], guard := none }) (v := ?_) rfl (by kernel_rfl) (by kernel_rfl) (by kernel_rfl) (fun _ _ _ h => h) (Or.inl ⟨by rfl, ?_⟩) (by assumption) ?_
      rotate_left
      · (intro wS hS; go_simp <;> with_reducible rfl)
      try simp only [Act.put, List.setIfInBounds_toArray, List.set_cons_zero, List.set_cons_succ]
      refine wpAnyH_take (i := 3) (oi := { dst := some 46, op := Op.indexAddr 91 (Operand.tmp 45) (Operand.const (Value.int IntKind.i64 2)), type := 0, pos := "tape.go:145", after := #[{ on := 2, ground := Ground.data }], guard := none }) (v := ?_) rfl (by kernel_rfl) (by kernel_rfl) (by kernel_rfl) (fun _ _ _ h => h) (Or.inl ⟨by rfl, ?_⟩) (by assumption) ?_
      rotate_left
      · (intro wS hS; go_simp <;> with_reducible rfl)
      try simp only [Act.put, List.setIfInBounds_toArray, List.set_cons_zero, List.set_cons_succ]
      refine wpAnyH_take (i := 4) (oi := { dst := some 47, op := Op.load 9 (Operand.tmp 46), type := 9, pos := "tape.go:145", after := #[{ on := 3, ground := Ground.data }], guard := none }) (v := ?_) rfl (by kernel_rfl) (by kernel_rfl) (by kernel_rfl) (fun _ _ _ h => h) (Or.inl ⟨by rfl, ?_⟩) (by assumption) ?_
      rotate_left
      · (intro wS hS; have q0 := hS; go_simp <;> with_reducible rfl)
      try simp only [Act.put, List.setIfInBounds_toArray, List.set_cons_zero, List.set_cons_succ]
      refine wpAnyH_ready (rs := [1]) (by kernel_rfl) (by simp) ?_
      refine AllReadyH.cons (o := { dst := some 44, op := Op.call { callee := Callee.value (Operand.func 88), args := #[Operand.tmp 43, Operand.const (Value.int IntKind.i64 1)], argTypes := #[91, 3] }, type := 3, pos := "tape.go:145", after := #[{ on := 0, ground := Ground.data }], guard := none }) rfl (fun K hK => ?_) (AllReadyH.nil)
      have q0 := hS
      go_simp
      refine (K1 _ hx).out.mono ?_
      rintro e w101 ⟨A5, m5, c5, rfl, hr5, hb⟩
      replace hS : (fun W => W.cell? ⟨ad.block, ad.off + 2, none⟩ = some (.string ⟨v.toArray⟩)) w101 := cell_below hb hS
      replace hx := hx.below hb
      replace hh5 := heap_below hb hh5
      replace hR := heap_below hb hR
      replace hB := below_trans hB hb
      refine hK.out _ _ hS (fun _ => ?_)
      clear hK K hb
      try simp only [Act.put, List.setIfInBounds_toArray, List.set_cons_zero, List.set_cons_succ]
      refine wpAnyH_ready (rs := [5]) (by kernel_rfl) (by simp) ?_
      refine AllReadyH.cons (o := { dst := some 48, op := Op.call { callee := Callee.value (Operand.func 89), args := #[Operand.tmp 47], argTypes := #[9] }, type := 53, pos := "tape.go:145", after := #[{ on := 4, ground := Ground.data }, { on := 1, ground := Ground.chain }], guard := none }) rfl (fun K hK => ?_) (AllReadyH.nil)
      have q0 := hS
      go_simp
      refine (K2 _).out.mono ?_
      rintro e w105 ⟨A5, m5, c5, rfl, hr5, hb⟩
      replace hS : (fun W => W.cell? ⟨ad.block, ad.off + 2, none⟩ = some (.string ⟨v.toArray⟩)) w105 := cell_below hb hS
      replace hx := hx.below hb
      replace hh5 := heap_below hb hh5
      replace hR := heap_below hb hR
      replace hB := below_trans hB hb
      refine hK.out _ _ hS (fun _ => ?_)
      clear hK K hb
      try simp only [Act.put, List.setIfInBounds_toArray, List.set_cons_zero, List.set_cons_succ]
      refine wpAnyH_ready (rs := [6]) (by kernel_rfl) (by simp) ?_
      refine AllReadyH.cons (o := { dst := some 49, op := Op.convert 53 9 (Operand.tmp 48), type := 9, pos := "tape.go:145", after := #[{ on := 5, ground := Ground.data }], guard := none }) rfl (fun K hK => ?_) (AllReadyH.nil)
      have hstr := run_string_of (P := Try.prog) 53 9 5 Try.underlying53 Try.underlying5 Try.underlying9 hr5
      go_simp
      refine hK.out _ _ hS (fun _ => ?_)
      clear hK K hstr
      try simp only [Act.put, List.setIfInBounds_toArray, List.set_cons_zero, List.set_cons_succ]
      refine wpAnyH_take (i := 7) (oi := { dst := some 50, op := Op.build 78 #[(0, Operand.const (Value.int IntKind.i64 8)), (2, Operand.tmp 44), (1, Operand.tmp 49)], type := 78, pos := "tape.go:145", after := #[{ on := 1, ground := Ground.data }, { on := 6, ground := Ground.data }], guard := none }) (v := ?_) rfl (by kernel_rfl) (by kernel_rfl) (by kernel_rfl) (fun _ _ _ h => h) (Or.inl ⟨by rfl, ?_⟩) (by assumption) ?_
      rotate_left
      · (intro wS hS; go_simp <;> with_reducible rfl)
      try simp only [Act.put, List.setIfInBounds_toArray, List.set_cons_zero, List.set_cons_succ]
      refine wpAnyH_ready (rs := [8]) (by kernel_rfl) (by simp) ?_
      refine AllReadyH.cons (o := { dst := none, op := Op.store 78 (Operand.tmp 5) (Operand.tmp 50), type := 0, pos := "tape.go:145", after := #[{ on := 7, ground := Ground.data }, { on := 5, ground := Ground.chain }, { on := 0, ground := Ground.phase }, { on := 1, ground := Ground.phase }, { on := 2, ground := Ground.phase }, { on := 3, ground := Ground.phase }, { on := 4, ground := Ground.phase }, { on := 5, ground := Ground.phase }, { on := 6, ground := Ground.phase }, { on := 7, ground := Ground.phase }], guard := none }) rfl (fun K hK => ?_) (AllReadyH.nil)
      obtain ⟨⟨y0, y1, y2, y3, y4⟩, k0, k1, k2, k3, k4⟩ := five_cells hh5
      have hh6 := five_heap hh5 (.int .i64 8) (.string ⟨bv.toArray⟩) (.int .i64 nu) (.int .u64 0) (.int .u64 0)
      have hG := five_gb w105 g5 (.int .i64 8) (.string ⟨bv.toArray⟩) (.int .i64 nu) (.int .u64 0) (.int .u64 0)
      go_simp
      refine hK.out _ _ (World.grownBy.cell hG hS hne) (fun _ => ?_)
      clear hK K
      try simp only [Act.put, List.setIfInBounds_toArray, List.set_cons_zero, List.set_cons_succ]
      refine wpAnyH_done (by kernel_rfl) ?_ _
      replace hR := gb_heap hG hR (by simp; omega)
      replace hB := below_gbw hG hB (by omega)
      replace hh5 : (five w105 g5 (.int .i64 8) (.string ⟨bv.toArray⟩) (.int .i64 nu) (.int .u64 0) (.int .u64 0)).heap[g5]? = some (.cells (stA st) 78 (0, 0)) := by rw [hst]; exact hh6
      clear hst hh6 hG hS K1 K2 hx y0 y1 y2 y3 y4 k0 k1 k2 k3 k4
      go_upto_region 16 with fail
      dsimp only [five] at hR hB hh5
      generalize ((((w105.setCell ⟨g5, 0, none⟩ (.int .i64 8)).setCell ⟨g5, 1, none⟩ (.string ⟨bv.toArray⟩)).setCell ⟨g5, 2, none⟩ (.int .i64 nu)).setCell ⟨g5, 3, none⟩ (.int .u64 0)).setCell ⟨g5, 4, none⟩ (.int .u64 0) = w4 at *
      clear hbl hne hz3 hlen hrl hcm hnc hab hg05 q2 hr5
      have KL := fun W => Lib.hid (line_any st W hsp (by omega))
      have KS := fun W => Lib.hid (step_any st W (by omega))
      obtain ⟨⟨y0, y1, y2, y3, y4⟩, -⟩ := five_cells hh5
      have HS : Hid (R = if lineS st = s ∧ stepOk st = true then (st, 0) else (st0, 6)) := HF.out
      clear HF hsp hsd
      by_cases hl : lineS st = s
      · rw [hl] at KL
        cases hk : stepOk st with
        | true =>
          have HF2 : Hid (R = (st, 0)) := by show _ = _; rw [HS.out, if_pos ⟨hl, hk⟩]
          rw [hk] at KS
          clear HS hl hk
          obtain ⟨sk, sd, sp, sa, sb⟩ := st
          dsimp only at y0 y1 y2 y3 y4
          go_wp2_with fail
          refine (KL _).out.mono ?_
          rintro e w6 ⟨rfl, hb⟩
          replace hR := heap_below hb hR
          replace hh5 := heap_below hb hh5
          replace hB := below_trans hB hb
          clear hb y0 y1 y2 y3 y4
          obtain ⟨⟨y0, y1, y2, y3, y4⟩, -⟩ := five_cells hh5
          dsimp only at y0 y1 y2 y3 y4
          go_wp2_with fail
          refine (KS _).out.mono ?_
          rintro e w7 ⟨rfl, hb⟩
          replace hR := heap_below hb hR
          replace hh5 := heap_below hb hh5
          replace hB := below_trans hB hb
          clear hb y0 y1 y2 y3 y4
          obtain ⟨⟨y0, y1, y2, y3, y4⟩, -⟩ := five_cells hh5
          dsimp only at y0 y1 y2 y3 y4
          obtain ⟨⟨z0, z1, z2, z3, z4⟩, f0, f1, f2, f3, f4⟩ := five_cells hR
          go_wp2_with fail
          have hh9 := five_heap hR (.int .i64 sk) (.string ⟨sd.toArray⟩) (.int .i64 sp) (.int .u64 (sa : Int)) (.int .u64 (sb : Int))
          have hB9 := below_gbw (five_gb w7 w.heap.size (.int .i64 sk) (.string ⟨sd.toArray⟩) (.int .i64 sp) (.int .u64 (sa : Int)) (.int .u64 (sb : Int))) hB (Nat.le_refl _)
          obtain ⟨⟨r0, r1, r2, r3, r4⟩, -⟩ := five_cells hh9
          refine bodyPost_ret (v := .tuple #[.agg (stA ⟨sk, sd, sp, sa, sb⟩), .int .i64 0]) ?_ rfl ⟨by rw [HF2.out]; rfl, hB9⟩
          simp only [five] at r0 r1 r2 r3 r4
          simp [results, Try.results45, go_sem, r0, r1, r2, r3, r4]
        | false =>
          have HF2 : Hid (R = (st0, 6)) := by show _ = _; rw [HS.out, if_neg (fun h => by rw [hk] at h; exact absurd h.2 (by simp))]
          rw [hk] at KS
          clear HS hl hk
          obtain ⟨sk, sd, sp, sa, sb⟩ := st
          dsimp only at y0 y1 y2 y3 y4
          go_wp2_with fail
          refine (KL _).out.mono ?_
          rintro e w6 ⟨rfl, hb⟩
          replace hR := heap_below hb hR
          replace hh5 := heap_below hb hh5
          replace hB := below_trans hB hb
          clear hb y0 y1 y2 y3 y4
          obtain ⟨⟨y0, y1, y2, y3, y4⟩, -⟩ := five_cells hh5
          dsimp only at y0 y1 y2 y3 y4
          go_wp2_with fail
          refine (KS _).out.mono ?_
          rintro e w7 ⟨rfl, hb⟩
          replace hR := heap_below hb hR
          replace hB := below_trans hB hb
          clear hb y0 y1 y2 y3 y4 hh5
          obtain ⟨⟨z0, z1, z2, z3, z4⟩, f0, f1, f2, f3, f4⟩ := five_cells hR
          go_wp2_with fail
          obtain ⟨hh9, hB9⟩ := HEND w7 hR hB
          obtain ⟨⟨r0, r1, r2, r3, r4⟩, -⟩ := five_cells hh9
          refine bodyPost_ret (v := .tuple #[.agg zSt, .int .i64 6]) ?_ rfl ⟨by rw [HF2.out]; rfl, hB9⟩
          simp only [five] at r0 r1 r2 r3 r4
          simp [results, Try.results45, go_sem, r0, r1, r2, r3, r4]
      · have HF2 : Hid (R = (st0, 6)) := by show _ = _; rw [HS.out, if_neg (fun h => hl h.1)]
        have hbe : (lineS st == s) = false := by simpa using hl
        clear HS hl KS
        generalize lineS st = ls at *
        obtain ⟨sk, sd, sp, sa, sb⟩ := st
        dsimp only at y0 y1 y2 y3 y4
        go_wp2_with fail
        refine (KL _).out.mono ?_
        rintro e w6 ⟨rfl, hb⟩
        replace hR := heap_below hb hR
        replace hB := below_trans hB hb
        clear hb y0 y1 y2 y3 y4 hh5
        obtain ⟨⟨z0, z1, z2, z3, z4⟩, f0, f1, f2, f3, f4⟩ := five_cells hR
        go_wp2_with fail
        obtain ⟨hh9, hB9⟩ := HEND w6 hR hB
        obtain ⟨⟨r0, r1, r2, r3, r4⟩, -⟩ := five_cells hh9
        refine bodyPost_ret (v := .tuple #[.agg zSt, .int .i64 6]) ?_ rfl ⟨by rw [HF2.out]; rfl, hB9⟩
        simp only [five] at r0 r1 r2 r3 r4
        simp [results, Try.results45, go_sem, r0, r1, r2, r3, r4]
    · rw [if_neg hr0] at HF
      have HF2 := HF
      have hn1 : ((r.length : Int) + 1 != 3) = true := by rw [bne_iff_ne]; omega
      clear HF KP HL hx
      obtain ⟨⟨z0, z1, z2, z3, z4⟩, f0, f1, f2, f3, f4⟩ := five_cells hR
      go_wp2_with fail
      obtain ⟨hh9, hB9⟩ := HEND w3 hR hB
      obtain ⟨⟨r0, r1, r2, r3, r4⟩, -⟩ := five_cells hh9
      refine bodyPost_ret (v := .tuple #[.agg zSt, .int .i64 17]) ?_ rfl ⟨by rw [HF2.out]; rfl, hB9⟩
      simp only [five] at r0 r1 r2 r3 r4
      simp [results, Try.results45, go_sem, r0, r1, r2, r3, r4]
  · rw [if_neg hi] at HF
    have hb2 : (h == [105, 110, 103, 101, 115, 116]) = false := by unfold wIng at hi; simpa using hi
    clear hi HL hx
    generalize parseC s = pc at *
    obtain ⟨ck, ca, cb, ce⟩ := pc
    dsimp only at KP HF
    go_wp2_with fail
    refine (KP _).out.mono ?_
    rintro e w4 ⟨rfl, hb⟩
    replace hR := heap_below hb hR
    replace hB := below_trans hB hb
    clear hb KP e0 y0 y1 y2 y3 y4 k0 k1 k2 k3 k4 hh5
    obtain ⟨hb6, hca⟩ := one_cells w4 #[.int .i64 (ck : Int), .int .u64 (ca : Int), .int .u64 (cb : Int)] 24
    have p0 := hca 0 (.int .i64 (ck : Int)) rfl
    have p1 := hca 1 (.int .u64 (ca : Int)) rfl
    have p2 := hca 2 (.int .u64 (cb : Int)) rfl
    replace hR := heap_below hb6 hR
    replace hB := below_trans hB hb6
    clear hca hb6
    go_upto_region 7 with fail
    generalize w4.alloc (.cells #[.int .i64 (ck : Int), .int .u64 (ca : Int), .int .u64 (cb : Int)] 24) = w5 at *
    obtain ⟨⟨z0, z1, z2, z3, z4⟩, f0, f1, f2, f3, f4⟩ := five_cells hR
    go_wp2_with fail
    have hh9 := five_heap hR (.int .i64 (ck : Int)) (.string ⟨#[]⟩) (.int .i64 0) (.int .u64 (ca : Int)) (.int .u64 (cb : Int))
    have hB9 := below_gbw (five_gb w5 w.heap.size (.int .i64 (ck : Int)) (.string ⟨#[]⟩) (.int .i64 0) (.int .u64 (ca : Int)) (.int .u64 (cb : Int))) hB (Nat.le_refl _)
    obtain ⟨⟨r0, r1, r2, r3, r4⟩, -⟩ := five_cells hh9
    refine bodyPost_ret (v := .tuple #[.agg (stA ⟨(ck : Int), [], 0, ca, cb⟩), .int .i64 (ce : Int)]) ?_ rfl ⟨by rw [HF.out], hB9⟩
    simp only [five] at r0 r1 r2 r3 r4
    simp [results, Try.results45, go_sem, r0, r1, r2, r3, r4]
end Go.Proofs.Ytefipigdkdopcaa
