/- Layer 41 (tape): contract of Parse. No condition but lengths' bounds. -/
import Derived.Test.YtefipigdkdopcaaTap10
import Derived.WalkMore
namespace Go.Proofs.Ytefipigdkdopcaa
open Go.RowKit

structure PgT where
  at_ : Int
  n : Nat
  e : Nat
  sc : ScP
/-- Lines read one behind the other. -/
def parseGoT : List (List UInt8) → Nat → Int → ScP → PgT
  | [], _, at_, sc => ⟨at_, 0, 0, sc⟩
  | x :: r, i, at_, sc =>
    if wordsL x = [] then parseGoT r (i + 1) at_ sc
    else if (readF sc x at_).2.1 ≠ 0 then ⟨at_, i + 1, (readF sc x at_).2.1, sc⟩
    else parseGoT r (i + 1) (readF sc x at_).1 (readF sc x at_).2.2
def sc0 : ScP := ⟨0, 0, 0, [], [], []⟩
def prT (t : List UInt8) : PgT := parseGoT (linesL t) 0 (-1) sc0
theorem readF_len (sc : ScP) (t : List UInt8) (a : Int) : (readF sc t a).2.2.bl.length ≤ sc.bl.length + 1 ∧ (readF sc t a).2.2.fl.length ≤ sc.fl.length + 1 ∧ (readF sc t a).2.2.ss.length ≤ sc.ss.length + 1 := by
  unfold readF
  cases wordsL t with
  | nil => dsimp only; omega
  | cons h r =>
    dsimp only
    (repeat' split) <;> (dsimp only; try simp only [List.length_append, List.length_singleton]) <;> omega
theorem stChk_d (st : StV) (s : List UInt8) (k : Nat) (h : st.d.length ≤ k) : (stChk st s).1.d.length ≤ k := by
  unfold stChk
  split
  · exact h
  · simp [st0]
theorem stepF_d (s : List UInt8) : (stepF s).1.d.length ≤ s.length := by
  have hall : ∀ p ∈ wordsL s, p.length ≤ s.length := fun p hp => (split2_free 32 9 true s p hp).2.2
  unfold stepF
  cases hw : wordsL s with
  | nil => simp [st0]
  | cons h r =>
    rw [hw] at hall
    dsimp only
    split
    · split
      · exact stChk_d _ _ _ (by simp)
      · simp [st0]
    · split
      · split
        · rename_i h3
          refine stChk_d _ _ _ ?_
          dsimp only
          have h4 := bytesW_len (r.getD 1 [])
          have h5 : r.getD 1 [] ∈ r := by rw [List.getD_eq_getElem?_getD, List.getElem?_eq_getElem (by omega)]; exact List.getElem_mem _
          have h6 := hall _ (List.mem_cons_of_mem h h5)
          omega
        · simp [st0]
      · simp
theorem readF_d (sc : ScP) (t : List UInt8) (a : Int) : ∀ s ∈ (readF sc t a).2.2.ss, s ∈ sc.ss ∨ s.d.length ≤ t.length := by
  unfold readF
  cases wordsL t with
  | nil => exact fun s hs => .inl hs
  | cons h r =>
    dsimp only
    (repeat' split) <;> intro s hs <;> try exact .inl hs
    rcases List.mem_append.1 hs with hs | hs
    · exact .inl hs
    · rw [List.mem_singleton] at hs; subst hs; exact .inr (stepF_d t)
/-- A plain fault, as one in memory. -/
def ftM (p : Int × Int × List UInt8) : FtV := ⟨p.1, p.2.1, none, p.2.2.length, p.2.2.length, p.2.2⟩
def ScOkP (sc : ScP) : Prop := ScOk sc.x sc.y sc.z sc.bl (sc.fl.map ftM) sc.ss
theorem faultOk_ftM {f : FtV} (h : f.x.length = f.m) : faultOk (ftM (ftP f)) = faultOk f := by
  unfold faultOk ftM ftP
  dsimp only
  rw [h]
theorem scok_plain {x y z : Int} {bl : List Int} {fs : List FtV} {ss : List StV} (h : ∀ f ∈ fs, f.x.length = f.m) : ScOk x y z bl fs ss ↔ ScOkP ⟨x, y, z, bl, fs.map ftP, ss⟩ := by
  have e : (List.map ftM (List.map ftP fs)).all faultOk = fs.all faultOk := by
    rw [List.map_map, List.all_map]
    have : ∀ l : List FtV, (∀ f ∈ l, f.x.length = f.m) → l.all (faultOk ∘ (ftM ∘ ftP)) = l.all faultOk := by
      intro l
      induction l with
      | nil => intro _; rfl
      | cons a l ih =>
        intro hl
        rw [List.all_cons, List.all_cons, ih (fun f hf => hl f (by simp [hf]))]
        show (faultOk (ftM (ftP a)) && _) = _
        rw [faultOk_ftM (hl a (by simp))]
    exact this fs h
  unfold ScOkP
  dsimp only
  constructor
  · intro g; exact ⟨g.g, g.b1, g.b, by simpa using g.f1, by rw [e]; exact g.f, g.s1, g.s⟩
  · intro g; exact ⟨g.g, g.b1, g.b, by simpa using g.f1, by rw [← e]; exact g.f, g.s1, g.s⟩
abbrev zSc : Array Value := #[.int .i64 0, .int .i64 0, .int .i64 0, .slice none 0 0, .slice none 0 0, .slice none 0 0]
abbrev six (w : World) (g : Nat) (a b c d e f : Value) : World := (((((w.setCell ⟨g, 0, none⟩ a).setCell ⟨g, 1, none⟩ b).setCell ⟨g, 2, none⟩ c).setCell ⟨g, 3, none⟩ d).setCell ⟨g, 4, none⟩ e).setCell ⟨g, 5, none⟩ f
theorem six_heap {w : World} {g : Nat} {a0 b0 c0 d0 e0 f0 : Value} {t : TypeId} (h : w.heap[g]? = some (.cells #[a0, b0, c0, d0, e0, f0] t (0, 0))) (a b c d e f : Value) : (six w g a b c d e f).heap[g]? = some (.cells #[a, b, c, d, e, f] t (0, 0)) :=
  set_heap (o := 5) (set_heap (o := 4) (set_heap (o := 3) (set_heap (o := 2) (set_heap (o := 1) (set_heap (o := 0) h a) b) c) d) e) f
theorem six_gb (w : World) (g : Nat) (a b c d e f : Value) : w.grownBy (six w g a b c d e f) (some g) :=
  (((((gb_set _ _ _ _).trans (gb_set _ _ _ _)).trans (gb_set _ _ _ _)).trans (gb_set _ _ _ _)).trans (gb_set _ _ _ _)).trans (gb_set _ _ _ _)
theorem six_cells {w : World} {g : Nat} {a b c d e f : Value} {t : TypeId} (h : w.heap[g]? = some (.cells #[a, b, c, d, e, f] t (0, 0))) :
    (w.cell? ⟨g, 0, none⟩ = some a ∧ w.cell? ⟨g, 1, none⟩ = some b ∧ w.cell? ⟨g, 2, none⟩ = some c ∧ w.cell? ⟨g, 3, none⟩ = some d ∧ w.cell? ⟨g, 4, none⟩ = some e ∧ w.cell? ⟨g, 5, none⟩ = some f) ∧
    (w.frozen? ⟨g, 0, none⟩ = false ∧ w.frozen? ⟨g, 1, none⟩ = false ∧ w.frozen? ⟨g, 2, none⟩ = false ∧ w.frozen? ⟨g, 3, none⟩ = false ∧ w.frozen? ⟨g, 4, none⟩ = false ∧ w.frozen? ⟨g, 5, none⟩ = false) :=
  ⟨⟨cell_heap h, cell_heap h, cell_heap h, cell_heap h, cell_heap h, cell_heap h⟩, frozen_heap h, frozen_heap h, frozen_heap h, frozen_heap h, frozen_heap h, frozen_heap h⟩
/-- The error at the end, if lines were read. -/
def endE (G : PgT) : Nat × Nat := if G.e ≠ 0 then (G.n, G.e) else if G.at_ < 0 then (0, 5) else (0, 3)
def okT (G : PgT) : Prop := G.e = 0 ∧ ¬ G.at_ < 0 ∧ ScOkP G.sc
def ptPost (w : World) (G : PgT) (e : Ending) (w' : World) : Prop :=
  Below w.heap.size w w' ∧ (okT G → ∃ fs B b2 F f2 S s2, e = .returned (.tuple #[.agg (scA G.sc.x G.sc.y G.sc.z B G.sc.bl.length b2 F fs.length f2 S G.sc.ss.length s2), .int .i64 0, .int .i64 0]) ∧ Sc3 w' G.sc.bl fs G.sc.ss B G.sc.bl.length b2 F fs.length f2 S G.sc.ss.length s2 ∧ AllFt w' fs ∧ fs.map ftP = G.sc.fl)
    ∧ (¬ okT G → e = .returned (.tuple #[.agg zSc, .int .i64 (endE G).1, .int .i64 (endE G).2]))
theorem parseGoT_drop (l : List (List UInt8)) (j : Nat) (at_ : Int) (sc : ScP) (h : j < l.length) : parseGoT (l.drop j) j at_ sc = if wordsL (l.getD j []) = [] then parseGoT (l.drop (j + 1)) (j + 1) at_ sc else if (readF sc (l.getD j []) at_).2.1 ≠ 0 then ⟨at_, j + 1, (readF sc (l.getD j []) at_).2.1, sc⟩ else parseGoT (l.drop (j + 1)) (j + 1) (readF sc (l.getD j []) at_).1 (readF sc (l.getD j []) at_).2.2 := by
  rw [List.drop_eq_getElem_cons h, parseGoT, List.getD_eq_getElem?_getD, List.getElem?_eq_getElem h]
  rfl

set_option maxRecDepth 100000 in
set_option maxHeartbeats 8000000 in
theorem tparse_any (t : List UInt8) (w : World) (hN : t.length ≤ 900000) (hlines : ∀ p ∈ linesL t, p.length ≤ 20000) : Calls Try.prog 38 #[.string ⟨t.toArray⟩] w fun e w' => ptPost w (prT t) e w' := by
  have KL := fun W => Lib.hid (lines_any t W (by omega))
  have hlen : (linesL t).length ≤ t.length + 1 := split2_length 10 10 false t
  have HG : Hid (prT t = parseGoT ((linesL t).drop 0) 0 (-1) sc0) := rfl
  have HL := Lib.hid hlines
  generalize prT t = G at *
  generalize linesL t = ls at *
  have hln : ls.length ≤ 900001 := by omega
  clear hlines hlen
  have hz0 := alloc_new w (.cells zSc 69 (0, 0))
  have hb0 := (one_cells w zSc 69).1
  have hs0 := alloc_new (w.alloc (.cells zSc 69)) (.cells zSc 69 (0, 0))
  have hb1 := (one_cells (w.alloc (.cells zSc 69)) zSc 69).1
  rw [alloc_size] at hs0
  replace hz0 := heap_below hb1 hz0
  have hB := below_trans hb0 hb1
  clear hb0 hb1
  go_enter Try.func38, Try.ntmps38
  go_wp2_with fail
  go_step3
  go_wp2_with fail
  go_step3
  go_wp2_with fail
  generalize (w.alloc (.cells zSc 69)).alloc (.cells zSc 69) = w1 at *
  refine (KL _).out.mono ?_
  rintro e w2 ⟨v, rfl, ho, hb⟩
  have hsz := heap_lt hs0
  obtain ⟨A, c, rfl, hx, hAb⟩ := Rd.of_own ho
  have hlt2 : ∀ ad, A = some ad → ad.block < w2.heap.size := fun ad e => by
    rcases ho.2 with ⟨h1, -⟩ | ⟨k, cap, cur, h1, -, hk, -⟩
    · simp only [Value.slice.injEq] at h1
      rw [h1.1] at e; cases e
    · simp only [Value.slice.injEq] at h1
      rw [h1.1] at e; cases e; exact heap_lt hk
  replace hz0 := heap_below hb hz0
  replace hs0 := heap_below hb hs0
  replace hB := below_trans hB hb
  have hsz2 := heap_lt hs0
  clear hb ho KL
  have hcm := hx.cm
  have hnc := hx.nc
  unfold maxLen at hcm
  obtain ⟨Kp, hKp⟩ : ∃ Kp : World → Prop, Kp = fun W => W.heap[w.heap.size]? = some (.cells zSc 69 (0, 0)) ∧ RdS W A ls.length c ls := ⟨_, rfl⟩
  have HK : Hid (∀ W, Kp W → W.heap[w.heap.size]? = some (.cells zSc 69 (0, 0)) ∧ RdS W A ls.length c ls) := fun W h => by rw [hKp] at h; exact h
  have hT0 : TSt w w2.heap.size (w.heap.size + 1) Kp 0 0 0 [] [] [] (.slice none 0 0) (.slice none 0 0) (.slice none 0 0) w2 :=
    ⟨hs0, by rw [hKp]; exact ⟨hz0, hx⟩, fun u u' row h1 h2 h3 => by
      rw [hKp] at h1 ⊢
      have key : ∀ k, k < w2.heap.size → k ≠ w.heap.size + 1 → some k ≠ row := fun k h4 h5 e => by
        rcases h3 k e.symm with h6 | h6 <;> omega
      refine ⟨gb_heap h2 h1.1 (key _ (by omega) (by omega)), h1.2.kept h2 (fun ad e => key _ (hlt2 ad e) (by have := hAb ad e; omega))⟩,
      World.ownsRow_nil _ _ _ _, World.ownsRow_nil _ _ _ _, World.ownsRow_nil _ _ _ _, fun f hf => (by cases hf), Nat.le_refl _, hB⟩
  have hP : TPl w w2.heap.size (w.heap.size + 1) := ⟨hsz2, by omega, by omega⟩
  clear hKp hlt2 hAb hz0 hs0 hx hB
  go_wp2_with fail
  go_loopw [6, 15] (fun av i wr => ∃ (j : Nat) (at_ : Int) (x y z : Int) (bl : List Int) (fs : List FtV) (ss : List StV) (vb vf vs : Value), av = .int .i64 at_ ∧ i = .int .i64 j ∧ j ≤ ls.length ∧ TSt w w2.heap.size (w.heap.size + 1) Kp x y z bl fs ss vb vf vs wr ∧ Hid (G = parseGoT (ls.drop j) j at_ ⟨x, y, z, bl, fs.map ftP, ss⟩) ∧ bl.length ≤ j ∧ fs.length ≤ j ∧ ss.length ≤ j ∧ Hid (∀ s ∈ ss, s.d.length ≤ 20000)) (fun _ i _ => ls.length - (intOf i).toNat)
  case atStart => exact ⟨0, -1, 0, 0, 0, [], [], [], _, _, _, rfl, rfl, by omega, hT0, HG, by simp, by simp, by simp, Lib.hid (by simp)⟩
  case round =>
    clear hT0 HG
    obtain ⟨j, at_, x, y, z, bl, fs, ss, vb, vf, vs, rfl, rfl, hj, hT, HG, hl1, hl2, hl3, HSd⟩ := hrel
    by_cases hlt : j < ls.length
    · obtain ⟨-, hx⟩ := HK.out _ hT.hz
      obtain ⟨ad, rfl⟩ := hx.some_of_pos (by omega)
      have e0 := hx.scell j hlt
      have HG2 := HG.out
      rw [parseGoT_drop ls j at_ _ hlt] at HG2
      have hp : ls.getD j [] ∈ ls := by rw [List.getD_eq_getElem?_getD, List.getElem?_eq_getElem hlt]; exact List.getElem_mem _
      have hpl := HL.out _ hp
      have hq1 : (j : Int) < ls.length := by omega
      clear HG hp hx
      generalize ls.getD j [] = p at *
      have KW := fun W => Lib.hid (words_rd p W (by omega))
      by_cases hw : wordsL p = []
      · rw [if_pos hw] at HG2
        have HG3 := Lib.hid HG2
        rw [hw] at KW
        clear HG2 hw
        go_wp2_with fail
        refine (KW _).out.mono ?_
        rintro e w4 ⟨A4, c4, rfl, -, hb⟩
        replace hT := hT.kept hb
        clear hb KW e0
        go_wp2_with fail
        go_roundw
        case rel => exact ⟨j + 1, at_, x, y, z, bl, fs, ss, vb, vf, vs, rfl, by go_num, by omega, hT, HG3, by omega, by omega, by omega, HSd⟩
        case measure => simp [intOf]; omega
      · rw [if_neg hw] at HG2
        have hwl : ((wordsL p).length : Int) ≠ 0 := by
          have : (wordsL p).length ≠ 0 := fun h => hw (List.eq_nil_of_length_eq_zero h)
          omega
        have hwl2 : (((wordsL p).length : Int) == 0) = false := by rw [beq_eq_false_iff_ne]; exact hwl
        have KR := fun W h => Lib.hid (read_any w w2.heap.size (w.heap.size + 1) Kp x y z bl fs ss vb vf vs W h hP p at_ hpl hw (by omega))
        generalize hRF : readF ⟨x, y, z, bl, fs.map ftP, ss⟩ p at_ = R at *
        have HRL : Hid (R.2.2.bl.length ≤ bl.length + 1 ∧ R.2.2.fl.length ≤ fs.length + 1 ∧ R.2.2.ss.length ≤ ss.length + 1) := by
          have := readF_len ⟨x, y, z, bl, fs.map ftP, ss⟩ p at_
          rw [hRF] at this
          exact ⟨this.1, by simpa using this.2.1, this.2.2⟩
        have HRD : Hid (∀ s ∈ R.2.2.ss, s ∈ ss ∨ s.d.length ≤ p.length) := by
          have := readF_d ⟨x, y, z, bl, fs.map ftP, ss⟩ p at_
          rw [hRF] at this
          exact this
        unfold rdPost at KR
        obtain ⟨k, er, ⟨x', y', z', bl', fl', ss'⟩⟩ := R
        dsimp only at KR HG2 HRL HRD
        have HG3 := Lib.hid HG2
        have HRL2 := Lib.hid HRL.out
        clear HG2 hw hwl hRF HRL
        generalize wordsL p = wl at *
        go_wp2_with fail
        refine (KW _).out.mono ?_
        rintro e w4 ⟨A4, c4, rfl, -, hb⟩
        replace hT := hT.kept hb
        clear hb KW e0
        go_wp2_with fail
        refine (KR _ hT).out.mono ?_
        rintro e w5 ⟨rfl, fs', vb', vf', vs', hT5, hfl⟩
        clear KR hT
        by_cases he : er = 0
        · subst he
          have HG4 : Hid (G = parseGoT (ls.drop (j + 1)) (j + 1) k ⟨x', y', z', bl', fs'.map ftP, ss'⟩) := by show _ = _; rw [HG3.out, if_neg (by simp), hfl]
          have HF5 : Hid (fs'.length ≤ j + 1) := by
            have h1 := congrArg List.length hfl
            rw [List.length_map] at h1
            have := HRL2.out
            show _ ≤ _
            omega
          have HSd2 : Hid (∀ s ∈ ss', s.d.length ≤ 20000) := fun s hs => by
            rcases HRD.out s hs with h | h
            · exact HSd.out s h
            · omega
          clear HG3 hfl HRD HSd
          go_wp2_with fail
          go_roundw
          case rel => exact ⟨j + 1, k, x', y', z', bl', fs', ss', vb', vf', vs', rfl, by go_num, by omega, hT5, HG4, by have := HRL2.out; omega, HF5.out, by have := HRL2.out; omega, HSd2⟩
          case measure => simp [intOf]; omega
        · have HG4 : Hid (G = ⟨at_, j + 1, er, ⟨x, y, z, bl, fs.map ftP, ss⟩⟩) := by show _ = _; rw [HG3.out, if_pos he]
          have hee : ((er : Int) != 0) = true := by rw [bne_iff_ne]; omega
          obtain ⟨hz5, -⟩ := HK.out _ hT5.hz
          have hB5 := hT5.bel
          obtain ⟨⟨z0, z1, z2, z3, z4, z5⟩, f0, f1, f2, f3, f4, f5⟩ := six_cells hz5
          clear HG3 hfl HRL2 hT5
          go_wp2_with fail
          have hh9 := six_heap hz5 (.int .i64 0) (.int .i64 0) (.int .i64 0) (.slice none 0 0) (.slice none 0 0) (.slice none 0 0)
          have hB9 := below_gbw (six_gb w5 w.heap.size (.int .i64 0) (.int .i64 0) (.int .i64 0) (.slice none 0 0) (.slice none 0 0) (.slice none 0 0)) hB5 (Nat.le_refl _)
          obtain ⟨⟨r0, r1, r2, r3, r4, r5⟩, -⟩ := six_cells hh9
          have hnok : ¬ okT G := fun h => he (by have := h.1; rw [HG4.out] at this; exact this)
          have hend : endE G = (j + 1, er) := by unfold endE; rw [HG4.out]; rw [if_pos he]
          rw [Exit.noGoto_ret]
          refine bodyPost_ret (v := .tuple #[.agg zSc, .int .i64 (((j + 1 : Nat)) : Int), .int .i64 (er : Int)]) ?_ rfl ⟨hB9, fun h => absurd h hnok, fun _ => by rw [hend]⟩
          simp only [six] at r0 r1 r2 r3 r4 r5
          simp [results, Try.results38, go_sem, r0, r1, r2, r3, r4, r5]
    · obtain rfl : j = ls.length := by omega
      have hjn : ¬ (ls.length : Int) < (ls.length : Int) := by omega
      have HG2 := HG.out
      rw [List.drop_length, parseGoT] at HG2
      have HG3 := Lib.hid HG2
      clear HG HG2 HL
      obtain ⟨hz5, -⟩ := HK.out _ hT.hz
      obtain ⟨⟨z0, z1, z2, z3, z4, z5⟩, f0, f1, f2, f3, f4, f5⟩ := six_cells hz5
      have hh9 := six_heap hz5 (.int .i64 0) (.int .i64 0) (.int .i64 0) (.slice none 0 0) (.slice none 0 0) (.slice none 0 0)
      have hB9 := below_gbw (six_gb wr w.heap.size (.int .i64 0) (.int .i64 0) (.int .i64 0) (.slice none 0 0) (.slice none 0 0) (.slice none 0 0)) hT.bel (Nat.le_refl _)
      by_cases hat : at_ < 0
      · have hd : decide (at_ < 0) = true := by rw [decide_eq_true_iff]; exact hat
        have hnok : Hid (¬ okT G) := fun h => h.2.1 (by rw [HG3.out]; exact hat)
        have hend : Hid (endE G = (0, 5)) := by show _ = _; unfold endE; rw [HG3.out]; rw [if_neg (by simp), if_pos hat]
        clear HG3 hT HK
        go_wp2_with fail
        obtain ⟨⟨r0, r1, r2, r3, r4, r5⟩, -⟩ := six_cells hh9
        try rw [Exit.noGoto_ret]
        refine bodyPost_ret (v := .tuple #[.agg zSc, .int .i64 0, .int .i64 5]) ?_ rfl ⟨hB9, fun h => absurd h hnok.out, fun _ => by rw [hend.out]; rfl⟩
        simp only [six] at r0 r1 r2 r3 r4 r5
        simp [results, Try.results38, go_sem, r0, r1, r2, r3, r4, r5]
      · have hd : decide (at_ < 0) = false := by rw [decide_eq_false_iff_not]; exact hat
        clear hh9 hB9
        obtain ⟨A1, k1, rfl, hr1, -⟩ := Rd.of_own hT.ob
        obtain ⟨A2, k2, rfl, hr2, -⟩ := Rd.of_own hT.of
        obtain ⟨A3, k3, rfl, hr3, -⟩ := Rd.of_own hT.os
        obtain ⟨⟨y0, y1, y2, y3, y4, y5⟩, -⟩ := six_cells hT.hs
        have hlm : ∀ f ∈ fs, f.x.length = f.m := fun f hf => ((Rd.of_own' (hT.om f hf)).2).symm
        have KC := Lib.hid (tcheck_any x y z bl fs ss A1 _ k1 A2 _ k2 A3 _ k3 wr ⟨hr1, hr2, hr3⟩ ⟨by omega, by omega, by omega⟩ (fun s hs => by have := HSd.out s hs; omega))
        have hoi := scok_plain (x := x) (y := y) (z := z) (bl := bl) (ss := ss) hlm
        clear hr1 hr2 hr3 hlm HSd
        by_cases hok : ScOk x y z bl fs ss
        · have hokT : Hid (okT G) := by rw [HG3.out]; exact ⟨rfl, hat, hoi.1 hok⟩
          rw [scE_zero.2 hok] at KC
          clear hoi hok hat
          go_wp2_with fail
          refine KC.out.mono ?_
          rintro e w5 ⟨rfl, hb⟩
          have hT5 := hT.kept hb
          clear hT hb KC y0 y1 y2 y3 y4 y5 z0 z1 z2 z3 z4 z5 f0 f1 f2 f3 f4 f5 hz5
          obtain ⟨hz5, -⟩ := HK.out _ hT5.hz
          obtain ⟨⟨z0, z1, z2, z3, z4, z5⟩, f0, f1, f2, f3, f4, f5⟩ := six_cells hz5
          obtain ⟨⟨y0, y1, y2, y3, y4, y5⟩, -⟩ := six_cells hT5.hs
          go_wp2_with fail
          have hG6 := six_gb w5 w.heap.size (.int .i64 x) (.int .i64 y) (.int .i64 z) (.slice A1 bl.length k1) (.slice A2 fs.length k2) (.slice A3 ss.length k3)
          have hh9 := six_heap hz5 (.int .i64 x) (.int .i64 y) (.int .i64 z) (.slice A1 bl.length k1) (.slice A2 fs.length k2) (.slice A3 ss.length k3)
          have hB9 := below_gbw hG6 hT5.bel (Nat.le_refl _)
          have o1 := (Rd.of_own' (hT5.ob.kept hG6 (own_ne hT5.ob (by omega)))).1
          have o2 := (Rd.of_own' (hT5.of.kept hG6 (own_ne hT5.of (by omega)))).1
          have o3 := (Rd.of_own' (hT5.os.kept hG6 (own_ne hT5.os (by omega)))).1
          have o4 : AllFt (six w5 w.heap.size (.int .i64 x) (.int .i64 y) (.int .i64 z) (.slice A1 bl.length k1) (.slice A2 fs.length k2) (.slice A3 ss.length k3)) fs := fun f hf => by
            obtain ⟨q1, q2⟩ := Rd.of_own' ((hT5.om f hf).kept hG6 (own_ne (hT5.om f hf) (by omega)))
            rw [q2]; exact q1
          obtain ⟨⟨r0, r1, r2, r3, r4, r5⟩, -⟩ := six_cells hh9
          try rw [Exit.noGoto_ret]
          refine bodyPost_ret (v := .tuple #[.agg (scA x y z A1 bl.length k1 A2 fs.length k2 A3 ss.length k3), .int .i64 0, .int .i64 0]) ?_ rfl ⟨hB9, fun _ => ?_, fun h => absurd hokT.out h⟩
          · simp only [six] at r0 r1 r2 r3 r4 r5
            simp [results, Try.results38, go_sem, r0, r1, r2, r3, r4, r5]
          · rw [HG3.out]
            exact ⟨fs, A1, k1, A2, k2, A3, k3, rfl, ⟨o1, o2, o3⟩, o4, rfl⟩
        · have hnok : Hid (¬ okT G) := fun h => hok (hoi.2 (by have := h.2.2; rw [HG3.out] at this; exact this))
          have hend : Hid (endE G = (0, 3)) := by show _ = _; unfold endE; rw [HG3.out]; rw [if_neg (by simp), if_neg hat]
          rw [scE_three hok] at KC
          clear hoi hok hat HG3
          go_wp2_with fail
          refine KC.out.mono ?_
          rintro e w5 ⟨rfl, hb⟩
          have hT5 := hT.kept hb
          clear hT hb KC y0 y1 y2 y3 y4 y5 z0 z1 z2 z3 z4 z5 f0 f1 f2 f3 f4 f5 hz5
          obtain ⟨hz5, -⟩ := HK.out _ hT5.hz
          obtain ⟨⟨z0, z1, z2, z3, z4, z5⟩, f0, f1, f2, f3, f4, f5⟩ := six_cells hz5
          go_wp2_with fail
          have hh9 := six_heap hz5 (.int .i64 0) (.int .i64 0) (.int .i64 0) (.slice none 0 0) (.slice none 0 0) (.slice none 0 0)
          have hB9 := below_gbw (six_gb w5 w.heap.size (.int .i64 0) (.int .i64 0) (.int .i64 0) (.slice none 0 0) (.slice none 0 0) (.slice none 0 0)) hT5.bel (Nat.le_refl _)
          obtain ⟨⟨r0, r1, r2, r3, r4, r5⟩, -⟩ := six_cells hh9
          try rw [Exit.noGoto_ret]
          refine bodyPost_ret (v := .tuple #[.agg zSc, .int .i64 0, .int .i64 3]) ?_ rfl ⟨hB9, fun h => absurd h hnok.out, fun _ => by rw [hend.out]; rfl⟩
          simp only [six] at r0 r1 r2 r3 r4 r5
          simp [results, Try.results38, go_sem, r0, r1, r2, r3, r4, r5]
end Go.Proofs.Ytefipigdkdopcaa
