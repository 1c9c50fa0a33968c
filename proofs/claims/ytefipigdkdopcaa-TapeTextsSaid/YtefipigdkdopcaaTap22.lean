/- Layer 41: a script's text read is that script; contract of the law's Light; a script that came in, as cells. No condition but lengths' bounds. -/
import Derived.Test.YtefipigdkdopcaaTap21
import Derived.Test.YtefipigdkdopcaaOpen
namespace Go.Proofs.Ytefipigdkdopcaa
open Go.RowKit

theorem lines_glue : ∀ (ws : List (List UInt8)), (∀ p ∈ ws, ∀ d ∈ p, d ≠ 10) → linesL (glue ws) = ws
  | [], _ => rfl
  | p :: ws, h => by
    have e : glue (p :: ws) = p ++ 10 :: glue ws := by unfold glue; rw [List.flatMap_cons]; simp
    show split2 10 10 false _ = _
    rw [e, split2_cons _ _ _ _ _ _ (fun d hd => ⟨h p (by simp) d hd, h p (by simp) d hd⟩) (.inl rfl), if_pos (.inr rfl)]
    congr 1
    exact lines_glue ws (fun q hq => h q (by simp [hq]))
def Free (l : List UInt8) : Prop := ∀ d ∈ l, d ≠ 10
theorem Free.append {a b : List UInt8} (ha : Free a) (hb : Free b) : Free (a ++ b) := fun d hd => by
  rcases List.mem_append.1 hd with h | h
  · exact ha d h
  · exact hb d h
theorem free_digI (n : Int) : Free (digI n) := fun d hd => ((digI_free n).1 d hd).2.2
theorem free_hexW (x : List UInt8) : Free (hexW x) := fun d hd => ((hexW_free x).1 d hd).2.2
theorem free_sp : Free [32] := by unfold Free; decide
theorem free_first (x y z : Int) : Free (firstS x y z) := by
  unfold firstS
  exact (((((Free.append (by unfold Free; decide) (free_digI x)).append free_sp).append (free_digI y)).append free_sp).append (free_digI z))
theorem free_bad (b : Int) : Free (badS b) := Free.append (by unfold Free; decide) (free_digI b)
theorem free_harm (t k : Int) (d : List UInt8) : Free (harmS t k d) := by
  unfold harmS
  refine (((Free.append ?_ (free_digI t)).append free_sp).append (free_hexW d))
  unfold harmW
  split <;> (unfold Free; decide)
theorem free_digs (n : Nat) : Free (digs n) := fun d hd => (digs_noline n d hd).1
theorem free_textK {k : Int} (hk : 1 ≤ k ∧ k ≤ 7) (a b : Nat) : Free (textK k a b) := by
  have hw : Free (wordK k) := fun d hd => ((wordK_free hk).1 d hd).2
  have hm := manyK_le k
  unfold textK
  rcases (by omega : manyK k = 0 ∨ manyK k = 1 ∨ manyK k = 2) with e | e | e <;> rw [e]
  · exact hw
  · show Free (wordK k ++ 32 :: digs a)
    exact hw.append (Free.append free_sp (free_digs a))
  · show Free ((wordK k ++ 32 :: digs a) ++ 32 :: digs b)
    exact (hw.append (Free.append free_sp (free_digs a))).append (Free.append free_sp (free_digs b))
theorem free_line {s : StV} (h : stepOk s = true) : Free (lineS s) := by
  unfold lineS
  split
  · exact ((Free.append (by unfold Free; decide) (free_digI s.p)).append free_sp).append (free_hexW s.d)
  · split
    · unfold Free; decide
    · split
      · rename_i hc
        exact free_textK (check_zero hc).1 _ _
      · unfold Free; simp
theorem words2 {a b : List UInt8} (ha : ∀ d ∈ a, d ≠ 32 ∧ d ≠ 9) (hb : ∀ d ∈ b, d ≠ 32 ∧ d ≠ 9) (h1 : a ≠ []) (h2 : b ≠ []) : wordsL (a ++ [32] ++ b) = [a, b] := by
  unfold wordsL
  rw [show a ++ [32] ++ b = a ++ 32 :: b by simp]
  rw [split2_cons _ _ _ _ _ _ ha (.inl rfl), if_pos (.inl h1), split2_one _ _ _ _ hb h2]
theorem words_first (x y z : Int) : wordsL (firstS x y z) = [wGeom, digI x, digI y, digI z] := by
  have hx := digI_free x
  have hy := digI_free y
  have hz := digI_free z
  unfold wordsL
  rw [show firstS x y z = wGeom ++ 32 :: (digI x ++ 32 :: (digI y ++ 32 :: digI z)) by unfold firstS wGeom; simp]
  rw [split2_cons _ _ _ _ _ _ (by decide) (.inl rfl), if_pos (.inl (by decide)), split2_cons _ _ _ _ _ _ (blank hx.1) (.inl rfl), if_pos (.inl hx.2), split2_cons _ _ _ _ _ _ (blank hy.1) (.inl rfl), if_pos (.inl hy.2), split2_one _ _ _ _ (blank hz.1) hz.2]
theorem words_bad (b : Int) : wordsL (badS b) = [wBad, digI b] :=
  words2 (a := wBad) (b := digI b) (by decide) (blank (digI_free b).1) (by decide) (digI_free b).2
theorem words_harm1 (t : Int) (d : List UInt8) : wordsL (harmS t 1 d) = [wFail, digI t, hexW d] :=
  words3 (a := wFail) (b := digI t) (c := hexW d) (by decide) (blank (digI_free t).1) (blank (hexW_free d).1) (by decide) (digI_free t).2 (hexW_free d).2
theorem words_harm2 (t : Int) (d : List UInt8) : wordsL (harmS t 2 d) = [wCut, digI t, hexW d] :=
  words3 (a := wCut) (b := digI t) (c := hexW d) (by decide) (blank (digI_free t).1) (blank (hexW_free d).1) (by decide) (digI_free t).2 (hexW_free d).2
theorem words_line {s : StV} (h : stepOk s = true) : ∃ a r, wordsL (lineS s) = a :: r ∧ a ≠ wGeom ∧ a ≠ wBad ∧ a ≠ wFail ∧ a ≠ wCut := by
  unfold stepOk at h
  by_cases h8 : s.k = 8
  · refine ⟨wIng, [digI s.p, hexW s.d], ?_, by decide, by decide, by decide, by decide⟩
    unfold lineS
    rw [if_pos h8]
    exact words_ing s.p s.d
  rw [if_neg h8] at h
  by_cases h9 : s.k = 9
  · refine ⟨wPow, [], ?_, by decide, by decide, by decide, by decide⟩
    unfold lineS
    rw [if_neg h8, if_pos h9]
    exact w_pow
  rw [if_neg h9, decide_eq_true_iff] at h
  have hk := (check_zero h.2.2).1
  refine ⟨wordK s.k, [digs s.a, digs s.b].take (manyK s.k), ?_, ?_⟩
  · unfold lineS
    rw [if_neg h8, if_neg h9, if_pos h.2.2]
    exact words_textK hk _ _
  · generalize s.k = k at hk
    rcases (by omega : k = 1 ∨ k = 2 ∨ k = 3 ∨ k = 4 ∨ k = 5 ∨ k = 6 ∨ k = 7) with rfl | rfl | rfl | rfl | rfl | rfl | rfl <;> decide
theorem rd_first {x y z : Int} (h : geomOk x y z = true) : readF sc0 (firstS x y z) (-1) = (0, 0, ⟨x, y, z, [], [], []⟩) := by
  unfold geomOk at h
  rw [decide_eq_true_iff] at h
  rw [readF_eq, words_first]
  dsimp only
  rw [if_pos rfl, if_neg (by simp)]
  have e : numF (([digI x, digI y, digI z] : List (List UInt8)).getD 0 []) = x ∧ numF (([digI x, digI y, digI z] : List (List UInt8)).getD 1 []) = y ∧ numF (([digI x, digI y, digI z] : List (List UInt8)).getD 2 []) = z :=
    ⟨(numF_digI (by omega) (by omega)).1, (numF_digI (by omega) (by omega)).1, (numF_digI (by omega) (by omega)).1⟩
  rw [e.1, e.2.1, e.2.2, if_pos rfl, if_pos rfl]
  rfl
theorem rd_bad {b : Int} (h : badOk b = true) (sc : ScP) (a : Int) (ha : 0 ≤ a ∧ a ≤ 1) : readF sc (badS b) a = (1, 0, ⟨sc.x, sc.y, sc.z, sc.bl ++ [b], sc.fl, sc.ss⟩) := by
  unfold badOk at h
  rw [decide_eq_true_iff] at h
  rw [readF_eq, words_bad]
  dsimp only
  have hn : ¬ (a < 0 ∨ 1 < a ∨ ([digI b] : List (List UInt8)).length ≠ 1) := by simp; omega
  rw [if_neg (by decide), if_pos rfl, if_neg hn, show ([digI b] : List (List UInt8)).getD 0 [] = digI b from rfl, (numF_digI (by omega) (by omega)).1, if_pos rfl, if_pos rfl]
theorem rd_ft {f : Int × Int × List UInt8} (h : faultOk (ftM f) = true) (sc : ScP) (a : Int) (ha : 0 ≤ a ∧ a ≤ 2) : readF sc (hS3 f) a = (2, 0, ⟨sc.x, sc.y, sc.z, sc.bl, sc.fl ++ [f], sc.ss⟩) := by
  obtain ⟨t, k, d⟩ := f
  unfold faultOk ftM at h
  dsimp only at h
  rw [decide_eq_true_iff] at h
  obtain ⟨h1, h2, -⟩ := h
  have hn : ¬ (a < 0 ∨ 2 < a ∨ ([digI t, hexW d] : List (List UInt8)).length ≠ 2) := by simp; omega
  unfold hS3
  dsimp only
  rw [readF_eq]
  rcases h2 with rfl | rfl
  · rw [words_harm1]
    dsimp only
    rw [if_neg (by decide), if_neg (by decide), if_pos rfl, if_neg hn, show ([digI t, hexW d] : List (List UInt8)).getD 0 [] = digI t from rfl, show ([digI t, hexW d] : List (List UInt8)).getD 1 [] = hexW d from rfl, (numF_digI (by omega) (by omega)).1, bytes_hexW, if_pos rfl, if_pos rfl]
  · rw [words_harm2]
    dsimp only
    rw [if_neg (by decide), if_neg (by decide), if_neg (by decide), if_pos rfl, if_neg hn, show ([digI t, hexW d] : List (List UInt8)).getD 0 [] = digI t from rfl, show ([digI t, hexW d] : List (List UInt8)).getD 1 [] = hexW d from rfl, (numF_digI (by omega) (by omega)).1, bytes_hexW, if_pos rfl, if_pos rfl]
theorem rd_st {s : StV} (h : stepOk s = true) (sc : ScP) (a : Int) (ha : 0 ≤ a ∧ a ≤ 3) : readF sc (lineS s) a = (3, 0, ⟨sc.x, sc.y, sc.z, sc.bl, sc.fl, sc.ss ++ [s]⟩) := by
  obtain ⟨w, r, hw, n1, n2, n3, n4⟩ := words_line h
  rw [readF_eq, hw]
  dsimp only
  rw [if_neg n1, if_neg n2, if_neg n3, if_neg n4, if_neg (by omega), stepF_line h]
theorem go_cons {p : List UInt8} {rest : List (List UInt8)} {i : Nat} {a a' : Int} {sc sc' : ScP} (hw : wordsL p ≠ []) (hr : readF sc p a = (a', 0, sc')) : parseGoT (p :: rest) i a sc = parseGoT rest (i + 1) a' sc' := by
  rw [parseGoT, if_neg hw, hr, if_neg (by simp)]
theorem go_bads : ∀ (bl : List Int) (rest : List (List UInt8)) (i : Nat) (a : Int) (sc : ScP), bl.all badOk = true → 0 ≤ a ∧ a ≤ 1 →
    ∃ i' a', (0 ≤ a' ∧ a' ≤ 1) ∧ parseGoT (bl.map badS ++ rest) i a sc = parseGoT rest i' a' ⟨sc.x, sc.y, sc.z, sc.bl ++ bl, sc.fl, sc.ss⟩
  | [], rest, i, a, sc, _, ha => ⟨i, a, ha, by simp⟩
  | b :: bl, rest, i, a, sc, h, ha => by
    rw [List.all_cons, Bool.and_eq_true] at h
    obtain ⟨i', a', h1, h2⟩ := go_bads bl rest (i + 1) 1 ⟨sc.x, sc.y, sc.z, sc.bl ++ [b], sc.fl, sc.ss⟩ h.2 (by decide)
    refine ⟨i', a', h1, ?_⟩
    rw [List.map_cons, List.cons_append, go_cons (by rw [words_bad]; simp) (rd_bad h.1 sc a ha), h2]
    simp
theorem go_fts : ∀ (fl : List (Int × Int × List UInt8)) (rest : List (List UInt8)) (i : Nat) (a : Int) (sc : ScP), (fl.map ftM).all faultOk = true → 0 ≤ a ∧ a ≤ 2 →
    ∃ i' a', (0 ≤ a' ∧ a' ≤ 2) ∧ parseGoT (fl.map hS3 ++ rest) i a sc = parseGoT rest i' a' ⟨sc.x, sc.y, sc.z, sc.bl, sc.fl ++ fl, sc.ss⟩
  | [], rest, i, a, sc, _, ha => ⟨i, a, ha, by simp⟩
  | f :: fl, rest, i, a, sc, h, ha => by
    rw [List.map_cons, List.all_cons, Bool.and_eq_true] at h
    obtain ⟨i', a', h1, h2⟩ := go_fts fl rest (i + 1) 2 ⟨sc.x, sc.y, sc.z, sc.bl, sc.fl ++ [f], sc.ss⟩ h.2 (by decide)
    refine ⟨i', a', h1, ?_⟩
    have hw : wordsL (hS3 f) ≠ [] := by
      obtain ⟨t, k, d⟩ := f
      have hk := h.1
      unfold faultOk ftM at hk
      rw [decide_eq_true_iff] at hk
      unfold hS3
      dsimp only at hk ⊢
      rcases hk.2.1 with rfl | rfl
      · rw [words_harm1]; simp
      · rw [words_harm2]; simp
    rw [List.map_cons, List.cons_append, go_cons hw (rd_ft h.1 sc a ha), h2]
    simp
theorem go_sts : ∀ (ss : List StV) (i : Nat) (a : Int) (sc : ScP), ss.all stepOk = true → 0 ≤ a ∧ a ≤ 3 →
    ∃ a', 0 ≤ a' ∧ parseGoT (ss.map lineS) i a sc = ⟨a', 0, 0, ⟨sc.x, sc.y, sc.z, sc.bl, sc.fl, sc.ss ++ ss⟩⟩
  | [], i, a, sc, _, ha => ⟨a, ha.1, by simp [parseGoT]⟩
  | s :: ss, i, a, sc, h, ha => by
    rw [List.all_cons, Bool.and_eq_true] at h
    obtain ⟨a', h1, h2⟩ := go_sts ss (i + 1) 3 ⟨sc.x, sc.y, sc.z, sc.bl, sc.fl, sc.ss ++ [s]⟩ h.2 (by decide)
    refine ⟨a', h1, ?_⟩
    obtain ⟨w, r, hw, -⟩ := words_line h.1
    rw [List.map_cons, go_cons (by rw [hw]; simp) (rd_st h.1 sc a ha), h2]
    simp
/-- A script's text read is that script. -/
theorem prT_text {sc : ScP} (h : ScOkP sc) : ∃ a, 0 ≤ a ∧ prT (glue (linesP sc)) = ⟨a, 0, 0, sc⟩ := by
  obtain ⟨x, y, z, bl, fl, ss⟩ := sc
  have hf : ∀ p ∈ linesP ⟨x, y, z, bl, fl, ss⟩, ∀ d ∈ p, d ≠ 10 := by
    intro p hp
    unfold linesP at hp
    dsimp only at hp
    rcases List.mem_append.1 hp with hp | hp
    · rcases List.mem_append.1 hp with hp | hp
      · rcases List.mem_append.1 hp with hp | hp
        · rw [List.mem_singleton] at hp; subst hp; exact free_first x y z
        · obtain ⟨b, -, rfl⟩ := List.mem_map.1 hp; exact free_bad b
      · obtain ⟨f, -, rfl⟩ := List.mem_map.1 hp; exact free_harm _ _ _
    · obtain ⟨s, hs, rfl⟩ := List.mem_map.1 hp; exact free_line (List.all_eq_true.1 h.s s hs)
  unfold prT
  rw [lines_glue _ hf]
  unfold linesP
  dsimp only
  rw [List.append_assoc, List.append_assoc, List.singleton_append, go_cons (by rw [words_first]; simp) (rd_first h.g)]
  obtain ⟨i1, a1, g1, e1⟩ := go_bads bl (fl.map hS3 ++ ss.map lineS) 1 0 ⟨x, y, z, [], [], []⟩ h.b (by decide)
  obtain ⟨i2, a2, g2, e2⟩ := go_fts fl (ss.map lineS) i1 a1 ⟨x, y, z, bl, [], []⟩ h.f (by omega)
  obtain ⟨a3, g3, e3⟩ := go_sts ss i2 a2 ⟨x, y, z, bl, fl, []⟩ h.s (by omega)
  refine ⟨a3, g3, ?_⟩
  rw [Nat.zero_add, e1]
  dsimp only
  rw [List.nil_append, e2]
  dsimp only
  rw [List.nil_append, e3]
  simp

/-- A script that is not far too great. -/
def LightS (bs : List Int) (fs : List FtV) (ss : List StV) : Prop := bs.length ≤ 60 ∧ fs.length ≤ 80 ∧ ss.length ≤ 60 ∧ ∀ s ∈ ss, s.d.length ≤ 4100
def light41 (w : World) (bs : List Int) (fs : List FtV) (ss : List StV) (e : Ending) (w' : World) : Prop := ∃ b : Bool, e = .returned (.bool b) ∧ (b = true → LightS bs fs ss) ∧ Below w.heap.size w w'

set_option maxRecDepth 100000 in
set_option maxHeartbeats 8000000 in
theorem light41_any (x y z : Int) (bs : List Int) (fs : List FtV) (ss : List StV) (B : Option Addr) (b1 b2 : Nat) (F : Option Addr) (f1 f2 : Nat) (S : Option Addr) (s1 s2 : Nat) (w : World)
    (h : Sc3 w bs fs ss B b1 b2 F f1 f2 S s1 s2) :
    Calls Try.prog 47 #[.agg (scA x y z B b1 b2 F f1 f2 S s1 s2)] w fun e w' => light41 w bs fs ss e w' := by
  have hbl := h.b.ilen
  have hfl := h.f.ftlen
  have hsl := h.s.stlen
  obtain ⟨hB, hca⟩ := one_cells w (scA x y z B b1 b2 F f1 f2 S s1 s2) 69
  have p3 := hca 3 (.slice B b1 b2) rfl
  have p4 := hca 4 (.slice F f1 f2) rfl
  have p5 := hca 5 (.slice S s1 s2) rfl
  replace h := h.below hB
  have hc1 := h.b.cm
  have hc2 := h.f.cm
  have hc3 := h.s.cm
  have hn1 := h.b.nc
  have hn2 := h.f.nc
  have hn3 := h.s.nc
  unfold maxLen at hc1 hc2 hc3
  clear hca
  by_cases h1 : 60 < b1
  · have d1 : decide ((60 : Int) < b1) = true := by rw [decide_eq_true_iff]; omega
    have d2 : decide (60 < b1) = true := by rw [decide_eq_true_iff]; omega
    go_enter Try.func47, Try.ntmps47
    go_wp2_with fail
    go_ret
    exact ⟨false, rfl, fun h => by (cases h), hB⟩
  have d1 : decide ((60 : Int) < b1) = false := by rw [decide_eq_false_iff_not]; omega
  have d2 : decide (60 < b1) = false := by rw [decide_eq_false_iff_not]; omega
  by_cases h2 : 80 < f1
  · have d3 : decide ((80 : Int) < f1) = true := by rw [decide_eq_true_iff]; omega
    have d4 : decide (80 < f1) = true := by rw [decide_eq_true_iff]; omega
    go_enter Try.func47, Try.ntmps47
    go_wp2_with fail
    go_ret
    exact ⟨false, rfl, fun h => by (cases h), hB⟩
  have d3 : decide ((80 : Int) < f1) = false := by rw [decide_eq_false_iff_not]; omega
  have d4 : decide (80 < f1) = false := by rw [decide_eq_false_iff_not]; omega
  by_cases h3 : 60 < s1
  · have d5 : decide ((60 : Int) < s1) = true := by rw [decide_eq_true_iff]; omega
    have d6 : decide (60 < s1) = true := by rw [decide_eq_true_iff]; omega
    go_enter Try.func47, Try.ntmps47
    go_wp2_with fail
    go_ret
    exact ⟨false, rfl, fun h => by (cases h), hB⟩
  have d5 : decide ((60 : Int) < s1) = false := by rw [decide_eq_false_iff_not]; omega
  have d6 : decide (60 < s1) = false := by rw [decide_eq_false_iff_not]; omega
  go_enter Try.func47, Try.ntmps47
  go_wp2_with fail
  generalize w.alloc (.cells (scA x y z B b1 b2 F f1 f2 S s1 s2) 69) = w1 at *
  go_loopw [3] (fun i wr => ∃ j : Nat, i = .int .i64 j ∧ j ≤ f1 ∧ w1 = wr) (fun i _ => f1 - (intOf i).toNat)
  case atStart => exact ⟨0, rfl, by omega, rfl⟩
  case round =>
    obtain ⟨j, rfl, hj, rfl⟩ := hrel
    by_cases hlt : j < f1
    · obtain ⟨ad, rfl⟩ := h.f.some_of_pos (by omega)
      obtain ⟨e0, e1, e2⟩ := h.f.fault j (by omega)
      have hq1 : (j : Int) < f1 := by omega
      clear h e0 e1
      generalize fs[j] = f at *
      obtain ⟨ft, fk, fA, fm, fc, fxs⟩ := f
      dsimp only at e2
      by_cases hd : 300 < fm
      · have g1 : decide ((300 : Int) < fm) = true := by rw [decide_eq_true_iff]; omega
        have g2 : decide (300 < fm) = true := by rw [decide_eq_true_iff]; omega
        go_wp2_with fail
        go_ret
        exact ⟨false, rfl, fun h => by (cases h), hB⟩
      · have g1 : decide ((300 : Int) < fm) = false := by rw [decide_eq_false_iff_not]; omega
        have g2 : decide (300 < fm) = false := by rw [decide_eq_false_iff_not]; omega
        go_wp2_with fail
        go_roundw
        case rel => exact ⟨j + 1, by go_num, by omega, trivial⟩
        case measure => simp [intOf]; omega
    · obtain rfl : j = f1 := by omega
      have hjn : ¬ (j : Int) < (j : Int) := by omega
      go_wp2_with fail
      go_loopw [4] (fun i wr => ∃ k : Nat, i = .int .i64 k ∧ k ≤ s1 ∧ Hid (∀ s ∈ ss.take k, s.d.length ≤ 4100) ∧ w1 = wr) (fun i _ => s1 - (intOf i).toNat)
      case atStart => exact ⟨0, rfl, by omega, Lib.hid (by simp), rfl⟩
      case round =>
        obtain ⟨k, rfl, hk, HA, rfl⟩ := hrel
        by_cases hlt : k < s1
        · obtain ⟨ad, rfl⟩ := h.s.some_of_pos (by omega)
          obtain ⟨e0, e1, e2, e3, e4⟩ := h.s.step k (by omega)
          have hq1 : (k : Int) < s1 := by omega
          have HT : Hid (ss.take (k + 1) = ss.take k ++ [ss[k]]) := List.take_succ_eq_append_getElem (by omega)
          clear h e0 e2 e3 e4
          generalize ss[k] = s at *
          obtain ⟨sk, sd, sp, sa, sb⟩ := s
          dsimp only at e1
          by_cases hd : 4100 < sd.length
          · have g1 : decide ((4100 : Int) < sd.length) = true := by rw [decide_eq_true_iff]; omega
            have g2 : decide (4100 < sd.length) = true := by rw [decide_eq_true_iff]; omega
            clear HA HT
            go_wp2_with fail
            go_ret
            exact ⟨false, rfl, fun h => by (cases h), hB⟩
          · have g1 : decide ((4100 : Int) < sd.length) = false := by rw [decide_eq_false_iff_not]; omega
            have g2 : decide (4100 < sd.length) = false := by rw [decide_eq_false_iff_not]; omega
            have HA2 : Hid (∀ s ∈ ss.take (k + 1), s.d.length ≤ 4100) := by
              intro s hs
              rw [HT.out] at hs
              rcases List.mem_append.1 hs with hs | hs
              · exact HA.out s hs
              · rw [List.mem_singleton] at hs; subst hs; dsimp only; omega
            clear HA HT
            go_wp2_with fail
            go_roundw
            case rel => exact ⟨k + 1, by go_num, by omega, HA2, trivial⟩
            case measure => simp [intOf]; omega
        · obtain rfl : k = s1 := by omega
          have hkn : ¬ (k : Int) < (k : Int) := by omega
          have HA2 := HA.out
          rw [List.take_of_length_le (by omega)] at HA2
          replace HA2 := Lib.hid HA2
          clear HA
          go_wp2_with fail
          go_ret
          exact ⟨true, rfl, fun _ => ⟨by omega, by omega, by omega, HA2.out⟩, hB⟩

abbrev StTy : Ty := .st (.cons (.int .i64) (.cons .str (.cons (.int .i64) (.cons (.int .u64) (.cons (.int .u64) .nil)))))
abbrev FtTy : Ty := .st (.cons (.int .i64) (.cons (.int .i64) (.cons (.sl 5 (.int .u8)) .nil)))
theorem stCs_flat (l : List StV) : l.flatMap (fun f => stCs [f]) = stCs l := by
  induction l with
  | nil => rfl
  | cons f l ih => rw [List.flatMap_cons, ih]; rfl
theorem ftCs_flat (l : List FtV) : l.flatMap (fun f => ftCs [f]) = ftCs l := by
  induction l with
  | nil => rfl
  | cons f l ih => rw [List.flatMap_cons, ih]; rfl
theorem st_opened {w : World} {A : Option Addr} {c : Nat} {all : List Value} {x : List StTy.El} (h : Rd w A x.length c StTy.size all) (hx : ∀ i (h : i < x.length), StTy.Reads w ((all.drop (i * StTy.size)).take StTy.size) x[i]) :
    ∃ fs : List StV, Rd w A x.length c 5 (stCs fs) := by
  have key : ∀ i, i < x.length → ∃ f : StV, (all.drop (i * 5)).take 5 = stCs [f] := by
    intro i hi
    have h := hx i hi
    generalize x[i] = y at h
    obtain ⟨k, d, p, a, b, u⟩ := y
    obtain ⟨_, _, e, ⟨rfl, w1⟩, _, _, rfl, ⟨rfl, w2⟩, _, _, rfl, ⟨rfl, w3⟩, _, _, rfl, ⟨rfl, w4⟩, _, _, rfl, ⟨rfl, w5⟩, rfl⟩ := h
    dsimp only at w1 w2 w3 w4 w5 e
    obtain ⟨a, rfl, _⟩ := u64_opened w4
    obtain ⟨b, rfl, _⟩ := u64_opened w5
    obtain ⟨⟨l⟩⟩ := d
    exact ⟨⟨k, l, p, a, b⟩, e⟩
  obtain ⟨fs, hl, hr⟩ := list_of x.length (fun i f => (all.drop (i * 5)).take 5 = stCs [f]) key
  have hlen : all.length = x.length * 5 := h.len
  have := flat_opened 5 (fun f => stCs [f]) fs all (by omega) (fun i hi => hr i hi)
  rw [stCs_flat] at this
  exact ⟨fs, by rw [← this]; exact h⟩
theorem ft_opened {w : World} {A : Option Addr} {c : Nat} {all : List Value} {x : List FtTy.El} (h : Rd w A x.length c FtTy.size all) (hx : ∀ i (h : i < x.length), FtTy.Reads w ((all.drop (i * FtTy.size)).take FtTy.size) x[i]) :
    ∃ fs : List FtV, Rd w A x.length c 3 (ftCs fs) ∧ AllFt w fs := by
  have key : ∀ i, i < x.length → ∃ f : FtV, (all.drop (i * 3)).take 3 = ftCs [f] ∧ RdB w f.A f.m f.c f.x := by
    intro i hi
    have h := hx i hi
    generalize x[i] = y at h
    obtain ⟨t, k, d, u⟩ := y
    obtain ⟨_, _, e, ⟨rfl, w1⟩, _, _, rfl, ⟨rfl, w2⟩, _, _, rfl, ⟨D, a, all2, rfl, r1, e1⟩, rfl⟩ := h
    dsimp only at w1 w2 r1 e1 e
    obtain ⟨xs, hxs⟩ := rdb_opened r1 e1
    exact ⟨⟨t, k, D, d.length, a, xs⟩, e, hxs⟩
  obtain ⟨fs, hl, hr⟩ := list_of x.length (fun i f => (all.drop (i * 3)).take 3 = ftCs [f] ∧ RdB w f.A f.m f.c f.x) key
  have hlen : all.length = x.length * 3 := h.len
  have := flat_opened 3 (fun f => ftCs [f]) fs all (by omega) (fun i hi => (hr i hi).1)
  rw [ftCs_flat] at this
  refine ⟨fs, by rw [← this]; exact h, fun f hf => ?_⟩
  obtain ⟨i, hi, rfl⟩ := List.mem_iff_getElem.1 hf
  exact (hr i hi).2
abbrev ScTy : Ty := .st (.cons (.st (.cons (.int .i64) (.cons (.int .i64) (.cons (.int .i64) .nil)))) (.cons (.sl 3 (.int .i64)) (.cons (.sl 130 FtTy) (.cons (.sl 78 StTy) .nil))))
theorem sc_opened {w : World} {cs : List Value} {x : ScTy.El} (h : ScTy.Reads w cs x) :
    ∃ (x y z : Int) (bl : List Int) (fs : List FtV) (ss : List StV) (B : Option Addr) (b1 b2 : Nat) (F : Option Addr) (f1 f2 : Nat) (S : Option Addr) (s1 s2 : Nat),
      cs.toArray = scA x y z B b1 b2 F f1 f2 S s1 s2 ∧ Sc3 w bl fs ss B b1 b2 F f1 f2 S s1 s2 ∧ AllFt w fs := by
  obtain ⟨⟨x, y, z, u1⟩, x1, x2, x3, u⟩ := x
  obtain ⟨_, _, rfl, ⟨_, _, rfl, ⟨rfl, w1⟩, _, _, rfl, ⟨rfl, w2⟩, _, _, rfl, ⟨rfl, w3⟩, rfl⟩, _, _, rfl, ⟨B, b, all1, rfl, r1, e1⟩, _, _, rfl, ⟨F, f, all2, rfl, r2, e2⟩, _, _, rfl, ⟨S, s, all3, rfl, r3, e3⟩, rfl⟩ := h
  dsimp only at w1 w2 w3 r1 e1 r2 e2 r3 e3
  obtain ⟨fs, hf, ha⟩ := ft_opened r2 e2
  obtain ⟨ss, hs⟩ := st_opened r3 e3
  obtain ⟨rfl, -⟩ := rd_ints r1 e1
  exact ⟨x, y, z, x1, fs, ss, B, x1.length, b, F, x2.length, f, S, x3.length, s, rfl, ⟨r1, hf, hs⟩, ha⟩
end Go.Proofs.Ytefipigdkdopcaa
