/- Layer 41 (tape): the statements' first call: awake answers true. No condition. -/
import Derived.Test.YtefipigdkdopcaaTap11
import Derived.Test.YtefipigdkdopcaaTextB
namespace Go.Proofs.Ytefipigdkdopcaa
open Go.RowKit

theorem dg (n : Nat) (s : List UInt8) (h : digs n = s) (hn : n ≤ 1099511627776) : digI (n : Int) = s ∧ numF s = n := by
  subst h
  exact ⟨digI_nat n, (numF_digs hn).1⟩
theorem d10 : digs 10 = [49, 48] := by rw [digs, if_neg (by decide), show 10 / 10 = 1 from rfl, digs, if_pos (by decide)]; rfl
theorem d4 : digs 4 = [52] := by rw [digs]; rfl
theorem d0 : digs 0 = [48] := by rw [digs]; rfl
theorem d3 : digs 3 = [51] := by rw [digs]; rfl
theorem d2 : digs 2 = [50] := by rw [digs]; rfl
theorem n10 : digI 10 = [49, 48] ∧ numF [49, 48] = 10 := dg 10 _ d10 (by decide)
theorem n4 : digI 4 = [52] ∧ numF [52] = 4 := dg 4 _ d4 (by decide)
theorem n0 : digI 0 = [48] ∧ numF [48] = 0 := dg 0 _ d0 (by decide)
theorem n3 : digI 3 = [51] ∧ numF [51] = 3 := dg 3 _ d3 (by decide)
theorem n2 : digI 2 = [50] ∧ numF [50] = 2 := dg 2 _ d2 (by decide)
def tA : List UInt8 := [103, 101, 111, 109, 32, 49, 48, 32, 52, 32, 48, 10, 99, 117, 116, 32, 51, 32, 102, 102, 10, 112, 111, 119, 101, 114, 10, 10, 105, 110, 103, 101, 115, 116, 32, 50, 32, 45, 10]
def tB : List UInt8 := [103, 101, 111, 109, 32, 49, 48, 32, 52, 32, 48, 10, 112, 111, 119, 101, 114, 10, 98, 97, 100, 32, 51, 10]
def lG : List UInt8 := [103, 101, 111, 109, 32, 49, 48, 32, 52, 32, 48]
def lC : List UInt8 := [99, 117, 116, 32, 51, 32, 102, 102]
def lI : List UInt8 := [105, 110, 103, 101, 115, 116, 32, 50, 32, 45]
def lB : List UInt8 := [98, 97, 100, 32, 51]
theorem lines_tA : linesL tA = [lG, lC, wPow, [], lI] := by decide +kernel
theorem lines_tB : linesL tB = [lG, wPow, lB] := by decide +kernel
theorem w_lG : wordsL lG = [wGeom, [49, 48], [52], [48]] := by decide +kernel
theorem w_lC : wordsL lC = [wCut, [51], [102, 102]] := by decide +kernel
theorem w_lI : wordsL lI = [wIng, [50], [45]] := by decide +kernel
theorem w_lB : wordsL lB = [wBad, [51]] := by decide +kernel
theorem w_pow : wordsL wPow = [wPow] := by decide +kernel
theorem f_lG : firstS 10 4 0 = lG := by unfold firstS; rw [n10.1, n4.1, n0.1]; rfl
theorem hx_ff : hexS [255] = [102, 102] := by decide +kernel
theorem bw_ff : bytesW [102, 102] = [255] := by decide +kernel
theorem bw_no : bytesW [45] = [] := by decide +kernel
theorem f_lC : harmS 3 2 [255] = lC := by
  unfold harmS harmW hexW
  rw [n3.1, if_pos rfl, if_neg (by simp), hx_ff]; rfl
def stP : StV := ⟨9, [], 0, 0, 0⟩
def stI : StV := ⟨8, [], 2, 0, 0⟩
theorem f_lP : lineS stP = wPow := by unfold lineS stP; rw [if_neg (by decide), if_pos rfl]
theorem f_lI : lineS stI = lI := by
  unfold lineS stI hexW
  dsimp only
  rw [if_pos rfl, n2.1, if_pos rfl]; rfl
theorem ok_P : stepOk stP = true := by decide
theorem ok_I : stepOk stI = true := by decide
theorem s_pow : stepF wPow = (stP, 0) := by
  unfold stepF
  rw [w_pow]
  dsimp only
  rw [if_pos (by decide), if_pos (by decide)]
  unfold stChk
  rw [if_pos ⟨f_lP, ok_P⟩]; rfl
theorem s_ing : stepF lI = (stI, 0) := by
  unfold stepF
  rw [w_lI]
  dsimp only
  rw [if_neg (by decide), if_pos (by decide), if_pos (by decide), show ([[50], [45]] : List (List UInt8)).getD 1 [] = [45] from rfl, show ([[50], [45]] : List (List UInt8)).getD 0 [] = [50] from rfl, bw_no, n2.2]
  unfold stChk
  rw [if_pos ⟨f_lI, ok_I⟩]; rfl
theorem r_lG : readF sc0 lG (-1) = (0, 0, ⟨10, 4, 0, [], [], []⟩) := by
  unfold readF
  rw [w_lG]
  dsimp only
  rw [if_pos rfl, if_neg (by decide)]
  have e : numF (([[49, 48], [52], [48]] : List (List UInt8)).getD 0 []) = 10 ∧ numF (([[49, 48], [52], [48]] : List (List UInt8)).getD 1 []) = 4 ∧ numF (([[49, 48], [52], [48]] : List (List UInt8)).getD 2 []) = 0 := ⟨n10.2, n4.2, n0.2⟩
  rw [e.1, e.2.1, e.2.2, if_pos f_lG, if_pos f_lG]; rfl
theorem r_lC (sc : ScP) : readF sc lC 0 = (2, 0, ⟨sc.x, sc.y, sc.z, sc.bl, sc.fl ++ [(3, 2, [255])], sc.ss⟩) := by
  unfold readF
  rw [w_lC]
  dsimp only
  rw [if_neg (by decide), if_neg (by decide), if_neg (by decide), if_pos rfl, if_neg (by decide)]
  have e : numF (([[51], [102, 102]] : List (List UInt8)).getD 0 []) = 3 ∧ bytesW (([[51], [102, 102]] : List (List UInt8)).getD 1 []) = [255] := ⟨n3.2, bw_ff⟩
  rw [e.1, e.2, if_pos f_lC, if_pos f_lC]
theorem r_pow (sc : ScP) (a : Int) (h : 0 ≤ a ∧ a ≤ 3) : readF sc wPow a = (3, 0, ⟨sc.x, sc.y, sc.z, sc.bl, sc.fl, sc.ss ++ [stP]⟩) := by
  unfold readF
  rw [w_pow]
  dsimp only
  rw [if_neg (by decide), if_neg (by decide), if_neg (by decide), if_neg (by decide), if_neg (by omega), s_pow]
theorem r_ing (sc : ScP) : readF sc lI 3 = (3, 0, ⟨sc.x, sc.y, sc.z, sc.bl, sc.fl, sc.ss ++ [stI]⟩) := by
  unfold readF
  rw [w_lI]
  dsimp only
  rw [if_neg (by decide), if_neg (by decide), if_neg (by decide), if_neg (by decide), if_neg (by decide), s_ing]
theorem r_bad (sc : ScP) : readF sc lB 3 = (3, 17, sc) := by
  unfold readF
  rw [w_lB]
  dsimp only
  rw [if_neg (by decide), if_pos rfl, if_pos (by decide)]
def scAw : ScP := ⟨10, 4, 0, [], [(3, 2, [255])], [stP, stI]⟩
theorem pr_tA : prT tA = ⟨3, 0, 0, scAw⟩ := by
  unfold prT
  rw [lines_tA]
  rw [parseGoT, if_neg (by rw [w_lG]; simp), r_lG]
  dsimp only
  rw [if_neg (by simp), parseGoT, if_neg (by rw [w_lC]; simp), r_lC]
  dsimp only
  rw [if_neg (by simp), parseGoT, if_neg (by rw [w_pow]; simp), r_pow _ _ (by decide)]
  dsimp only
  rw [if_neg (by simp), parseGoT, if_pos (by rfl), parseGoT, if_neg (by rw [w_lI]; simp), r_ing]
  dsimp only
  rw [if_neg (by simp), parseGoT]
  rfl
theorem pr_tB : (prT tB).e = 17 ∧ (prT tB).n = 3 := by
  unfold prT
  rw [lines_tB]
  rw [parseGoT, if_neg (by rw [w_lG]; simp), r_lG]
  dsimp only
  rw [if_neg (by simp), parseGoT, if_neg (by rw [w_pow]; simp), r_pow _ _ (by decide)]
  dsimp only
  rw [if_neg (by simp), parseGoT, if_neg (by rw [w_lB]; simp), r_bad]
  dsimp only
  rw [if_pos (by decide)]
  exact ⟨rfl, rfl⟩
theorem ok_tA : okT (prT tA) := by
  rw [pr_tA]
  exact ⟨rfl, by decide, ⟨by decide, by decide, by decide, by decide, by decide, by decide, by decide⟩⟩
/-- The text of a script, told plainly. -/
def hS3 (p : Int × Int × List UInt8) : List UInt8 := harmS p.1 p.2.1 p.2.2
def textP (sc : ScP) : List UInt8 := Lib.join ([firstS sc.x sc.y sc.z] ++ sc.bl.map badS ++ sc.fl.map hS3 ++ sc.ss.map lineS) [10] ++ [10]
theorem textT_plain (x y z : Int) (bl : List Int) (fs : List FtV) (ss : List StV) : textT x y z bl fs ss = textP ⟨x, y, z, bl, fs.map ftP, ss⟩ := by
  unfold textT textP linesT
  dsimp only
  rw [List.map_map]
  rfl
def tC : List UInt8 := [103, 101, 111, 109, 32, 49, 48, 32, 52, 32, 48, 10, 99, 117, 116, 32, 51, 32, 102, 102, 10, 112, 111, 119, 101, 114, 10, 105, 110, 103, 101, 115, 116, 32, 50, 32, 45, 10]
theorem text_aw : textP scAw = tC := by
  have e : hS3 (3, 2, [255]) = lC := f_lC
  unfold textP scAw
  dsimp only
  rw [f_lG, List.map_nil, List.map_cons, List.map_nil, e, List.map_cons, List.map_cons, List.map_nil, f_lP, f_lI]
  rfl

set_option maxRecDepth 100000 in
set_option maxHeartbeats 4000000 in
theorem awake41_any (w : World) : Calls Try.prog 37 #[] w fun e w' => e = .returned (.bool true) ∧ Below w.heap.size w w' := by
  have KA : ∀ W, Hid (Calls Try.prog 38 #[.string ⟨#[103, 101, 111, 109, 32, 49, 48, 32, 52, 32, 48, 10, 99, 117, 116, 32, 51, 32, 102, 102, 10, 112, 111, 119, 101, 114, 10, 10, 105, 110, 103, 101, 115, 116, 32, 50, 32, 45, 10]⟩] W fun e w' => ∃ fs B b2 F f2 S s2, e = .returned (.tuple #[.agg (scA 10 4 0 B 0 b2 F 1 f2 S 2 s2), .int .i64 0, .int .i64 0]) ∧ Sc3 w' [] fs [stP, stI] B 0 b2 F 1 f2 S 2 s2 ∧ AllFt w' fs ∧ fs.map ftP = [(3, 2, [255])] ∧ Below W.heap.size W w') := fun W => Lib.hid ((tparse_any tA W (by decide) (by rw [lines_tA]; decide)).mono (fun e w' ⟨h1, h2, _⟩ => by
    obtain ⟨fs, B, b2, F, f2, S, s2, q1, q2, q3, q4⟩ := h2 ok_tA
    rw [pr_tA] at q1 q2 q4
    have hfl : fs.length = 1 := by
      have := congrArg List.length q4
      rw [List.length_map] at this
      exact this
    rw [hfl] at q1 q2
    exact ⟨fs, B, b2, F, f2, S, s2, q1, q2, q3, q4, h1⟩))
  have KB : ∀ W, Hid (Calls Try.prog 38 #[.string ⟨#[103, 101, 111, 109, 32, 49, 48, 32, 52, 32, 48, 10, 112, 111, 119, 101, 114, 10, 98, 97, 100, 32, 51, 10]⟩] W fun e w' => e = .returned (.tuple #[.agg zSc, .int .i64 3, .int .i64 17]) ∧ Below W.heap.size W w') := fun W => Lib.hid ((tparse_any tB W (by decide) (by rw [lines_tB]; decide)).mono (fun e w' ⟨h1, _, h3⟩ => by
    have hn : ¬ okT (prT tB) := fun h => by have := h.1; rw [pr_tB.1] at this; cases this
    have he : endE (prT tB) = (3, 17) := by unfold endE; rw [pr_tB.1, pr_tB.2, if_pos (by decide)]
    have := h3 hn
    rw [he] at this
    exact ⟨this, h1⟩))
  go_enter Try.func37, Try.ntmps37
  go_wp2_with fail
  refine (KA _).out.mono ?_
  rintro e w2 ⟨fs, B, b2, F, f2, S, s2, rfl, hs, hm, hfl, hB⟩
  clear KA
  have hh := alloc_new w2 (.cells (scA 10 4 0 B 0 b2 F 1 f2 S 2 s2) 69 (0, 0))
  have hb1 := (one_cells w2 (scA 10 4 0 B 0 b2 F 1 f2 S 2 s2) 69).1
  replace hs := hs.below hb1
  replace hm := hm.below hb1
  replace hB := below_trans hB hb1
  have hlm : ∀ f ∈ fs, f.x.length = f.m := fun f hf => (hm f hf).blen
  have hok : ScOk 10 4 0 [] fs [stP, stI] := (scok_plain hlm).2 (by rw [hfl]; have := ok_tA.2.2; rw [pr_tA] at this; exact this)
  have KT := fun W h1 h2 => Lib.hid (ttext_yes 10 4 0 [] fs [stP, stI] B 0 b2 F 1 f2 S 2 s2 W h1 h2 hok)
  have htx : textT 10 4 0 [] fs [stP, stI] = tC := by rw [textT_plain, hfl]; exact text_aw
  rw [htx] at KT
  obtain ⟨f, hf1, hf2⟩ : ∃ f, fs = [f] ∧ f.k = 2 := by
    have h1 : fs.length = 1 := by have := congrArg List.length hfl; rwa [List.length_map] at this
    match fs, h1, hfl with
    | [f], _, hfl => exact ⟨f, rfl, by simp [ftP] at hfl; exact hfl.2.1⟩
  obtain ⟨ad, rfl⟩ := hs.f.some_of_pos (by decide)
  clear hlm hok htx hfl hb1
  go_upto_region 2 with fail
  generalize w2.alloc (.cells (scA 10 4 0 B 0 b2 (some ad) 1 f2 S 2 s2) 69) = w3 at *
  obtain ⟨g6, hg6⟩ : ∃ g, g = w2.heap.size := ⟨_, rfl⟩
  rw [← hg6] at hh ⊢
  clear hg6
  have p0 : w3.cell? ⟨g6, 0, none⟩ = some (.int .i64 10) := cell_heap hh
  have p1 : w3.cell? ⟨g6, 1, none⟩ = some (.int .i64 4) := cell_heap hh
  have p2 : w3.cell? ⟨g6, 2, none⟩ = some (.int .i64 0) := cell_heap hh
  have p3 : w3.cell? ⟨g6, 3, none⟩ = some (.slice B 0 b2) := cell_heap hh
  have p4 : w3.cell? ⟨g6, 4, none⟩ = some (.slice (some ad) 1 f2) := cell_heap hh
  have p5 : w3.cell? ⟨g6, 5, none⟩ = some (.slice S 2 s2) := cell_heap hh
  go_wp2_with fail
  refine (KT _ hs hm).out.mono ?_
  rintro e w4 ⟨rfl, hb⟩
  replace hs := hs.below hb
  replace hh := heap_below hb hh
  replace hB := below_trans hB hb
  clear hb KT hm p0 p1 p2 p3 p4 p5
  go_wp2_with fail
  refine (KB _).out.mono ?_
  rintro e w5 ⟨rfl, hb⟩
  replace hs := hs.below hb
  replace hh := heap_below hb hh
  replace hB := below_trans hB hb
  clear hb KB
  have hb1 := (one_cells w5 zSc 69).1
  replace hs := hs.below hb1
  replace hh := heap_below hb1 hh
  replace hB := below_trans hB hb1
  clear hb1
  go_upto_region 4 with fail
  generalize w5.alloc (.cells zSc 69) = w6 at *
  have p4 : w6.cell? ⟨g6, 4, none⟩ = some (.slice (some ad) 1 f2) := cell_heap hh
  have p5 : w6.cell? ⟨g6, 5, none⟩ = some (.slice S 2 s2) := cell_heap hh
  subst hf1
  obtain ⟨-, e1, -⟩ := hs.f.fault 0 (by simp)
  have ea : ad.add (0 * 3) = ad := by unfold Addr.add; simp
  rw [ea] at e1
  rw [List.getElem_cons_zero, hf2] at e1
  have hcm := hs.f.cm
  have hnc := hs.f.nc
  unfold maxLen at hcm
  clear hs hh ea hf2
  go_wp2_with fail
  go_ret
  exact ⟨rfl, hB⟩
end Go.Proofs.Ytefipigdkdopcaa
