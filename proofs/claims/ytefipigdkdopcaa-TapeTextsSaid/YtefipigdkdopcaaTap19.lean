/- Layer 41: plain facts on parsing: what lines a script read holds, and the errors. No condition. -/
import Derived.Test.YtefipigdkdopcaaTap18
namespace Go.Proofs.Ytefipigdkdopcaa
open Go.RowKit

def linesP (sc : ScP) : List (List UInt8) := [firstS sc.x sc.y sc.z] ++ sc.bl.map badS ++ sc.fl.map hS3 ++ sc.ss.map lineS
def linesAt (a : Int) (sc : ScP) : List (List UInt8) := if a < 0 then [] else linesP sc
/-- Where reading stands. -/
structure Stands (a : Int) (sc : ScP) : Prop where
  lo : -1 ≤ a
  hi : a ≤ 3
  b : a ≤ 0 → sc.bl = []
  f : a ≤ 1 → sc.fl = []
  s : a ≤ 2 → sc.ss = []
def nb (l : List (List UInt8)) : List (List UInt8) := l.filter (fun p => decide (wordsL p ≠ []))
theorem nb_cons_no {p : List UInt8} {l : List (List UInt8)} (h : wordsL p = []) : nb (p :: l) = nb l := by unfold nb; rw [List.filter_cons_of_neg (by simp [h])]
theorem nb_cons_yes {p : List UInt8} {l : List (List UInt8)} (h : wordsL p ≠ []) : nb (p :: l) = p :: nb l := by unfold nb; rw [List.filter_cons_of_pos (by simpa using h)]
theorem drop_nb (l : List (List UInt8)) : dropL l = glue (nb l) := by
  unfold dropL glue
  induction l with
  | nil => rfl
  | cons p l ih =>
    rw [List.flatMap_cons, ih]
    by_cases h : wordsL p = []
    · rw [nb_cons_no h]; unfold dropP; rw [if_pos h]; rfl
    · rw [nb_cons_yes h, List.flatMap_cons]; unfold dropP; rw [if_neg h]
theorem glue_nil {ws : List (List UInt8)} : glue ws = [] ↔ ws = [] := by
  cases ws with
  | nil => exact ⟨fun _ => rfl, fun _ => rfl⟩
  | cons a l => unfold glue; rw [List.flatMap_cons]; simp

theorem readF_eq (sc : ScP) (t : List UInt8) (at_ : Int) : readF sc t at_ = (match wordsL t with
  | [] => (at_, 17, sc)
  | h :: r =>
    if h = wGeom then
      if 0 ≤ at_ ∨ r.length ≠ 3 then (at_, 17, sc)
      else (if firstS (numF (r.getD 0 [])) (numF (r.getD 1 [])) (numF (r.getD 2 [])) = t then 0 else at_, if firstS (numF (r.getD 0 [])) (numF (r.getD 1 [])) (numF (r.getD 2 [])) = t then 0 else 6, ⟨numF (r.getD 0 []), numF (r.getD 1 []), numF (r.getD 2 []), sc.bl, sc.fl, sc.ss⟩)
    else if h = wBad then
      if at_ < 0 ∨ 1 < at_ ∨ r.length ≠ 1 then (at_, 17, sc)
      else (if badS (numF (r.getD 0 [])) = t then 1 else at_, if badS (numF (r.getD 0 [])) = t then 0 else 6, ⟨sc.x, sc.y, sc.z, sc.bl ++ [numF (r.getD 0 [])], sc.fl, sc.ss⟩)
    else if h = wFail then
      if at_ < 0 ∨ 2 < at_ ∨ r.length ≠ 2 then (at_, 17, sc)
      else (if harmS (numF (r.getD 0 [])) 1 (bytesW (r.getD 1 [])) = t then 2 else at_, if harmS (numF (r.getD 0 [])) 1 (bytesW (r.getD 1 [])) = t then 0 else 6, ⟨sc.x, sc.y, sc.z, sc.bl, sc.fl ++ [(numF (r.getD 0 []), 1, bytesW (r.getD 1 []))], sc.ss⟩)
    else if h = wCut then
      if at_ < 0 ∨ 2 < at_ ∨ r.length ≠ 2 then (at_, 17, sc)
      else (if harmS (numF (r.getD 0 [])) 2 (bytesW (r.getD 1 [])) = t then 2 else at_, if harmS (numF (r.getD 0 [])) 2 (bytesW (r.getD 1 [])) = t then 0 else 6, ⟨sc.x, sc.y, sc.z, sc.bl, sc.fl ++ [(numF (r.getD 0 []), 2, bytesW (r.getD 1 []))], sc.ss⟩)
    else if at_ < 0 ∨ 3 < at_ then (at_, 17, sc)
    else (3, (stepF t).2, ⟨sc.x, sc.y, sc.z, sc.bl, sc.fl, sc.ss ++ [(stepF t).1]⟩)) := rfl
/-- The errors of a line. -/
theorem readF_errs (sc : ScP) (t : List UInt8) (a : Int) : (readF sc t a).2.1 = 0 ∨ (readF sc t a).2.1 = 6 ∨ (readF sc t a).2.1 = 17 := by
  rw [readF_eq]
  cases wordsL t with
  | nil => exact .inr (.inr rfl)
  | cons h r =>
    dsimp only
    have hs : (stepF t).2 = 0 ∨ (stepF t).2 = 6 ∨ (stepF t).2 = 17 := by
      by_cases he : (stepF t).2 = 0
      · exact .inl he
      · rcases stepF_bad he with e | e <;> rw [e]
        · exact .inr (.inr rfl)
        · exact .inr (.inl rfl)
    generalize (stepF t).2 = e at *
    (repeat' split) <;> first | exact .inl rfl | exact .inr (.inl rfl) | exact .inr (.inr rfl) | exact hs
/-- A line read adds that line. -/
theorem readF_adds {sc : ScP} {t : List UInt8} {a : Int} (hs : Stands a sc) (he : (readF sc t a).2.1 = 0) :
    Stands (readF sc t a).1 (readF sc t a).2.2 ∧ 0 ≤ (readF sc t a).1 ∧ linesAt (readF sc t a).1 (readF sc t a).2.2 = linesAt a sc ++ [t] := by
  rw [readF_eq] at he ⊢
  obtain ⟨hlo, hhi, hb, hf, hst⟩ := hs
  obtain ⟨x, y, z, bl, fl, ss⟩ := sc
  dsimp only at hb hf hst he ⊢
  cases hw : wordsL t with
  | nil => rw [hw] at he; cases he
  | cons h r =>
    rw [hw] at he
    dsimp only at he ⊢
    by_cases h1 : h = wGeom
    · rw [if_pos h1] at he ⊢
      by_cases h2 : 0 ≤ a ∨ r.length ≠ 3
      · rw [if_pos h2] at he; cases he
      · rw [if_neg h2] at he ⊢
        by_cases h3 : firstS (numF (r.getD 0 [])) (numF (r.getD 1 [])) (numF (r.getD 2 [])) = t
        · rw [if_pos h3, if_pos h3]
          obtain rfl := hb (by omega)
          obtain rfl := hf (by omega)
          obtain rfl := hst (by omega)
          dsimp only
          refine ⟨⟨by decide, by decide, fun _ => rfl, fun _ => rfl, fun _ => rfl⟩, by decide, ?_⟩
          unfold linesAt linesP
          rw [if_neg (by decide), if_pos (by omega)]
          dsimp only
          rw [h3]
          rfl
        · rw [if_neg h3] at he; dsimp only at he; rw [if_neg h3] at he; cases he
    rw [if_neg h1] at he ⊢
    by_cases h1 : h = wBad
    · rw [if_pos h1] at he ⊢
      by_cases h2 : a < 0 ∨ 1 < a ∨ r.length ≠ 1
      · rw [if_pos h2] at he; cases he
      · rw [if_neg h2] at he ⊢
        by_cases h3 : badS (numF (r.getD 0 [])) = t
        · rw [if_pos h3, if_pos h3]
          obtain rfl := hf (by omega)
          obtain rfl := hst (by omega)
          dsimp only
          refine ⟨⟨by decide, by decide, fun h => absurd h (by decide), fun _ => rfl, fun _ => rfl⟩, by decide, ?_⟩
          unfold linesAt linesP
          rw [if_neg (by decide), if_neg (by omega)]
          dsimp only
          rw [List.map_append, List.map_cons, h3]
          simp
        · rw [if_neg h3] at he; dsimp only at he; rw [if_neg h3] at he; cases he
    rw [if_neg h1] at he ⊢
    by_cases h1 : h = wFail
    · rw [if_pos h1] at he ⊢
      by_cases h2 : a < 0 ∨ 2 < a ∨ r.length ≠ 2
      · rw [if_pos h2] at he; cases he
      · rw [if_neg h2] at he ⊢
        by_cases h3 : harmS (numF (r.getD 0 [])) 1 (bytesW (r.getD 1 [])) = t
        · rw [if_pos h3, if_pos h3]
          obtain rfl := hst (by omega)
          dsimp only
          refine ⟨⟨by decide, by decide, fun h => absurd h (by decide), fun h => absurd h (by decide), fun _ => rfl⟩, by decide, ?_⟩
          unfold linesAt linesP
          rw [if_neg (by decide), if_neg (by omega)]
          dsimp only
          rw [List.map_append, List.map_cons, show hS3 (numF (r.getD 0 []), 1, bytesW (r.getD 1 [])) = t from h3]
          simp
        · rw [if_neg h3] at he; dsimp only at he; rw [if_neg h3] at he; cases he
    rw [if_neg h1] at he ⊢
    by_cases h1 : h = wCut
    · rw [if_pos h1] at he ⊢
      by_cases h2 : a < 0 ∨ 2 < a ∨ r.length ≠ 2
      · rw [if_pos h2] at he; cases he
      · rw [if_neg h2] at he ⊢
        by_cases h3 : harmS (numF (r.getD 0 [])) 2 (bytesW (r.getD 1 [])) = t
        · rw [if_pos h3, if_pos h3]
          obtain rfl := hst (by omega)
          dsimp only
          refine ⟨⟨by decide, by decide, fun h => absurd h (by decide), fun h => absurd h (by decide), fun _ => rfl⟩, by decide, ?_⟩
          unfold linesAt linesP
          rw [if_neg (by decide), if_neg (by omega)]
          dsimp only
          rw [List.map_append, List.map_cons, show hS3 (numF (r.getD 0 []), 2, bytesW (r.getD 1 [])) = t from h3]
          simp
        · rw [if_neg h3] at he; dsimp only at he; rw [if_neg h3] at he; cases he
    rw [if_neg h1] at he ⊢
    by_cases h2 : a < 0 ∨ 3 < a
    · rw [if_pos h2] at he; cases he
    · rw [if_neg h2] at he ⊢
      dsimp only at he ⊢
      refine ⟨⟨by decide, by decide, fun h => absurd h (by decide), fun h => absurd h (by decide), fun h => absurd h (by decide)⟩, by decide, ?_⟩
      unfold linesAt linesP
      rw [if_neg (by decide), if_neg (by omega)]
      dsimp only
      rw [List.map_append, List.map_cons, (stepF_ok he).2]
      simp
/-- Lines read with no error are the script's. -/
theorem parse_lines : ∀ (l : List (List UInt8)) (i : Nat) (a : Int) (sc : ScP), Stands a sc → (parseGoT l i a sc).e = 0 →
    Stands (parseGoT l i a sc).at_ (parseGoT l i a sc).sc ∧ linesAt (parseGoT l i a sc).at_ (parseGoT l i a sc).sc = linesAt a sc ++ nb l
  | [], i, a, sc, hs, he => ⟨hs, by rw [show nb [] = [] from rfl, List.append_nil]; rfl⟩
  | p :: l, i, a, sc, hs, he => by
    rw [parseGoT] at he ⊢
    by_cases h1 : wordsL p = []
    · rw [if_pos h1] at he ⊢
      rw [nb_cons_no h1]
      exact parse_lines l (i + 1) a sc hs he
    · rw [if_neg h1] at he ⊢
      by_cases h2 : (readF sc p a).2.1 ≠ 0
      · rw [if_pos h2] at he; exact absurd he h2
      · rw [if_neg h2] at he ⊢
        obtain ⟨q1, -, q2⟩ := readF_adds hs (Decidable.byContradiction h2)
        obtain ⟨r1, r2⟩ := parse_lines l (i + 1) _ _ q1 he
        refine ⟨r1, ?_⟩
        rw [r2, q2, nb_cons_yes h1, List.append_assoc]
        rfl
theorem parse_errs : ∀ (l : List (List UInt8)) (i : Nat) (a : Int) (sc : ScP), (parseGoT l i a sc).e ≠ 0 →
    ((parseGoT l i a sc).e = 6 ∨ (parseGoT l i a sc).e = 17) ∧ 1 ≤ (parseGoT l i a sc).n ∧ nb l ≠ []
  | [], i, a, sc, he => absurd rfl he
  | p :: l, i, a, sc, he => by
    rw [parseGoT] at he ⊢
    by_cases h1 : wordsL p = []
    · rw [if_pos h1] at he ⊢
      rw [nb_cons_no h1]
      exact parse_errs l (i + 1) a sc he
    · rw [if_neg h1] at he ⊢
      rw [nb_cons_yes h1]
      by_cases h2 : (readF sc p a).2.1 ≠ 0
      · rw [if_pos h2]
        refine ⟨?_, by dsimp only; omega, by simp⟩
        rcases readF_errs sc p a with e | e | e
        · exact absurd e h2
        · exact .inl e
        · exact .inr e
      · rw [if_neg h2] at he ⊢
        have := parse_errs l (i + 1) _ _ he
        exact ⟨this.1, this.2.1, by simp⟩
theorem stands0 : Stands (-1) sc0 := ⟨by decide, by decide, fun _ => rfl, fun _ => rfl, fun _ => rfl⟩
/-- What a text's parse says. -/
theorem prT_says (t : List UInt8) :
    (okT (prT t) → linesP (prT t).sc = nb (linesL t)) ∧
    (¬ okT (prT t) → (endE (prT t) = (0, 5) ∧ nb (linesL t) = []) ∨ (endE (prT t) = (0, 3) ∧ nb (linesL t) ≠ []) ∨ (∃ n, 1 ≤ n ∧ (endE (prT t) = (n, 6) ∨ endE (prT t) = (n, 17)) ∧ nb (linesL t) ≠ [])) := by
  constructor
  · rintro ⟨h1, h2, -⟩
    obtain ⟨-, q⟩ := parse_lines (linesL t) 0 (-1) sc0 stands0 h1
    unfold linesAt at q
    replace q : (if (prT t).at_ < 0 then [] else linesP (prT t).sc) = (if (-1 : Int) < 0 then [] else linesP sc0) ++ nb (linesL t) := q
    rw [if_neg h2, if_pos (by decide)] at q
    exact q
  · intro h
    by_cases he : (prT t).e = 0
    · obtain ⟨-, q⟩ := parse_lines (linesL t) 0 (-1) sc0 stands0 he
      have hE : endE (prT t) = if (prT t).at_ < 0 then (0, 5) else (0, 3) := by unfold endE; rw [if_neg (by omega)]
      unfold linesAt at q
      rw [if_pos (show (-1 : Int) < 0 by decide), List.nil_append] at q
      by_cases ha : (prT t).at_ < 0
      · rw [if_pos ha] at hE
        replace q : (if (prT t).at_ < 0 then [] else linesP (prT t).sc) = nb (linesL t) := q
        rw [if_pos ha] at q
        exact .inl ⟨hE, q.symm⟩
      · rw [if_neg ha] at hE
        replace q : (if (prT t).at_ < 0 then [] else linesP (prT t).sc) = nb (linesL t) := q
        rw [if_neg ha] at q
        exact .inr (.inl ⟨hE, by rw [← q]; unfold linesP; simp⟩)
    · obtain ⟨q1, q2, q3⟩ := parse_errs (linesL t) 0 (-1) sc0 he
      have hE : endE (prT t) = ((prT t).n, (prT t).e) := by unfold endE; rw [if_pos he]
      refine .inr (.inr ⟨(prT t).n, q2, ?_, q3⟩)
      rcases q1 with e | e
      · exact .inl (by rw [hE]; show (_, (prT t).e) = _; rw [show (prT t).e = 6 from e])
      · exact .inr (by rw [hE]; show (_, (prT t).e) = _; rw [show (prT t).e = 17 from e])
theorem linesT_plain (x y z : Int) (bl : List Int) (fs : List FtV) (ss : List StV) : linesT x y z bl fs ss = linesP ⟨x, y, z, bl, fs.map ftP, ss⟩ := by
  unfold linesT linesP
  dsimp only
  rw [List.map_map]
  rfl
end Go.Proofs.Ytefipigdkdopcaa
