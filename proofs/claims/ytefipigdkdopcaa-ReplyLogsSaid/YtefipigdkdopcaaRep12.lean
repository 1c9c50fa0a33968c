/- A reply's text, read, is that reply. No condition. -/
import Derived.Test.YtefipigdkdopcaaRep11
import Derived.Test.YtefipigdkdopcaaTextB
namespace Go.Proofs.Ytefipigdkdopcaa
open Go.RowKit

/-- A word without blanks. -/
def wrd (p : List UInt8) : Prop := (∀ d ∈ p, d ≠ 32 ∧ d ≠ 9) ∧ p ≠ []
theorem words_join : ∀ (ws : List (List UInt8)), (∀ p ∈ ws, wrd p) → wordsL (Lib.join ws [32]) = ws
  | [], _ => by rw [Lib.join_nil]; rfl
  | [p], h => by
    rw [Lib.join_one]
    exact split2_one 32 9 true p (h p (by simp)).1 (h p (by simp)).2
  | p :: q :: r, h => by
    have hp := h p (by simp)
    have e : Lib.join (p :: q :: r) [32] = p ++ 32 :: Lib.join (q :: r) [32] := by
      rw [Lib.join_cons, Lib.join_cons]
      simp [Lib.joinTail]
    rw [e]
    show split2 32 9 true (p ++ 32 :: Lib.join (q :: r) [32]) = _
    rw [split2_cons 32 9 true p 32 _ hp.1 (.inl rfl)]
    have ih := words_join (q :: r) (fun x hx => h x (by simp at hx ⊢; exact .inr hx))
    rw [if_pos (.inl hp.2)]
    show p :: wordsL _ = _
    rw [ih]
theorem wrd_digs (n : Nat) : wrd (digs n) := ⟨digs_noblank n, digs_ne n⟩
theorem hx16_ne : ∀ d : Nat, d < 16 → hx16 d ≠ 32 ∧ hx16 d ≠ 9 := by decide +kernel
theorem hexS_noblank (l : List UInt8) : ∀ d ∈ hexS l, d ≠ 32 ∧ d ≠ 9 := by
  intro d hd
  unfold hexS at hd
  obtain ⟨c, -, hc⟩ := List.mem_flatMap.1 hd
  have := c.toNat_lt
  simp only [List.mem_cons, List.not_mem_nil, or_false] at hc
  rcases hc with rfl | rfl
  · exact hx16_ne _ (by omega)
  · exact hx16_ne _ (by omega)
theorem wrd_hex (f : Fr) : wrd (hexS (frB f)) := by
  refine ⟨hexS_noblank _, fun h => ?_⟩
  have h1 := hexS_length (frB f)
  have h2 := frB_length f
  rw [h] at h1
  simp at h1
  omega
theorem wordsT_wrd (e : Int) (n : Nat) (fs : List Fr) (ls : List (Nat × Nat)) (cs : List Int) : ∀ p ∈ wordsT e n fs ls cs, wrd p := by
  intro p hp
  unfold wordsT restW at hp
  simp only [List.mem_append, List.mem_flatMap, List.mem_cons, List.not_mem_nil, or_false] at hp
  rcases hp with (rfl | rfl) | ((⟨f, -, hp⟩ | ⟨x, -, hp⟩) | ⟨v, -, hp⟩)
  · exact wrd_digs _
  · exact wrd_digs _
  · simp only [frW, List.mem_cons, List.not_mem_nil, or_false] at hp
    rcases hp with rfl | rfl
    · exact ⟨by decide, by decide⟩
    · exact wrd_hex f
  · simp only [prW, List.mem_cons, List.not_mem_nil, or_false] at hp
    rcases hp with rfl | rfl | rfl
    · exact ⟨by decide, by decide⟩
    · exact wrd_digs _
    · exact wrd_digs _
  · simp only [inW, List.mem_cons, List.not_mem_nil, or_false] at hp
    rcases hp with rfl | rfl
    · exact ⟨by decide, by decide⟩
    · exact wrd_digs _
theorem trim_snoc (s : List UInt8) : Lib.trimSuffix (s ++ [10]) [10] = s := by
  unfold Lib.trimSuffix Lib.hasSuffix
  rw [if_pos (by simp [List.isSuffixOf_iff_suffix])]
  simp
theorem frOf_hex {f : Fr} (h : may1 f = true) : frOf (hexS (frB f)) = f := by
  obtain ⟨nu, id, oi, ti, d⟩ := f
  obtain ⟨o, t, ho, ht, m⟩ := may1_nat h
  dsimp only at ho ht m
  subst ho
  subst ht
  unfold frOf
  rw [unhex_hex]
  have e : frB (nu, id, (o : Int), (t : Int), d) = frmP nu id o t d ++ [] := by rw [List.append_nil]; rfl
  rw [Option.getD_some, e, fget_put nu id o t d [] m]
theorem valW_digs {n : Nat} (h : n ≤ 1099511627776) : valW (digs n) = n := by
  show (numF (digs n)).toNat = n
  rw [(numF_digs h).1]; rfl
theorem go_fr : ∀ (fs : List Fr), (∀ f ∈ fs, may1 f = true) → ∀ rest F L C, parseGo (fs.flatMap frW ++ rest) F L C = parseGo rest (F ++ fs) L C
  | [], _, rest, F, L, C => by simp
  | f :: fs, h, rest, F, L, C => by
    rw [List.flatMap_cons, List.append_assoc]
    show parseGo ([102, 114, 97, 109, 101] :: hexS (frB f) :: (fs.flatMap frW ++ rest)) F L C = _
    rw [parseGo, if_pos rfl, List.tail_cons, List.headD_cons, frOf_hex (h f (by simp)), go_fr fs (fun g hg => h g (by simp [hg]))]
    simp
theorem go_pr : ∀ (ls : List (Nat × Nat)), (∀ x ∈ ls, x.1 ≤ 1099511627776 ∧ x.2 ≤ 1099511627776) → ∀ rest F L C, parseGo (ls.flatMap prW ++ rest) F L C = parseGo rest F (L ++ ls) C
  | [], _, rest, F, L, C => by simp
  | x :: ls, h, rest, F, L, C => by
    rw [List.flatMap_cons, List.append_assoc]
    show parseGo ([108, 111, 115, 116] :: digs x.1 :: digs x.2 :: (ls.flatMap prW ++ rest)) F L C = _
    have hx := h x (by simp)
    rw [parseGo, if_neg (by decide), if_pos rfl, List.tail_cons, List.headD_cons, List.tail_cons, List.headD_cons, valW_digs hx.1, valW_digs hx.2, go_pr ls (fun g hg => h g (by simp [hg]))]
    simp
theorem go_in : ∀ (cs : List Int), (∀ v ∈ cs, 0 ≤ v ∧ v ≤ 1099511627776) → ∀ rest F L C, parseGo (cs.flatMap inW ++ rest) F L C = parseGo rest F L (C ++ cs)
  | [], _, rest, F, L, C => by simp
  | v :: cs, h, rest, F, L, C => by
    rw [List.flatMap_cons, List.append_assoc]
    show parseGo ([99, 111, 117, 110, 116] :: digs v.toNat :: (cs.flatMap inW ++ rest)) F L C = _
    have hv := h v (by simp)
    rw [parseGo, if_neg (by decide), if_neg (by decide), if_pos rfl, List.tail_cons, List.headD_cons, valW_digs (by omega), go_in cs (fun g hg => h g (by simp [hg])), Int.toNat_of_nonneg hv.1]
    simp
theorem prs_text {e : Int} {n : Nat} {fs : List Fr} {ls : List (Nat × Nat)} {cs : List Int} (g : GoodR e n fs ls cs) : prs (textR e n fs ls cs) = ⟨e.toNat, n, fs, ls, cs⟩ ∧ prsOk (textR e n fs ls cs) := by
  have h1 := g.e0
  have h2 := g.e1
  have hw : prsW (textR e n fs ls cs) = wordsT e n fs ls cs := by
    unfold prsW textR
    rw [trim_snoc, words_join _ (wordsT_wrd e n fs ls cs)]
  have hp : prs (textR e n fs ls cs) = ⟨e.toNat, n, fs, ls, cs⟩ := by
    have hgo : parseGo (restW fs ls cs) [] [] [] = (fs, ls, cs) := by
      unfold restW
      rw [List.append_assoc, go_fr fs g.hf, go_pr ls g.hl]
      have := go_in cs g.hc [] ([] ++ fs) ([] ++ ls) []
      rw [List.append_nil] at this
      rw [this, parseGo]
      simp
    unfold prs
    rw [hw]
    have e1 : (wordsT e n fs ls cs).headD [] = digs e.toNat := rfl
    have e2 : (wordsT e n fs ls cs).tail.headD [] = digs n := rfl
    have e3 : (wordsT e n fs ls cs).tail.tail = restW fs ls cs := rfl
    dsimp only
    rw [e1, e2, e3, hgo, valW_digs (by omega), valW_digs g.hn]
  refine ⟨hp, ?_⟩
  unfold prsOk
  rw [hp]
  dsimp only
  rw [Int.toNat_of_nonneg h1]
  exact ⟨chk_good.2 g, rfl⟩
end Go.Proofs.Ytefipigdkdopcaa
