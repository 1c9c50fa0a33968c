/- Layer 41: plain facts on steps' lines, there and back. No condition. -/
import Derived.Test.YtefipigdkdopcaaTap13
import Derived.Test.YtefipigdkdopcaaTap12
namespace Go.Proofs.Ytefipigdkdopcaa
open Go.RowKit

theorem digI_free (n : Int) : (∀ d ∈ digI n, d ≠ 32 ∧ d ≠ 9 ∧ d ≠ 10) ∧ digI n ≠ [] := by
  have h1 := digs_noblank n.natAbs
  have h2 := digs_noline n.natAbs
  have h3 := digs_ne n.natAbs
  unfold digI
  split
  · refine ⟨fun d hd => ?_, by simp⟩
    rcases List.mem_cons.1 hd with rfl | hd
    · decide
    · exact ⟨(h1 d hd).1, (h1 d hd).2, (h2 d hd).1⟩
  · exact ⟨fun d hd => ⟨(h1 d hd).1, (h1 d hd).2, (h2 d hd).1⟩, h3⟩
theorem hx16_free : ∀ d : Nat, d < 16 → hx16 d ≠ 32 ∧ hx16 d ≠ 9 ∧ hx16 d ≠ 10 := by decide +kernel
theorem hexS_free : ∀ (xs : List UInt8), ∀ d ∈ hexS xs, d ≠ 32 ∧ d ≠ 9 ∧ d ≠ 10
  | [], d, h => by cases h
  | c :: r, d, h => by
    rw [hexS_cons] at h
    have hc := c.toNat_lt
    rcases List.mem_cons.1 h with rfl | h
    · exact hx16_free _ (by omega)
    rcases List.mem_cons.1 h with rfl | h
    · exact hx16_free _ (by omega)
    · exact hexS_free r d h
theorem hexW_free (xs : List UInt8) : (∀ d ∈ hexW xs, d ≠ 32 ∧ d ≠ 9 ∧ d ≠ 10) ∧ hexW xs ≠ [] := by
  unfold hexW
  split
  · exact ⟨fun d hd => by rcases List.mem_singleton.1 hd with rfl; decide, by simp⟩
  · rename_i h
    refine ⟨hexS_free xs, fun e => h ?_⟩
    have := hexS_length xs
    rw [e] at this
    exact List.eq_nil_of_length_eq_zero (by simp at this; omega)
theorem bytes_hexW (d : List UInt8) : bytesW (hexW d) = d := by
  unfold hexW
  split
  · rename_i h
    rw [h]
    decide +kernel
  · unfold bytesW
    rw [unhex_hex]
    rfl
theorem blank {l : List UInt8} (h : ∀ d ∈ l, d ≠ 32 ∧ d ≠ 9 ∧ d ≠ 10) : ∀ d ∈ l, d ≠ 32 ∧ d ≠ 9 := fun d hd => ⟨(h d hd).1, (h d hd).2.1⟩
theorem words3 {a b c : List UInt8} (ha : ∀ d ∈ a, d ≠ 32 ∧ d ≠ 9) (hb : ∀ d ∈ b, d ≠ 32 ∧ d ≠ 9) (hc : ∀ d ∈ c, d ≠ 32 ∧ d ≠ 9) (h1 : a ≠ []) (h2 : b ≠ []) (h3 : c ≠ []) : wordsL (a ++ [32] ++ b ++ [32] ++ c) = [a, b, c] := by
  unfold wordsL
  rw [show a ++ [32] ++ b ++ [32] ++ c = a ++ 32 :: (b ++ 32 :: c) by simp]
  rw [split2_cons _ _ _ _ _ _ ha (.inl rfl), if_pos (.inl h1), split2_cons _ _ _ _ _ _ hb (.inl rfl), if_pos (.inl h2), split2_one _ _ _ _ hc h3]
theorem words_ing (p : Int) (d : List UInt8) : wordsL ([105, 110, 103, 101, 115, 116, 32] ++ digI p ++ [32] ++ hexW d) = [wIng, digI p, hexW d] :=
  words3 (a := wIng) (b := digI p) (c := hexW d) (by decide) (blank (digI_free p).1) (blank (hexW_free d).1) (by decide) (digI_free p).2 (hexW_free d).2
theorem wordK_own {k : Int} (h : 1 ≤ k ∧ k ≤ 7) : wordK k ≠ wPow ∧ wordK k ≠ wIng := by
  rcases (by omega : k = 1 ∨ k = 2 ∨ k = 3 ∨ k = 4 ∨ k = 5 ∨ k = 6 ∨ k = 7) with rfl | rfl | rfl | rfl | rfl | rfl | rfl <;> decide

/-- A step's line read is that step. -/
theorem stepF_line {s : StV} (h : stepOk s = true) : stepF (lineS s) = (s, 0) := by
  obtain ⟨k, d, p, a, b⟩ := s
  by_cases h8 : k = 8
  · subst h8
    have hl : lineS ⟨8, d, p, a, b⟩ = [105, 110, 103, 101, 115, 116, 32] ++ digI p ++ [32] ++ hexW d := by unfold lineS; rw [if_pos rfl]
    have hok := h
    unfold stepOk at h
    rw [if_pos rfl, decide_eq_true_iff] at h
    obtain ⟨hp, hd, rfl, rfl⟩ := h
    dsimp only at hp hd
    have e : stepF (lineS ⟨8, d, p, 0, 0⟩) = (match wordsL (lineS ⟨8, d, p, 0, 0⟩) with
      | [] => (st0, 17)
      | h :: r =>
        if h = wPow then if r.length = 0 then stChk ⟨9, [], 0, 0, 0⟩ (lineS ⟨8, d, p, 0, 0⟩) else (st0, 17)
        else if h = wIng then if r.length = 2 then stChk ⟨8, bytesW (r.getD 1 []), numF (r.getD 0 []), 0, 0⟩ (lineS ⟨8, d, p, 0, 0⟩) else (st0, 17)
        else (⟨((parseC (lineS ⟨8, d, p, 0, 0⟩)).k : Nat), [], 0, (parseC (lineS ⟨8, d, p, 0, 0⟩)).a, (parseC (lineS ⟨8, d, p, 0, 0⟩)).b⟩, (parseC (lineS ⟨8, d, p, 0, 0⟩)).e)) := rfl
    rw [e, show wordsL (lineS ⟨8, d, p, 0, 0⟩) = [wIng, digI p, hexW d] by rw [hl]; exact words_ing p d]
    dsimp only
    rw [if_neg (by decide), if_pos rfl, if_pos (by rfl), show ([digI p, hexW d] : List (List UInt8)).getD 1 [] = hexW d from rfl, show ([digI p, hexW d] : List (List UInt8)).getD 0 [] = digI p from rfl, bytes_hexW, (numF_digI (by omega) (by omega)).1]
    unfold stChk
    rw [if_pos ⟨rfl, hok⟩]
  by_cases h9 : k = 9
  · subst h9
    have hok := h
    unfold stepOk at h
    rw [if_neg (show ¬ ((9 : Int) = 8) by decide), if_pos rfl, decide_eq_true_iff] at h
    obtain ⟨hd, hp, ha, hb⟩ := h
    dsimp only at hd hp ha hb
    subst hd hp ha hb
    exact s_pow
  have hl : stepOk ⟨k, d, p, a, b⟩ = decide (d = [] ∧ p = 0 ∧ cmdCheck k a b = 0) := by unfold stepOk; rw [if_neg h8, if_neg h9]
  rw [hl, decide_eq_true_iff] at h
  obtain ⟨rfl, rfl, hc⟩ := h
  obtain ⟨hk, -⟩ := check_zero hc
  obtain ⟨kn, rfl⟩ : ∃ kn : Nat, k = kn := ⟨k.toNat, by omega⟩
  have hl : lineS ⟨(kn : Nat), [], 0, a, b⟩ = textK (kn : Nat) a b := by unfold lineS; rw [if_neg h8, if_neg h9, if_pos hc]
  rw [hl]
  have hp := parse_text hc
  unfold stepF
  rw [words_textK hk]
  dsimp only
  rw [if_neg (wordK_own hk).1, if_neg (wordK_own hk).2, hp]
theorem stChk_ok {st : StV} {s : List UInt8} (h : (stChk st s).2 = 0) : stepOk (stChk st s).1 = true ∧ lineS (stChk st s).1 = s := by
  unfold stChk at h ⊢
  split at h
  · rename_i g
    rw [if_pos g]
    exact ⟨g.2, g.1⟩
  · cases h
theorem stChk_bad {st : StV} {s : List UInt8} (h : (stChk st s).2 ≠ 0) : stChk st s = (st0, 6) := by
  unfold stChk at h ⊢
  split at h
  · exact absurd rfl h
  · rename_i g
    rw [if_neg g]
theorem stepF_eq (s : List UInt8) : stepF s = (match wordsL s with
    | [] => (st0, 17)
    | h :: r =>
      if h = wPow then if r.length = 0 then stChk ⟨9, [], 0, 0, 0⟩ s else (st0, 17)
      else if h = wIng then if r.length = 2 then stChk ⟨8, bytesW (r.getD 1 []), numF (r.getD 0 []), 0, 0⟩ s else (st0, 17)
      else (⟨((parseC s).k : Nat), [], 0, (parseC s).a, (parseC s).b⟩, (parseC s).e)) := rfl
theorem stepF_ok {s : List UInt8} (h : (stepF s).2 = 0) : stepOk (stepF s).1 = true ∧ lineS (stepF s).1 = s := by
  rw [stepF_eq] at h ⊢
  cases hw : wordsL s with
  | nil => rw [hw] at h; cases h
  | cons a r =>
    rw [hw] at h
    dsimp only at h ⊢
    by_cases h1 : a = wPow
    · rw [if_pos h1] at h ⊢
      by_cases h2 : r.length = 0
      · rw [if_pos h2] at h ⊢; exact stChk_ok h
      · rw [if_neg h2] at h; cases h
    · rw [if_neg h1] at h ⊢
      by_cases h2 : a = wIng
      · rw [if_pos h2] at h ⊢
        by_cases h3 : r.length = 2
        · rw [if_pos h3] at h ⊢; exact stChk_ok h
        · rw [if_neg h3] at h; cases h
      · rw [if_neg h2] at h ⊢
        dsimp only at h ⊢
        obtain ⟨hc, ht⟩ := parse_ok h
        obtain ⟨hk, -⟩ := check_zero hc
        generalize (parseC s).k = k at *
        generalize (parseC s).a = x at *
        generalize (parseC s).b = y at *
        constructor
        · unfold stepOk
          rw [if_neg (by dsimp only; omega), if_neg (by dsimp only; omega), decide_eq_true_iff]
          exact ⟨rfl, rfl, hc⟩
        · unfold lineS
          rw [if_neg (by dsimp only; omega), if_neg (by dsimp only; omega)]
          dsimp only
          rw [if_pos hc, ht]
theorem stepF_bad {s : List UInt8} (h : (stepF s).2 ≠ 0) : stepF s = (st0, 17) ∨ stepF s = (st0, 6) := by
  rw [stepF_eq] at h ⊢
  cases hw : wordsL s with
  | nil => exact .inl rfl
  | cons a r =>
    rw [hw] at h
    dsimp only at h ⊢
    by_cases h1 : a = wPow
    · rw [if_pos h1] at h ⊢
      by_cases h2 : r.length = 0
      · rw [if_pos h2] at h ⊢; exact .inr (stChk_bad h)
      · rw [if_neg h2]; exact .inl rfl
    · rw [if_neg h1] at h ⊢
      by_cases h2 : a = wIng
      · rw [if_pos h2] at h ⊢
        by_cases h3 : r.length = 2
        · rw [if_pos h3] at h ⊢; exact .inr (stChk_bad h)
        · rw [if_neg h3]; exact .inl rfl
      · rw [if_neg h2] at h ⊢
        dsimp only at h ⊢
        rw [parse_bad h]
        cases lineB s
        · exact .inr rfl
        · exact .inl rfl
end Go.Proofs.Ytefipigdkdopcaa
