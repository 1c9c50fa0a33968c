/- Plain facts: commands printed and read are these commands. No condition. -/
import Derived.Test.YtefipigdkdopcaaCmd10
namespace Go.Proofs.Ytefipigdkdopcaa
open Go.RowKit

theorem prGo_zero : ∀ (l : List Cx) (acc : List UInt8), (prGo l acc).e = 0 → (∀ c ∈ l, cmdCheck c.k c.a c.b = 0) ∧ (prGo l acc).t = acc ++ (l.map (fun c => textK c.k c.a c.b ++ [10])).flatten := by
  intro l
  induction l with
  | nil => intro acc _; simp [prGo]
  | cons c r ih =>
    intro acc h
    unfold prGo at h ⊢
    by_cases g : cmdCheck c.k c.a c.b = 0
    · rw [if_neg (by simpa using g)] at h ⊢
      obtain ⟨i1, i2⟩ := ih _ h
      refine ⟨fun d hd => ?_, ?_⟩
      · rcases List.mem_cons.1 hd with rfl | hd
        · exact g
        · exact i1 d hd
      · rw [i2]; simp
    · rw [if_pos g] at h
      exact absurd h g
theorem textK_noline {k : Int} (h : 1 ≤ k ∧ k ≤ 7) (a b : Nat) : ∀ d ∈ textK k a b, d ≠ 10 ∧ d ≠ 10 := by
  have hw := (wordK_free h).1
  have hm := manyK_le k
  have key : ∀ d ∈ textK k a b, d ≠ 10 := by
    intro d hd
    unfold textK at hd
    rcases (by omega : manyK k = 0 ∨ manyK k = 1 ∨ manyK k = 2) with e | e | e <;> rw [e] at hd <;> simp only [txtN, List.getD_cons_zero, List.getD_cons_succ, List.mem_append, List.mem_cons] at hd
    · exact (hw d hd).2
    · rcases hd with hd | rfl | hd
      · exact (hw d hd).2
      · decide
      · exact (digs_noline a d hd).1
    · rcases hd with (hd | rfl | hd) | rfl | hd
      · exact (hw d hd).2
      · decide
      · exact (digs_noline a d hd).1
      · decide
      · exact (digs_noline b d hd).1
  exact fun d hd => ⟨key d hd, key d hd⟩
def Cx.m (c : Cx) : Cm := ⟨c.k.toNat, c.a, c.b, 0⟩
theorem lines_printed : ∀ (l : List Cx), (∀ c ∈ l, cmdCheck c.k c.a c.b = 0) → linesL ((l.map (fun c => textK c.k c.a c.b ++ [10])).flatten) = l.map (fun c => textK c.k c.a c.b) := by
  intro l
  induction l with
  | nil => intro _; rfl
  | cons c r ih =>
    intro h
    have hk := (check_zero (h c (by simp))).1
    have e : (((c :: r).map (fun c => textK c.k c.a c.b ++ [10])).flatten : List UInt8) = textK c.k c.a c.b ++ 10 :: (r.map (fun c => textK c.k c.a c.b ++ [10])).flatten := by simp
    show split2 10 10 false _ = _
    rw [e, split2_cons _ _ _ _ _ _ (textK_noline hk c.a c.b) (.inl rfl), if_pos (.inr rfl), List.map_cons]
    congr 1
    exact ih (fun d hd => h d (by simp [hd]))
theorem allGo_printed : ∀ (l : List Cx) (i : Nat) (acc : List Cm), (∀ c ∈ l, cmdCheck c.k c.a c.b = 0) → allGo (l.map (fun c => textK c.k c.a c.b)) i acc = ⟨acc ++ l.map Cx.m, 0, 0⟩ := by
  intro l
  induction l with
  | nil => intro i acc _; simp [allGo]
  | cons c r ih =>
    intro i acc h
    have hc := h c (by simp)
    have hk := (check_zero hc).1
    obtain ⟨kn, hkn⟩ : ∃ kn : Nat, c.k = kn := ⟨c.k.toNat, by omega⟩
    have hp : parseC (textK c.k c.a c.b) = c.m := by
      rw [hkn] at hc ⊢
      rw [parse_text hc]
      unfold Cx.m
      rw [hkn]
      rfl
    rw [List.map_cons]
    unfold allGo
    rw [words_textK hk, if_neg (by simp), hp, if_neg (by simp [Cx.m]), ih _ _ (fun d hd => h d (by simp [hd]))]
    simp
theorem all_printed {l : List Cx} (h : (prGo l []).e = 0) : allC (prGo l []).t = ⟨l.map Cx.m, 0, 0⟩ := by
  obtain ⟨h1, h2⟩ := prGo_zero l [] h
  unfold allC
  rw [h2, List.nil_append, lines_printed l h1, allGo_printed l 0 [] h1]
  simp
theorem m_x {l : List Cx} (h : (prGo l []).e = 0) : (l.map Cx.m).map Cm.x = l := by
  obtain ⟨h1, -⟩ := prGo_zero l [] h
  rw [List.map_map]
  have : ∀ c ∈ l, (Cm.x ∘ Cx.m) c = c := by
    intro c hc
    have hk := (check_zero (h1 c hc)).1
    obtain ⟨k, a, b⟩ := c
    simp only [Function.comp, Cx.m, Cm.x]
    dsimp only at hk
    congr 1
    omega
  conv => rhs; rw [← List.map_id l]
  exact List.map_congr_left this
end Go.Proofs.Ytefipigdkdopcaa
