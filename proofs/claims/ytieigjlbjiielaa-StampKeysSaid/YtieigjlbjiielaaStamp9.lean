/- Plain facts: texts of stamps tell them apart. -/
import Derived.Test.YtieigjlbjiielaaStamp7
namespace Go.Proofs.Ytieigjlbjiielaa

theorem digs_plain : ∀ (k n : Nat), n ≤ k → ∀ b ∈ digs n, b ≠ 32
  | k, n, hk, b, hb => by
    rw [digs] at hb
    split at hb
    · rename_i h
      simp only [List.mem_singleton] at hb
      rw [hb]
      intro e
      have := congrArg UInt8.toNat e
      rw [UInt8.toNat_ofNat'] at this
      simp at this
      omega
    · rename_i h
      rcases List.mem_append.1 hb with hb | hb
      · exact digs_plain (k - 1) (n / 10) (by omega) b hb
      · simp only [List.mem_singleton] at hb
        rw [hb]
        intro e
        have := congrArg UInt8.toNat e
        rw [UInt8.toNat_ofNat'] at this
        simp at this
        omega
  termination_by k => k
  decreasing_by omega
/-- The number of digits. -/
def valD (l : List UInt8) : Nat := l.foldl (fun v b => v * 10 + (b.toNat - 48)) 0
theorem valD_digs : ∀ (k n : Nat), n ≤ k → valD (digs n) = n
  | k, n, hk => by
    rw [digs]
    split
    · rename_i h
      simp only [valD, List.foldl_cons, List.foldl_nil, UInt8.toNat_ofNat']
      omega
    · rename_i h
      have := valD_digs (k - 1) (n / 10) (by omega)
      unfold valD at this ⊢
      rw [List.foldl_append, this]
      simp only [List.foldl_cons, List.foldl_nil, UInt8.toNat_ofNat']
      omega
  termination_by k => k
  decreasing_by omega
theorem digs_inj {m n : Nat} (h : digs m = digs n) : m = n := by
  rw [← valD_digs m m (Nat.le_refl _), h, valD_digs n n (Nat.le_refl _)]
theorem cut_at (c : UInt8) : ∀ (p q x y : List UInt8), (∀ b ∈ p, b ≠ c) → (∀ b ∈ q, b ≠ c) → p ++ c :: x = q ++ c :: y → p = q ∧ x = y
  | [], [], x, y, _, _, h => ⟨rfl, by simpa using h⟩
  | [], b :: q, x, y, _, hq, h => absurd (by simpa using (List.cons.inj h).1.symm) (hq b List.mem_cons_self)
  | a :: p, [], x, y, hp, _, h => absurd (by simpa using (List.cons.inj h).1) (hp a List.mem_cons_self)
  | a :: p, b :: q, x, y, hp, hq, h => by
    simp only [List.cons_append, List.cons.injEq] at h
    obtain ⟨e1, e2⟩ := cut_at c p q x y (fun z hz => hp z (List.mem_cons_of_mem _ hz)) (fun z hz => hq z (List.mem_cons_of_mem _ hz)) h.2
    exact ⟨by rw [h.1, e1], e2⟩
theorem digs_cut (m n : Nat) (x y : List UInt8) (h : digs m ++ 32 :: x = digs n ++ 32 :: y) : m = n ∧ x = y := by
  obtain ⟨h1, h2⟩ := cut_at 32 _ _ x y (digs_plain m m (Nat.le_refl _)) (digs_plain n n (Nat.le_refl _)) h
  exact ⟨digs_inj h1, h2⟩
theorem keyB_inj {a b c d e a' b' c' d' e' : Nat} {x y : List UInt8} (h : keyB a b c d e x = keyB a' b' c' d' e' y) : a = a' ∧ b = b' ∧ c = c' ∧ d = d' ∧ e = e' ∧ x = y := by
  simp only [keyB, List.nil_append, List.append_assoc, List.cons_append] at h
  obtain ⟨h1, h⟩ := digs_cut _ _ _ _ h
  obtain ⟨h2, h⟩ := digs_cut _ _ _ _ h
  obtain ⟨h3, h⟩ := digs_cut _ _ _ _ h
  obtain ⟨h4, h⟩ := digs_cut _ _ _ _ h
  obtain ⟨h5, h⟩ := digs_cut _ _ _ _ h
  exact ⟨h1, h2, h3, h4, h5, h⟩
end Go.Proofs.Ytieigjlbjiielaa
