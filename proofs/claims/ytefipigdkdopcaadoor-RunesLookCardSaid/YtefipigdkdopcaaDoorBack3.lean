/- Plain facts: an escaped text read is that text. No condition. -/
import Derived.Test.YtefipigdkdopcaaDoorBack2
namespace Go.Proofs.YtefipigdkdopcaaDoor
open Go.RowKit

theorem hexC_facts {d : Nat} (h : d < 16) : hexI (hexC d) = d ∧ (hexC d).toNat ≤ 102 ∧ hexC d ≠ 46 ∧ hexC d ≠ 120 := by
  rcases (by omega : d = 0 ∨ d = 1 ∨ d = 2 ∨ d = 3 ∨ d = 4 ∨ d = 5 ∨ d = 6 ∨ d = 7 ∨ d = 8 ∨ d = 9 ∨ d = 10 ∨ d = 11 ∨ d = 12 ∨ d = 13 ∨ d = 14 ∨ d = 15) with rfl | rfl | rfl | rfl | rfl | rfl | rfl | rfl | rfl | rfl | rfl | rfl | rfl | rfl | rfl | rfl <;> decide
theorem valGo_snoc {d : Nat} (hd : d < 16) (l : List UInt8) : ∀ (n v : Nat), valGo l n = (v : Int) → v ≤ 1114111 → valGo (l ++ [hexC d]) n = ((16 * v + d : Nat) : Int) := by
  obtain ⟨h1, h2, _⟩ := hexC_facts hd
  induction l with
  | nil =>
    intro n v hv hb
    have e : n = v := by unfold valGo at hv; omega
    subst e
    show valGo [hexC d] n = _
    unfold valGo valGo
    rw [h1, if_neg (by omega)]
    rw [Int.toNat_natCast]
  | cons b r ih =>
    intro n v hv hb
    rw [List.cons_append]
    unfold valGo at hv ⊢
    by_cases g : 126 < b.toNat ∨ hexI b < 0 ∨ 1114111 < n
    · rw [if_pos g] at hv; omega
    · rw [if_neg g] at hv ⊢
      exact ih _ v hv hb
theorem valGo_hexN (n : Nat) (h : n ≤ 1114111) : valGo (hexN n) 0 = n := by
  induction n using Nat.strongRecOn with
  | ind n ih =>
    by_cases h16 : n < 16
    · rw [hexN, if_pos h16]
      have := valGo_snoc (d := n) h16 [] 0 0 rfl (by omega)
      simpa using this
    · have := ih (n / 16) (by omega) (by omega)
      rw [hexN, if_neg h16, valGo_snoc (by omega) _ 0 (n / 16) this (by omega)]
      congr 1; omega
theorem valGo_twoN (n : Nat) (h : n ≤ 1114111) : valGo (twoN n) 0 = n := by
  unfold twoN
  by_cases h16 : n < 16
  · rw [if_pos h16]
    have h0 : valGo [48] 0 = ((0 : Nat) : Int) := by decide
    have := valGo_snoc (d := n) h16 [48] 0 0 h0 (by omega)
    simpa using this
  · rw [if_neg h16]; exact valGo_hexN n h
theorem hexN_all : ∀ (k n : Nat), n < 16 ^ (k + 1) → ∀ c ∈ hexN n, c ≠ 46 ∧ c ≠ 120
  | 0, n, h, c, hc => by
    have h' : n < 16 := by simpa using h
    rw [hexN, if_pos h'] at hc
    simp only [List.mem_singleton] at hc
    subst hc
    exact (hexC_facts h').2.2
  | k + 1, n, h, c, hc => by
    rw [hexN] at hc
    split at hc
    · rename_i h'
      simp only [List.mem_singleton] at hc
      subst hc
      exact (hexC_facts h').2.2
    · rcases List.mem_append.1 hc with hc | hc
      · exact hexN_all k (n / 16) (by rw [Nat.pow_succ] at h; omega) c hc
      · simp only [List.mem_singleton] at hc
        subst hc
        exact (hexC_facts (by omega)).2.2
theorem twoN_all {n : Nat} (h : n < 4294967296) : ∀ c ∈ twoN n, c ≠ 46 ∧ c ≠ 120 := by
  intro c hc
  unfold twoN at hc
  split at hc
  · rename_i h'
    rcases List.mem_cons.1 hc with rfl | hc
    · decide
    · simp only [List.mem_singleton] at hc
      subst hc
      exact (hexC_facts h').2.2
  · exact hexN_all 7 n (by omega) c hc
theorem cutAtB_free (c : UInt8) (p r : List UInt8) (h : ∀ d ∈ p, d ≠ c) : cutAtB c (p ++ c :: r) = some (p, r) := by
  induction p with
  | nil => simp [cutAtB]
  | cons d q ih =>
    rw [List.cons_append]
    unfold cutAtB
    rw [if_neg (h d (by simp)), ih (fun e he => h e (by simp [he]))]
    rfl
theorem take_bytes (q : List UInt8) : (1 ≤ q.length → q.take 1 = [q.getD 0 0]) ∧ (2 ≤ q.length → q.take 2 = [q.getD 0 0, q.getD 1 0]) ∧ (3 ≤ q.length → q.take 3 = [q.getD 0 0, q.getD 1 0, q.getD 2 0]) ∧ (4 ≤ q.length → q.take 4 = [q.getD 0 0, q.getD 1 0, q.getD 2 0, q.getD 3 0]) := by
  match q with
  | [] => simp
  | [a] => simp
  | [a, b] => simp
  | [a, b, c] => simp
  | a :: b :: c :: d :: r => simp
theorem byte_of (b : UInt8) (n : Nat) (h : n = b.toNat) : UInt8.ofNat n = b := by rw [h]; simp
theorem rune_valid (c : Nat) (h1 : c ≤ 1114111) (h2 : ¬ (55296 ≤ c ∧ c < 57344)) : Utf8.valid (c : Int) = true := by
  unfold Utf8.valid
  simp only [Bool.or_eq_true, Bool.and_eq_true, decide_eq_true_eq]
  omega
theorem enc_cases (c : Nat) (h1 : c ≤ 1114111) (h2 : ¬ (55296 ≤ c ∧ c < 57344)) : (Utf8.encode (c : Int)).data.toList = if c < 128 then [UInt8.ofNat c] else if c < 2048 then [UInt8.ofNat (192 + c / 64), UInt8.ofNat (128 + c % 64)] else if c < 65536 then [UInt8.ofNat (224 + c / 4096), UInt8.ofNat (128 + c / 64 % 64), UInt8.ofNat (128 + c % 64)] else [UInt8.ofNat (240 + c / 262144), UInt8.ofNat (128 + c / 4096 % 64), UInt8.ofNat (128 + c / 64 % 64), UInt8.ofNat (128 + c % 64)] := by
  have hv := rune_valid c h1 h2
  unfold Utf8.encode
  simp only [hv, if_true, Int.toNat_natCast]
  by_cases g1 : c < 128
  · simp only [g1, if_true]
  · by_cases g2 : c < 2048
    · simp only [g1, g2, if_true, if_false]
    · by_cases g3 : c < 65536
      · simp only [g1, g2, g3, if_true, if_false]
      · simp only [g1, g2, g3, if_false]
/-- A rune encoded is its bytes. -/
theorem enc_dec (q : List UInt8) (h0 : 0 < q.length) (hb : ¬ brk q) : (Utf8.encode ((decL q).1 : Nat)).data.toList = q.take (decL q).2 := by
  have e := decL_eq q
  obtain ⟨t1, t2, t3, t4⟩ := take_bytes q
  have hlen : ∀ k, 0 < at8 q k → k < q.length := by
    intro k hk
    by_cases hkl : k < q.length
    · exact hkl
    · rw [at8_out (by omega)] at hk; omega
  unfold brk at hb
  have u0 : q.getD 0 0 = UInt8.ofNat (at8 q 0) := (byte_of _ _ rfl).symm
  have u1 : q.getD 1 0 = UInt8.ofNat (at8 q 1) := (byte_of _ _ rfl).symm
  have u2 : q.getD 2 0 = UInt8.ofNat (at8 q 2) := (byte_of _ _ rfl).symm
  have u3 : q.getD 3 0 = UInt8.ofNat (at8 q 3) := (byte_of _ _ rfl).symm
  have l1 := hlen 1
  have l2 := hlen 2
  have l3 := hlen 3
  rw [u0] at t1
  rw [u0, u1] at t2
  rw [u0, u1, u2] at t3
  rw [u0, u1, u2, u3] at t4
  clear u0 u1 u2 u3 hlen
  generalize at8 q 0 = a at *
  generalize at8 q 1 = b at *
  generalize at8 q 2 = c at *
  generalize at8 q 3 = d at *
  by_cases g0 : a < 128
  · rw [if_pos g0] at e
    rw [e]
    dsimp only
    rw [enc_cases _ (by omega) (by omega), if_pos g0, t1 (by omega)]
  rw [if_neg g0] at e
  by_cases g1 : 192 ≤ a ∧ a < 224 ∧ 128 ≤ b ∧ b < 192
  · rw [if_pos g1] at e
    split at e
    · rw [e]
      have hl := l1 (by omega)
      dsimp only
      rw [enc_cases _ (by omega) (by omega), if_neg (by omega), if_pos (by omega), t2 (by omega)]
      rw [show 192 + ((a - 192) * 64 + (b - 128)) / 64 = a by omega, show 128 + ((a - 192) * 64 + (b - 128)) % 64 = b by omega]
    · exact absurd e hb
  rw [if_neg g1] at e
  by_cases g2 : 224 ≤ a ∧ a < 240 ∧ (128 ≤ b ∧ b < 192) ∧ 128 ≤ c ∧ c < 192
  · rw [if_pos g2] at e
    split at e
    · rename_i hv
      rw [e]
      have hl := l2 (by omega)
      dsimp only
      rw [enc_cases _ (by omega) (by omega), if_neg (by omega), if_neg (by omega), if_pos (by omega), t3 (by omega)]
      rw [show 224 + ((a - 224) * 4096 + (b - 128) * 64 + (c - 128)) / 4096 = a by omega, show 128 + ((a - 224) * 4096 + (b - 128) * 64 + (c - 128)) / 64 % 64 = b by omega, show 128 + ((a - 224) * 4096 + (b - 128) * 64 + (c - 128)) % 64 = c by omega]
    · exact absurd e hb
  rw [if_neg g2] at e
  by_cases g3 : 240 ≤ a ∧ a < 248 ∧ (128 ≤ b ∧ b < 192) ∧ (128 ≤ c ∧ c < 192) ∧ 128 ≤ d ∧ d < 192
  · rw [if_pos g3] at e
    split at e
    · rename_i hv
      rw [e]
      have hl := l3 (by omega)
      dsimp only
      rw [enc_cases _ (by omega) (by omega), if_neg (by omega), if_neg (by omega), if_neg (by omega), t4 (by omega)]
      rw [show 240 + ((a - 240) * 262144 + (b - 128) * 4096 + (c - 128) * 64 + (d - 128)) / 262144 = a by omega, show 128 + ((a - 240) * 262144 + (b - 128) * 4096 + (c - 128) * 64 + (d - 128)) / 4096 % 64 = b by omega, show 128 + ((a - 240) * 262144 + (b - 128) * 4096 + (c - 128) * 64 + (d - 128)) / 64 % 64 = c by omega, show 128 + ((a - 240) * 262144 + (b - 128) * 4096 + (c - 128) * 64 + (d - 128)) % 64 = d by omega]
    · exact absurd e hb
  rw [if_neg g3] at e
  exact absurd e hb
/-- An escaped text read. -/
theorem back_esc (xs : List UInt8) (i : Nat) : ∀ (f : Nat) (acc : List UInt8), (escF xs i).length ≤ f → backGo f (escF xs i) acc = some (acc ++ xs.drop i) := by
  fun_induction escF xs i with
  | case2 i h =>
    intro f acc _
    rw [List.drop_eq_nil_of_le (by omega), List.append_nil]
    cases f <;> rfl
  | case1 i h ih =>
    intro f acc hf
    have hcut : xs.drop i = (xs.drop i).take (widAt xs i) ++ xs.drop (i + widAt xs i) := by rw [← List.drop_drop, List.take_append_drop]
    have hrl := rune_le xs i h
    have h8 := at8_lt xs i
    have h0 : 0 < (xs.drop i).length := by rw [List.length_drop]; omega
    have hpp := plain_part xs i h
    unfold escOne at hf ⊢
    by_cases hb : brk (xs.drop i)
    · rw [if_pos hb] at hf ⊢
      have e : [92, 120] ++ twoN (at8 xs i) ++ [46] ++ escF xs (i + widAt xs i) = 92 :: ((120 :: twoN (at8 xs i)) ++ 46 :: escF xs (i + widAt xs i)) := by simp
      rw [e] at hf ⊢
      obtain ⟨f', rfl⟩ : ∃ f', f = f' + 1 := ⟨f - 1, by rw [List.length_cons] at hf; omega⟩
      have hc := cutAtB_free 46 (120 :: twoN (at8 xs i)) (escF xs (i + widAt xs i)) (fun d hd => by
        rcases List.mem_cons.1 hd with rfl | hd
        · decide
        · exact (twoN_all (by omega) d hd).1)
      simp only [backGo, ne_eq, not_true_eq_false, if_false, hc]
      rw [ih f' _ (by simp only [List.length_cons, List.length_append] at hf; omega)]
      have ho : oneF (120 :: twoN (at8 xs i)) = (xs.drop i).take (widAt xs i) := by
        unfold oneF
        rw [if_pos (show (120 :: twoN (at8 xs i)).head? = some 120 from rfl), List.tail_cons, valGo_twoN _ (by omega)]
        have hw : widAt xs i = 1 := by unfold widAt; rw [hb]
        rw [hw, take_one xs i h]
        congr 1
        exact byte_of _ _ (by show _ = at8 xs i; omega)
      rw [ho]
      conv => rhs; rw [hcut]
      simp
    · rw [if_neg hb] at hf ⊢
      by_cases hpb : plainB (runeAt xs i) = true ∧ runeAt xs i ≠ 92
      · rw [if_pos hpb] at hf ⊢
        have hq := (hpp hpb.1).1
        rw [List.singleton_append] at hf ⊢
        obtain ⟨f', rfl⟩ : ∃ f', f = f' + 1 := ⟨f - 1, by rw [List.length_cons] at hf; omega⟩
        have hne : UInt8.ofNat (runeAt xs i) ≠ 92 := by
          intro h92
          have h1 := hpb.1
          unfold plainB at h1
          rw [decide_eq_true_iff] at h1
          have := congrArg UInt8.toNat h92
          rw [UInt8.toNat_ofNat'] at this
          have h92' : (92 : UInt8).toNat = 92 := rfl
          rw [h92'] at this
          exact hpb.2 (by omega)
        simp only [backGo, ne_eq, hne, not_false_eq_true, if_true]
        rw [ih f' _ (by rw [List.length_cons] at hf; omega)]
        conv => rhs; rw [hcut, hq]
        simp
      · rw [if_neg hpb] at hf ⊢
        have e : [92] ++ twoN (runeAt xs i) ++ [46] ++ escF xs (i + widAt xs i) = 92 :: (twoN (runeAt xs i) ++ 46 :: escF xs (i + widAt xs i)) := by simp
        rw [e] at hf ⊢
        obtain ⟨f', rfl⟩ : ∃ f', f = f' + 1 := ⟨f - 1, by rw [List.length_cons] at hf; omega⟩
        have hall := twoN_all (n := runeAt xs i) (by omega)
        have hc := cutAtB_free 46 (twoN (runeAt xs i)) (escF xs (i + widAt xs i)) (fun d hd => (hall d hd).1)
        simp only [backGo, ne_eq, not_true_eq_false, if_false, hc]
        rw [ih f' _ (by simp only [List.length_cons, List.length_append] at hf; omega)]
        have ho : oneF (twoN (runeAt xs i)) = (xs.drop i).take (widAt xs i) := by
          unfold oneF
          have hh : ¬ (twoN (runeAt xs i)).head? = some 120 := by
            intro hx
            cases ht : twoN (runeAt xs i) with
            | nil => rw [ht] at hx; cases hx
            | cons a r =>
              rw [ht] at hx hall
              simp only [List.head?_cons, Option.some.injEq] at hx
              exact (hall a (by simp)).2 hx
          rw [if_neg hh, valGo_twoN _ (by omega)]
          rw [show max ((runeAt xs i : Nat) : Int) 0 = ((runeAt xs i : Nat) : Int) by omega]
          have hed := enc_dec (xs.drop i) h0 hb
          unfold runeAt widAt
          exact hed
        rw [ho]
        conv => rhs; rw [hcut]
        simp
theorem back_of_esc (xs : List UInt8) : backF (escF xs 0) = ⟨xs, 0⟩ := by
  unfold backF
  rw [back_esc xs 0 _ [] (Nat.le_refl _), List.nil_append, List.drop_zero]
  dsimp only
  rw [if_pos rfl]
theorem back_ok {s : List UInt8} (h : (backF s).e = 0) : escF (backF s).t 0 = s := by
  unfold backF at h ⊢
  cases hb : backGo s.length s [] with
  | none => rw [hb] at h; cases h
  | some b =>
    rw [hb] at h
    dsimp only at h ⊢
    by_cases he : escF b 0 = s
    · rw [if_pos he]; exact he
    · rw [if_neg he] at h; cases h
theorem back_bad {s : List UInt8} (h : (backF s).e ≠ 0) : backF s = ⟨[], 6⟩ := by
  unfold backF at h ⊢
  cases hb : backGo s.length s [] with
  | none => rfl
  | some b =>
    rw [hb] at h
    dsimp only at h ⊢
    by_cases he : escF b 0 = s
    · rw [if_pos he] at h; exact absurd rfl h
    · rw [if_neg he]
end Go.Proofs.YtefipigdkdopcaaDoor
