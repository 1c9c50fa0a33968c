/- Contracts of layer 8 (stamp): what is ahead, when it ends. -/
import Derived.Test.YtieigjlbjiielaaDoorLib2
namespace Go.Proofs.YtieigjlbjiielaaDoor
open Go.RowKit

/-- A stamp as cells. -/
abbrev stp (a b : Nat) : Value := .agg #[.int .u64 (a : Int), .int .u64 (b : Int)]
/-- When something is over. -/
def endN (s life : Nat) : Nat := min (s + life) 18446744073709551615
theorem endN_lt (s life : Nat) : endN s life < 18446744073709551616 := by unfold endN; omega

theorem send_any (s1 s2 life : Nat) (w : World) (h1 : s1 < 18446744073709551616) (hl : life < 18446744073709551616) :
    Calls Tryd.prog 22 #[stp s1 s2, .int .u64 life] w fun e w' => e = .returned (.int .u64 (endN s1 life : Nat)) ∧ Below w.heap.size w w' := by
  have hB : Below w.heap.size w (w.alloc (.cells #[.int .u64 (s1 : Int), .int .u64 (s2 : Int)] 24)) := (Below.refl _ _).alloc (Nat.le_refl _) _
  have hh := alloc_new w (.cells #[.int .u64 (s1 : Int), .int .u64 (s2 : Int)] 24 (0, 0))
  have hc : (w.alloc (.cells #[.int .u64 (s1 : Int), .int .u64 (s2 : Int)] 24)).cell? ⟨w.heap.size, 0, none⟩ = some (.int .u64 (s1 : Int)) := cell_heap hh
  have HE : Hid (endN s1 life = min (s1 + life) 18446744073709551615) := rfl
  generalize endN s1 life = r at *
  by_cases h : s1 + life ≤ 18446744073709551615
  · go_enter Tryd.func22, Tryd.ntmps22
    go_wp2
    go_ret
    exact ⟨ret_int (by rw [HE.out]; omega), hB⟩
  · go_enter Tryd.func22, Tryd.ntmps22
    go_wp2
    go_ret
    exact ⟨ret_int (by rw [HE.out]; omega), hB⟩
theorem sover_any (s1 s2 life now : Nat) (w : World) (h1 : s1 < 18446744073709551616) (hl : life < 18446744073709551616) :
    Calls Tryd.prog 23 #[stp s1 s2, .int .u64 life, .int .u64 now] w fun e w' => e = .returned (.bool (decide (endN s1 life ≤ now))) ∧ Below w.heap.size w w' := by
  have hB : Below w.heap.size w (w.alloc (.cells #[.int .u64 (s1 : Int), .int .u64 (s2 : Int)] 24)) := (Below.refl _ _).alloc (Nat.le_refl _) _
  have hh := alloc_new w (.cells #[.int .u64 (s1 : Int), .int .u64 (s2 : Int)] 24 (0, 0))
  have hc : (w.alloc (.cells #[.int .u64 (s1 : Int), .int .u64 (s2 : Int)] 24)).cell? ⟨w.heap.size, 0, none⟩ = some (.int .u64 (s1 : Int)) := cell_heap hh
  have hc1 : (w.alloc (.cells #[.int .u64 (s1 : Int), .int .u64 (s2 : Int)] 24)).cell? ⟨w.heap.size, 1, none⟩ = some (.int .u64 (s2 : Int)) := cell_heap hh
  have K := Lib.hid (send_any s1 s2 life (w.alloc (.cells #[.int .u64 (s1 : Int), .int .u64 (s2 : Int)] 24)) h1 hl)
  generalize endN s1 life = r at *
  have HD : Hid (decide (r ≤ now) = decide ((r : Int) ≤ now)) := by show _ = _; rw [decide_eq_decide]; omega
  generalize decide (r ≤ now) = d at *
  clear h1 hl
  go_enter Tryd.func23, Tryd.ntmps23
  go_wp2_with (first
    | (go_at_call 22; refine K.out.mono ?_; rintro e w2 ⟨rfl, hb⟩; replace hB := below_trans hB hb; clear hb))
  go_ret
  exact ⟨ret_bool (by rw [HD.out]; simp), hB⟩

/-- Which of two stamps is ahead. -/
def lessB (a1 a2 b1 b2 : Nat) : Bool := decide (a1 < b1) || (decide (a1 = b1) && decide (a2 < b2))

set_option maxRecDepth 100000 in
theorem sless_any (a1 a2 b1 b2 : Nat) (w : World) :
    Calls Tryd.prog 24 #[stp a1 a2, stp b1 b2] w fun e w' => e = .returned (.bool (lessB a1 a2 b1 b2)) ∧ Below w.heap.size w w' := by
  obtain ⟨hB, hca, hcb⟩ := two_cells w #[.int .u64 (a1 : Int), .int .u64 (a2 : Int)] #[.int .u64 (b1 : Int), .int .u64 (b2 : Int)] 24 24
  have c0 := hca 0 _ rfl
  have c1 := hca 1 _ rfl
  have d0 := hcb 0 _ rfl
  have d1 := hcb 1 _ rfl
  clear hca hcb
  have HL : Hid (lessB a1 a2 b1 b2 = (decide (a1 < b1) || (decide (a1 = b1) && decide (a2 < b2)))) := rfl
  generalize lessB a1 a2 b1 b2 = r at *
  by_cases h1 : a1 = b1
  · by_cases h2 : a2 = b2
    · have Hr : Hid (r = false) := by show _ = _; rw [HL.out]; simp [h1, h2]
      subst h1
      subst h2
      go_enter Tryd.func24, Tryd.ntmps24
      go_wp2
      go_ret
      exact ⟨ret_bool Hr.out.symm, hB⟩
    · have Hr : Hid (r = decide (a2 < b2)) := by show _ = _; rw [HL.out]; simp [h1]
      subst h1
      have HD : Hid (decide (a2 < b2) = decide ((a2 : Int) < b2)) := by show _ = _; rw [decide_eq_decide]; omega
      go_enter Tryd.func24, Tryd.ntmps24
      go_wp2
      go_ret
      exact ⟨ret_bool (by rw [Hr.out, HD.out]; try simp), hB⟩
  · have Hr : Hid (r = decide (a1 < b1)) := by show _ = _; rw [HL.out]; simp [h1]
    by_cases h2 : a1 < b1
    · go_enter Tryd.func24, Tryd.ntmps24
      go_wp2
      go_ret
      exact ⟨ret_bool (by rw [Hr.out]; simp [h2]), hB⟩
    · go_enter Tryd.func24, Tryd.ntmps24
      go_wp2
      go_ret
      exact ⟨ret_bool (by rw [Hr.out]; simp [h2]), hB⟩

/-- The digits of n. -/
def digs (n : Nat) : List UInt8 := if n < 10 then [UInt8.ofNat (48 + n)] else digs (n / 10) ++ [UInt8.ofNat (48 + n % 10)]
decreasing_by omega
theorem digs_length : ∀ (k n : Nat), n < 10 ^ (k + 1) → (digs n).length ≤ k + 1
  | 0, n, h => by rw [digs, if_pos (by simpa using h)]; simp
  | k + 1, n, h => by
    rw [digs]
    split
    · simp
    · have := digs_length k (n / 10) (by rw [Nat.pow_succ] at h; omega)
      simp; omega
theorem digs_len {n : Nat} (h : n < 18446744073709551616) : (digs n).length ≤ 20 := digs_length 19 n (by omega)

set_option maxRecDepth 100000 in
theorem sdigits_any (n : Nat) (w : World) (hn : n < 18446744073709551616) :
    Calls Tryd.prog 41 #[.int .u64 n] w fun e w' => e = .returned (.string ⟨(digs n).toArray⟩) ∧ Below w.heap.size w w' := by
  have hB := Below.refl w.heap.size w
  have HD : Hid (∃ s, s = digs n) := ⟨_, rfl⟩
  obtain ⟨s, Hs⟩ := HD.out
  have HS : Hid (digs n = s ∧ s.length ≤ 20) := ⟨Hs.symm, by rw [Hs]; exact digs_len hn⟩
  rw [← Hs]
  clear Hs HD
  go_enter Tryd.func41, Tryd.ntmps41
  go_wp2_with fail
  go_loopw [0, 3] (fun x t wr => ∃ (m : Nat) (q : List UInt8), x = .int .u64 m ∧ t = .string ⟨q.toArray⟩ ∧ m < 18446744073709551616 ∧ digs m ++ q = s ∧ Below w.heap.size w wr) (fun x _ _ => (intOf x).toNat)
  case atStart => exact ⟨n, [], rfl, rfl, hn, by rw [HS.out.1]; simp, hB⟩
  case round =>
    obtain ⟨m, q, rfl, rfl, hm, hq, hBr⟩ := hrel
    have HQ := Lib.hid hq
    clear hq
    have hsl := HS.out.2
    have hql : q.length ≤ 20 := by rw [← HQ.out, List.length_append] at hsl; omega
    clear hsl
    by_cases h : 9 < m
    · obtain ⟨b, hb⟩ : ∃ b : UInt8, b = UInt8.ofNat (48 + m % 10) := ⟨_, rfl⟩
      have hb2 : (48 : Int) + m % 10 = (b.toNat : Int) := by rw [hb, UInt8.toNat_ofNat']; omega
      have ks := run_string_of (P := Tryd.prog) 61 9 5 Tryd.underlying61 Tryd.underlying5 Tryd.underlying9 (rd_one (w := wr) (e := 5) (x := (b.toNat : Int)) rfl)
      have hB2 : Below w.heap.size w (wr.alloc (.cells #[.int .u8 (b.toNat : Int)] 5)) := hBr.alloc hBr.size _
      have hlim : ¬ (9223372036854775807 < [b].length + q.length) := by simp; omega
      have HR : Hid (digs (m / 10) ++ ([b] ++ q) = s) := by
        show _ = _
        rw [← HQ.out, digs.eq_def m, if_neg (by omega), ← hb]; simp
      have hm2 : m / 10 < 18446744073709551616 := by omega
      have Hm2 := Lib.hid hm2
      clear hb hm2
      go_wp2_with fail
      rw [cat_bytes]
      go_roundw
      case rel => exact ⟨m / 10, [b] ++ q, by go_num, rfl, Hm2.out, HR.out, hB2⟩
      case measure => simp [intOf]; omega
    · obtain ⟨b, hb⟩ : ∃ b : UInt8, b = UInt8.ofNat (48 + m) := ⟨_, rfl⟩
      have hb2 : (48 : Int) + m = (b.toNat : Int) := by rw [hb, UInt8.toNat_ofNat']; omega
      have ks := run_string_of (P := Tryd.prog) 61 9 5 Tryd.underlying61 Tryd.underlying5 Tryd.underlying9 (rd_one (w := wr) (e := 5) (x := (b.toNat : Int)) rfl)
      have hB2 : Below w.heap.size w (wr.alloc (.cells #[.int .u8 (b.toNat : Int)] 5)) := hBr.alloc hBr.size _
      have hlim : ¬ (9223372036854775807 < [b].length + q.length) := by simp; omega
      have HR : Hid ([b] ++ q = s) := by
        show _ = _
        rw [← HQ.out, digs.eq_def m, if_pos (by omega), ← hb]
      clear hb
      go_wp2_with fail
      rw [cat_bytes]
      go_ret
      exact ⟨by rw [← HR.out]; simp, hB2⟩
end Go.Proofs.YtieigjlbjiielaaDoor
