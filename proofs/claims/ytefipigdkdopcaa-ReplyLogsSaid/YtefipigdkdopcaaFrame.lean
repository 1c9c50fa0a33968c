/- Contracts of package frame: places, what may be, sizes. No condition. -/
import Derived.Test.YtefipigdkdopcaaFramePlain
import Derived.Test.YtefipigdkdopcaaLib2
namespace Go.Proofs.Ytefipigdkdopcaa
open Go.RowKit

/-- A frame as a value. -/
abbrev frm (nu id : Nat) (o t : Int) (d : List UInt8) : Value := .agg #[.int .u64 (nu : Int), .int .u64 (id : Int), .int .i64 o, .int .i64 t, .string ⟨d.toArray⟩]
abbrev frmCs (nu id : Nat) (o t : Int) (d : List UInt8) : Array Value := #[.int .u64 (nu : Int), .int .u64 (id : Int), .int .i64 o, .int .i64 t, .string ⟨d.toArray⟩]
theorem tmod100 {o : Int} (h : 0 ≤ o) : Int.tmod o 100 = o % 100 := Int.tmod_eq_emod_of_nonneg h

set_option maxRecDepth 100000 in
set_option maxHeartbeats 1000000 in
theorem flen_any (o t : Int) (w : World) :
    Calls Try.prog 111 #[.int .i64 o, .int .i64 t] w fun e w' => e = .returned (.tuple #[.int .i64 (if lenOk o t then min 100 (t - o) else 0), .bool (lenOk o t)]) ∧ w = w' := by
  by_cases h : 1 ≤ t ∧ t ≤ 3192 ∧ 0 ≤ o ∧ o < t
  · obtain ⟨h1, h2, h3, h4⟩ := h
    have hm := tmod100 h3
    have hq : 0 ≤ o % 100 ∧ o % 100 < 100 := by omega
    have hsub : IntKind.i64.wrap (t - o) = t - o := by rw [IntKind.wrap_i64]; omega
    by_cases h5 : o % 100 = 0
    · have e : lenOk o t = true := by unfold lenOk; rw [decide_eq_true_iff]; exact ⟨h1, h2, h3, h4, h5⟩
      have HM : Hid (min 100 (t - o) = if t - o < 100 then t - o else 100) := by show _ = _; split <;> omega
      generalize min 100 (t - o) = r at *
      rw [e, if_pos rfl]
      rw [h5] at hm hq
      clear e h5 hq
      go_enter Try.func111, Try.ntmps111
      go_wp2
      all_goals
        go_ret2
        first
          | (obtain rfl : r = t - o := by rw [HM.out, if_pos (by omega)]
             exact ⟨rfl, rfl⟩)
          | (obtain rfl : r = 100 := by rw [HM.out, if_neg (by omega)]
             exact ⟨rfl, rfl⟩)
    · have e : lenOk o t = false := by unfold lenOk; rw [decide_eq_false_iff_not]; exact fun h => h5 h.2.2.2.2
      rw [e, if_neg (by decide)]
      have hm2 : (o % 100 != 0) = true := by simpa using h5
      clear e
      go_enter Try.func111, Try.ntmps111
      go_wp2
      go_ret2
      exact ⟨rfl, rfl⟩
  · have e : lenOk o t = false := by unfold lenOk; rw [decide_eq_false_iff_not]; exact fun h' => h ⟨h'.1, h'.2.1, h'.2.2.1, h'.2.2.2.1⟩
    rw [e, if_neg (by decide)]
    have hc : t < 1 ∨ (1 ≤ t ∧ 3192 < t) ∨ (1 ≤ t ∧ t ≤ 3192 ∧ o < 0) ∨ (1 ≤ t ∧ t ≤ 3192 ∧ 0 ≤ o ∧ t ≤ o) := by omega
    clear h e
    rcases hc with h1 | ⟨h1, h2⟩ | ⟨h1, h2, h3⟩ | ⟨h1, h2, h3, h4⟩
    all_goals
      go_enter Try.func111, Try.ntmps111
      go_wp2
      go_ret2
      exact ⟨rfl, rfl⟩

theorem mayF_no {nu id : Nat} {o t : Int} {l : Nat} (h : lenOk o t = false ∨ 2147483648 ≤ nu ∨ 2147483648 ≤ id ∨ (l : Int) ≠ min 100 (t - o)) : mayF nu id o t l = false := by
  unfold mayF
  rw [Bool.and_eq_false_iff, decide_eq_false_iff_not]
  rcases h with h | h | h | h
  · exact .inl h
  · exact .inr (by omega)
  · exact .inr (by omega)
  · exact .inr (by omega)
theorem mayF_yes {nu id : Nat} {o t : Int} {l : Nat} (h1 : lenOk o t = true) (h2 : nu < 2147483648) (h3 : id < 2147483648) (h4 : (l : Int) = min 100 (t - o)) : mayF nu id o t l = true := by
  unfold mayF
  rw [Bool.and_eq_true, decide_eq_true_iff]
  exact ⟨h1, h2, h3, h4⟩
theorem lenOk_yes {o t : Int} (h : lenOk o t = true) : 1 ≤ t ∧ t ≤ 3192 ∧ 0 ≤ o ∧ o < t ∧ o % 100 = 0 := by
  unfold lenOk at h
  rwa [decide_eq_true_iff] at h
theorem lenOk_no {o t : Int} (h : lenOk o t = false) : t < 1 ∨ (1 ≤ t ∧ 3192 < t) ∨ (1 ≤ t ∧ t ≤ 3192 ∧ o < 0) ∨ (1 ≤ t ∧ t ≤ 3192 ∧ 0 ≤ o ∧ t ≤ o) ∨ (1 ≤ t ∧ t ≤ 3192 ∧ 0 ≤ o ∧ o < t ∧ o % 100 ≠ 0) := by
  unfold lenOk at h
  rw [decide_eq_false_iff_not] at h
  omega
theorem mayF_nat {nu id l : Nat} {o t : Int} (h : mayF nu id o t l = true) : ∃ o' t' : Nat, o = o' ∧ t = t' ∧ MayF nu id o' t' l := by
  unfold mayF at h
  rw [Bool.and_eq_true, decide_eq_true_iff] at h
  obtain ⟨h1, h2, h3, h4⟩ := h
  obtain ⟨k1, k2, k3, k4, k5⟩ := lenOk_yes h1
  exact ⟨o.toNat, t.toNat, by omega, by omega, ⟨h2, h3, by omega, by omega, by omega, by omega, by omega⟩⟩
theorem mayF_of {nu id l o t : Nat} (h : MayF nu id o t l) : mayF nu id o t l = true :=
  mayF_yes (lenOk_may h) h.hnu h.hid (by have := h.hl; have := h.ho; omega)

set_option maxRecDepth 100000 in
set_option maxHeartbeats 1000000 in
theorem fcheck_any (nu id : Nat) (o t : Int) (d : List UInt8) (w : World) (hd : d.length ≤ 1000000000) :
    Calls Try.prog 79 #[frm nu id o t d] w fun e w' => e = .returned (.int .i64 (if mayF nu id o t d.length then 0 else 3)) ∧ Below w.heap.size w w' := by
  obtain ⟨hB, hca⟩ := one_cells w (frmCs nu id o t d) 100
  have c0 := hca 0 (.int .u64 (nu : Int)) rfl
  have c1 := hca 1 (.int .u64 (id : Int)) rfl
  have c2 := hca 2 (.int .i64 o) rfl
  have c3 := hca 3 (.int .i64 t) rfl
  have c4 := hca 4 (.string ⟨d.toArray⟩) rfl
  clear hca
  have K := fun w => Lib.hid (flen_any o t w)
  cases hok : lenOk o t with
  | false =>
    rw [hok] at K
    rw [mayF_no (.inl hok), if_neg (by decide)]
    clear hok
    go_enter Try.func79, Try.ntmps79
    go_wp2_with (go_at_call 111; refine (K _).out.mono ?_; rintro e w' ⟨rfl, rfl⟩)
    go_ret
    exact ⟨rfl, hB⟩
  | true =>
    rw [hok, if_pos rfl] at K
    have hk := lenOk_yes hok
    have HM : Hid (mayF nu id o t d.length = (decide (nu < 2147483648 ∧ id < 2147483648 ∧ (d.length : Int) = min 100 (t - o)))) := by show _ = _; unfold mayF; rw [hok]; rfl
    have hr : 1 ≤ min 100 (t - o) ∧ min 100 (t - o) ≤ 100 := by omega
    generalize min 100 (t - o) = r at *
    generalize mayF nu id o t d.length = b at *
    clear hok hk
    rcases (by omega : (2147483648 : Int) ≤ nu ∨ ((nu : Int) < 2147483648 ∧ (2147483648 : Int) ≤ id) ∨ ((nu : Int) < 2147483648 ∧ (id : Int) < 2147483648)) with h1 | ⟨h1, h2⟩ | ⟨h1, h2⟩
    · obtain rfl : b = false := by rw [HM.out, decide_eq_false_iff_not]; omega
      go_enter Try.func79, Try.ntmps79
      go_wp2_with (go_at_call 111; refine (K _).out.mono ?_; rintro e w' ⟨rfl, rfl⟩)
      go_ret
      exact ⟨rfl, hB⟩
    · obtain rfl : b = false := by rw [HM.out, decide_eq_false_iff_not]; omega
      have k1 : decide ((2147483648 : Int) ≤ nu) = false := by rw [decide_eq_false_iff_not]; omega
      have k2 : decide ((2147483648 : Int) ≤ id) = true := by rw [decide_eq_true_iff]; omega
      clear h1 h2 HM
      go_enter Try.func79, Try.ntmps79
      go_wp2_with (go_at_call 111; refine (K _).out.mono ?_; rintro e w' ⟨rfl, rfl⟩)
      go_ret
      exact ⟨rfl, hB⟩
    · by_cases h3 : (d.length : Int) = r
      · obtain rfl : b = true := by rw [HM.out, decide_eq_true_iff]; omega
        have k1 : decide ((2147483648 : Int) ≤ nu) = false := by rw [decide_eq_false_iff_not]; omega
        have k2 : decide ((2147483648 : Int) ≤ id) = false := by rw [decide_eq_false_iff_not]; omega
        clear h1 h2 HM
        have h4 : ((d.length : Int) != r) = false := by simpa using h3
        go_enter Try.func79, Try.ntmps79
        go_wp2_with (go_at_call 111; refine (K _).out.mono ?_; rintro e w' ⟨rfl, rfl⟩)
        go_ret
        exact ⟨rfl, hB⟩
      · obtain rfl : b = false := by rw [HM.out, decide_eq_false_iff_not]; omega
        have k1 : decide ((2147483648 : Int) ≤ nu) = false := by rw [decide_eq_false_iff_not]; omega
        have k2 : decide ((2147483648 : Int) ≤ id) = false := by rw [decide_eq_false_iff_not]; omega
        clear h1 h2 HM
        have h4 : ((d.length : Int) != r) = true := by simpa using h3
        go_enter Try.func79, Try.ntmps79
        go_wp2_with (go_at_call 111; refine (K _).out.mono ?_; rintro e w' ⟨rfl, rfl⟩)
        go_ret
        exact ⟨rfl, hB⟩

set_option maxRecDepth 100000 in
set_option maxHeartbeats 1000000 in
theorem fsize_any (nu id : Nat) (o t : Int) (d : List UInt8) (w : World) (hd : d.length ≤ 1000000000) :
    Calls Try.prog 113 #[frm nu id o t d] w fun e w' => e = .returned (.int .i64 (if mayF nu id o t d.length then 15 + (d.length : Int) else 0)) ∧ Below w.heap.size w w' := by
  obtain ⟨hB, hca⟩ := one_cells w (frmCs nu id o t d) 100
  have c0 := hca 0 (.int .u64 (nu : Int)) rfl
  have c1 := hca 1 (.int .u64 (id : Int)) rfl
  have c2 := hca 2 (.int .i64 o) rfl
  have c3 := hca 3 (.int .i64 t) rfl
  have c4 := hca 4 (.string ⟨d.toArray⟩) rfl
  clear hca
  have K := fun w => Lib.hid (fcheck_any nu id o t d w hd)
  cases hm : mayF nu id o t d.length with
  | false =>
    rw [hm] at K
    clear hm
    go_enter Try.func113, Try.ntmps113
    go_wp2_with (go_at_call 79; refine (K _).out.mono ?_; rintro e w' ⟨rfl, hb⟩)
    go_ret
    exact ⟨rfl, below_trans hB hb⟩
  | true =>
    rw [hm] at K
    clear hm
    go_enter Try.func113, Try.ntmps113
    go_wp2_with (go_at_call 79; refine (K _).out.mono ?_; rintro e w' ⟨rfl, hb⟩; replace c4 := cell_below hb c4)
    go_ret
    exact ⟨ret_int (by omega), below_trans hB hb⟩
end Go.Proofs.Ytefipigdkdopcaa
