/- The law RunesEscape of layer 4, walked. Asked: what the library's variables hold. -/
import Derived.Test.YtefipigdkdopcaaDoorAw3
namespace Go.Proofs.YtefipigdkdopcaaDoor
open Go.RowKit

theorem escOne_pos (xs : List UInt8) (i : Nat) : 1 ≤ (escOne xs i).length := by
  unfold escOne
  split
  · simp
  · split <;> simp
theorem wid_four (xs : List UInt8) (i : Nat) (h : i < xs.length) : widAt xs i ≤ 4 := by
  rcases rune_at xs i h with ⟨-, -, h3⟩ | ⟨-, -, -, -, h3, -⟩ <;> omega
theorem escF_long (xs : List UInt8) (i : Nat) : xs.length - i ≤ 4 * (escF xs i).length := by
  fun_induction escF xs i with
  | case1 i h ih =>
    have h1 := escOne_pos xs i
    have h2 := wid_four xs i h
    rw [List.length_append]
    omega
  | case2 i h => omega

set_option maxRecDepth 100000 in
set_option maxHeartbeats 1000000 in
theorem runesescape_law (s : List UInt8) (w : World) (hL : LV w) : Calls Tryd.prog 3 #[.string ⟨s.toArray⟩] w fun e w' => e = .returned (.bool true) ∧ Below w.heap.size w w' := by
  have KA := fun W h => Lib.hid (awake04_any W h)
  have HL0 := Lib.hid hL
  clear hL
  have hB := Below.refl w.heap.size w
  by_cases hn : 300 < s.length
  · go_enter Tryd.func3, Tryd.ntmps3
    go_wp2_with fail
    refine (KA _ HL0.out).out.mono ?_
    rintro e w1 ⟨rfl, hb⟩
    go_wp2_with fail
    go_ret
    exact ⟨rfl, hb⟩
  · have KE := fun W h => Lib.hid (resc_any s W (by omega) h)
    have KR := fun W => Lib.hid (refesc_any s W (by omega))
    have hl := escF_len s 0
    have KB1 : ∀ W, LV W → Hid (Calls Tryd.prog 9 #[.string ⟨(escF s 0).toArray⟩] W fun e w' => e = .returned (.tuple #[.string ⟨s.toArray⟩, .int .i64 0]) ∧ Below W.heap.size W w') := fun W h => Lib.hid ((rback_any (escF s 0) W (by omega) h).mono (fun e w' h => ⟨by rw [h.1, back_of_esc]; rfl, h.2⟩))
    have KB2 := fun W h => Lib.hid (rback_any s W (by omega) h)
    clear hl
    generalize escF s 0 = t at *
    by_cases he : (backF s).e = 0
    · have hk := back_ok he
      have hlen : (backF s).t.length ≤ 1200 := by
        have := escF_long (backF s).t 0
        rw [hk] at this
        omega
      have KX : ∀ W, Hid (Calls Tryd.prog 10 #[.string ⟨(backF s).t.toArray⟩] W fun e w' => e = .returned (.string ⟨s.toArray⟩) ∧ Below W.heap.size W w') := fun W => Lib.hid ((refesc_any (backF s).t W (by omega)).mono (fun e w' h => ⟨by rw [h.1, hk], h.2⟩))
      rw [he] at KB2
      clear he hk hlen
      generalize (backF s).t = b at *
      go_enter Tryd.func3, Tryd.ntmps3
      go_wp2_with fail
      refine (KE _ HL0.out).out.mono ?_
      rintro e w1 ⟨rfl, hb⟩
      have HL1 := Lib.hid (HL0.out.below hb)
      replace hB := below_trans hB hb
      clear hb HL0
      go_wp2_with fail
      refine (KB1 _ HL1.out).out.mono ?_
      rintro e w2 ⟨rfl, hb⟩
      have HL2 := Lib.hid (HL1.out.below hb)
      replace hB := below_trans hB hb
      clear hb HL1
      go_wp2_with fail
      refine (KR _).out.mono ?_
      rintro e w3 ⟨rfl, hb⟩
      have HL3 := Lib.hid (HL2.out.below hb)
      replace hB := below_trans hB hb
      clear hb HL2
      go_wp2_with fail
      refine (KB2 _ HL3.out).out.mono ?_
      rintro e w4 ⟨rfl, hb⟩
      have HL4 := Lib.hid (HL3.out.below hb)
      replace hB := below_trans hB hb
      clear hb HL3
      go_wp2_with fail
      refine (KA _ HL4.out).out.mono ?_
      rintro e w5 ⟨rfl, hb⟩
      replace hB := below_trans hB hb
      clear hb HL4
      go_wp2_with fail
      refine (KX _).out.mono ?_
      rintro e w6 ⟨rfl, hb⟩
      replace hB := below_trans hB hb
      clear hb
      go_wp2_with fail
      go_ret
      exact ⟨rfl, hB⟩
    · have hk := back_bad he
      rw [hk] at KB2
      dsimp only at KB2
      clear he hk
      go_enter Tryd.func3, Tryd.ntmps3
      go_wp2_with fail
      refine (KE _ HL0.out).out.mono ?_
      rintro e w1 ⟨rfl, hb⟩
      have HL1 := Lib.hid (HL0.out.below hb)
      replace hB := below_trans hB hb
      clear hb HL0
      go_wp2_with fail
      refine (KB1 _ HL1.out).out.mono ?_
      rintro e w2 ⟨rfl, hb⟩
      have HL2 := Lib.hid (HL1.out.below hb)
      replace hB := below_trans hB hb
      clear hb HL1
      go_wp2_with fail
      refine (KR _).out.mono ?_
      rintro e w3 ⟨rfl, hb⟩
      have HL3 := Lib.hid (HL2.out.below hb)
      replace hB := below_trans hB hb
      clear hb HL2
      go_wp2_with fail
      refine (KB2 _ HL3.out).out.mono ?_
      rintro e w4 ⟨rfl, hb⟩
      have HL4 := Lib.hid (HL3.out.below hb)
      replace hB := below_trans hB hb
      clear hb HL3
      go_wp2_with fail
      refine (KA _ HL4.out).out.mono ?_
      rintro e w5 ⟨rfl, hb⟩
      replace hB := below_trans hB hb
      clear hb HL4
      go_wp2_with fail
      go_ret
      exact ⟨rfl, hB⟩
end Go.Proofs.YtefipigdkdopcaaDoor
