/- The third law of layer 5 (head), walked. -/
import Derived.Test.YthkabhejfkekjaaHead4
namespace Go.Proofs.Ythkabhejfkekjaa
open Go.RowKit

theorem take_eq_succ (xs ys : List UInt8) (j : Nat) (h1 : j < xs.length) (h2 : j < ys.length) (h : xs.take j = ys.take j) :
    (xs.take (j + 1) == ys.take (j + 1)) = decide ((xs.getD j 0).toNat = (ys.getD j 0).toNat) := by
  rw [take_snoc0 xs j h1, take_snoc0 ys j h2, h]
  have : ((ys.take j ++ [xs.getD j 0]) == (ys.take j ++ [ys.getD j 0])) = decide (xs.getD j 0 = ys.getD j 0) := by
    rw [Bool.eq_iff_iff]; simp
  rw [this, decide_eq_decide]
  exact ⟨fun h => by rw [h], fun h => UInt8.toNat.inj h⟩
theorem take_ne_of (xs ys : List UInt8) (j n2 : Nat) (hn : ys.length = n2) (hj : j ≤ n2) (h : (xs.take j == ys.take j) = false) : (xs.take n2 == ys) = false := by
  rw [Bool.eq_false_iff] at h ⊢
  intro he
  apply h
  have he : xs.take n2 = ys := by simpa using he
  have : xs.take j = ys.take j := by rw [← he, List.take_take, Nat.min_eq_left hj]
  simp [this]

set_option maxRecDepth 100000 in
set_option maxHeartbeats 4000000 in
theorem headbegins_law (xs ys : List UInt8) (A B : Option Addr) (n c n2 c2 : Nat) (w : World) (hx : RdB w A n c xs) (hy : RdB w B n2 c2 ys) :
    Calls Try.prog 11 #[.slice A n c, .slice B n2 c2] w fun e w' => e = .returned (.bool true) ∧ Below w.heap.size w w' := by
  have hB := Below.refl w.heap.size w
  have hm := hx.cm
  have hnc := hx.nc
  have hm2 := hy.cm
  have hnc2 := hy.nc
  unfold maxLen at hm hm2
  by_cases hl1 : 100 < n
  · go_enter Try.func11, Try.ntmps11
    go_wp2_with (first
      | (go_at_call 40; refine (awake05_any _).mono ?_; rintro e w1 ⟨rfl, hb⟩))
    go_ret
    exact ⟨rfl, hb⟩
  · by_cases hl2 : 100 < n2
    · go_enter Try.func11, Try.ntmps11
      go_wp2_with (first
        | (go_at_call 40; refine (awake05_any _).mono ?_; rintro e w1 ⟨rfl, hb⟩))
      go_ret
      exact ⟨rfl, hb⟩
    · have hxl := hx.blen
      have hyl := hy.blen
      have HI : Hid (isB xs ys = (decide (n2 ≤ n) && (xs.take n2 == ys))) := by show _ = _; unfold isB; rw [hx.blen, hy.blen]
      have HXL := Lib.hid hxl
      have HYL := Lib.hid hyl
      clear hxl hyl
      have HS : Hid (decide ((n2 : Int) ≤ n) = (decide (n2 ≤ n) && (xs.take 0 == ys.take 0))) := by show _ = _; simp
      go_enter Try.func11, Try.ntmps11
      go_wp2_with fail
      go_loopw [5, 6] (fun s i wr => ∃ j : Nat, j ≤ n2 ∧ i = .int .i64 j ∧ s = .bool (decide (n2 ≤ n) && (xs.take j == ys.take j)) ∧ Below w.heap.size w wr) (fun _ i _ => n2 - (intOf i).toNat)
      case atStart => exact ⟨0, by omega, rfl, by simp, hB⟩
      case round =>
        obtain ⟨j, hj, rfl, rfl, hBr⟩ := hrel
        by_cases hgo : j < n2 ∧ (decide (n2 ≤ n) && (xs.take j == ys.take j)) = true
        · obtain ⟨hlt, hb⟩ := hgo
          rw [hb]
          have hle : n2 ≤ n := by simp at hb; exact hb.1
          have het : xs.take j = ys.take j := by simp at hb; exact hb.2
          have HE : Hid ((decide (n2 ≤ n) && (xs.take (j + 1) == ys.take (j + 1))) = decide (((xs.getD j 0).toNat : Int) = (ys.getD j 0).toNat)) := by
            show _ = _
            rw [take_eq_succ xs ys j (by rw [HXL.out]; omega) (by rw [HYL.out]; omega) het]
            simp [hle]
            omega
          obtain ⟨ax, rfl, hcx⟩ := hx.bat j (by omega)
          obtain ⟨ay, rfl, hcy⟩ := hy.bat j (by omega)
          replace hcx := cell_below hBr hcx
          replace hcy := cell_below hBr hcy
          clear het hb
          generalize (xs.getD j 0).toNat = p at *
          generalize (ys.getD j 0).toNat = q at *
          have i1 : (j : Int) < n := by omega
          have i2 : (j : Int) < n2 := by omega
          go_wp2_with fail
          go_quiet (fail)
          go_wp2_with fail
          go_roundw
          case rel => exact ⟨j + 1, by omega, by go_num, by rw [HE.out]; congr 1, below_drewN hBr _⟩
          case measure => simp [intOf]; omega
        · have HF : Hid (isB xs ys = (decide (n2 ≤ n) && (xs.take j == ys.take j))) := by
            show _ = _
            rw [HI.out]
            by_cases hlt : j < n2
            · have hb : (decide (n2 ≤ n) && (xs.take j == ys.take j)) = false := by
                cases hc : (decide (n2 ≤ n) && (xs.take j == ys.take j)) with
                | false => rfl
                | true => exact absurd ⟨hlt, hc⟩ hgo
              rw [hb]
              cases hd : decide (n2 ≤ n) with
              | false => rfl
              | true => rw [hd] at hb; rw [take_ne_of xs ys j n2 HYL.out hj (by simpa using hb)]; rfl
            · obtain rfl : j = n2 := by omega
              rw [show ys.take j = ys from List.take_of_length_le (by rw [HYL.out]; exact Nat.le_refl _)]
          have hstop : ¬ (j < n2) ∨ (decide (n2 ≤ n) && (xs.take j == ys.take j)) = false := by
            by_cases hlt : j < n2
            · right
              cases hc : (decide (n2 ≤ n) && (xs.take j == ys.take j)) with
              | false => rfl
              | true => exact absurd ⟨hlt, hc⟩ hgo
            · exact .inl hlt
          clear hgo
          have hxr := hx.below hBr
          have hyr := hy.below hBr
          have KI := fun W h1 h2 => Lib.hid (his_any xs ys A B n c n2 c2 W h1 h2)
          have KJ := fun A5 n5 c5 W h1 h2 => Lib.hid (his_any (ys ++ xs) ys A5 B n5 c5 n2 c2 W h1 h2)
          rw [show isB (ys ++ xs) ys = true by simp [isB]] at KJ
          rw [HF.out] at KI
          clear HF HS HI
          generalize (decide (n2 ≤ n) && (xs.take j == ys.take j)) = b0 at *
          clear hx hy hB
          have hstep : ∀ P : Prop, (¬ (j < n2) → P) → (j < n2 ∧ b0 = false → P) → P := fun P h1 h2 => by
            by_cases hlt : j < n2
            · exact h2 ⟨hlt, hstop.resolve_left (fun h => h hlt)⟩
            · exact h1 hlt
          clear hstop
          refine hstep _ (fun hs => ?_) (fun hs => ?_)
          case' refine_1 =>
            have hd : decide ((j : Int) < n2) = false := by simp; omega
          case' refine_2 =>
            obtain ⟨hlt, rfl⟩ := hs
            have hd : decide ((j : Int) < n2) = true := by simp; omega
          all_goals
            go_wp2_with fail
            refine (awake05_any _).mono ?_
            rintro e w1 ⟨rfl, hb⟩
            replace hBr := below_trans hBr hb
            replace hxr := hxr.below hb
            replace hyr := hyr.below hb
            clear hb
            go_wp2_with fail
            refine (KI _ hxr hyr).out.mono ?_
            rintro e w2 ⟨rfl, hb⟩
            replace hBr := below_trans hBr hb
            replace hxr := hxr.below hb
            replace hyr := hyr.below hb
            clear hb KI
            have own0 := own_empty w2 5 1
            have hBe : Below w2.heap.size w2 (w2.alloc (.cells #[] 5)) := (Below.refl _ _).alloc (Nat.le_refl _) _
            have hye := hyr.below hBe
            go_wp2_with (first
              | (at_builtin; refine wpl_guard (by rfl) ?_; refine wpl_append rfl (.tmp 48) (.tmp 49) 22 rfl w2.heap.size 5 _ 1 1 Try.underlying22 info_u8 rfl (by decide) _ 0 [] rfl own0 B n2 c2 _ rfl hye (bs_one _) (by unfold maxLen; omega) (by omega) hBe.size ?_; intro v3 w3 ho3 hg3; have hB3 := below_own hBe own0 hg3; clear hg3; simp only [Nat.zero_add, List.nil_append] at ho3; have hx3 := hxr.below hB3)
              | (at_builtin; refine wpl_guard (by rfl) ?_; refine wpl_append rfl (.tmp 50) (.tmp 51) 22 rfl w2.heap.size 5 _ 1 1 Try.underlying22 info_u8 rfl (by decide) _ n2 _ rfl ho3 A n c _ rfl hx3 (bs_one _) (by unfold maxLen; omega) (by omega) hB3.size ?_; intro v4 w4 ho4 hg4; have hB4 := below_own hB3 ho3 hg4; clear hg4; rw [← bs_append] at ho4; obtain ⟨A5, c5, rfl, hr5, -⟩ := Rd.of_own ho4; have hy4 := hyr.below hB4)
              | (go_at_call 46; refine (KJ _ _ _ _ hr5 hy4).out.mono ?_; rintro e w6 ⟨rfl, hb⟩; have hB6 := below_trans (below_trans hBr hB4) hb; clear hb)
              | (go_at_call 47; refine (hbreak_any _).mono ?_; rintro e w7 ⟨rfl, hr7, hb⟩; have hB7 := below_trans hB6 hb; have k7 := run_string_of (P := Try.prog) 22 9 5 Try.underlying22 Try.underlying5 Try.underlying9 hr7))
            go_ret
            exact ⟨ret_bool (by simp), hB7⟩
end Go.Proofs.Ythkabhejfkekjaa
