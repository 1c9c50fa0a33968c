/- The law TapeParses of layer 41 (tape), walked. -/
import Derived.Test.YtefipigdkdopcaaTap19
namespace Go.Proofs.Ytefipigdkdopcaa
open Go.RowKit

set_option maxRecDepth 100000 in
set_option maxHeartbeats 8000000 in
theorem tapeparses_law (t : List UInt8) (w : World) :
    Calls Try.prog 10 #[.string ⟨t.toArray⟩] w fun e w' => e = .returned (.bool true) ∧ Below w.heap.size w w' := by
  have KAW := fun W => Lib.hid (awake41_any W)
  by_cases h0 : 6000 < t.length
  · have e3 : decide ((6000 : Int) < (t.length : Int)) = true := by rw [decide_eq_true_iff]; omega
    have e4 : decide (6000 < t.length) = true := by rw [decide_eq_true_iff]; omega
    go_enter Try.func10, Try.ntmps10
    go_wp2_with fail
    refine (KAW _).out.mono ?_
    rintro e w1 ⟨rfl, hb⟩
    go_wp2_with fail
    go_ret
    exact ⟨rfl, hb⟩
  have e3 : decide ((6000 : Int) < (t.length : Int)) = false := by rw [decide_eq_false_iff_not]; omega
  have e4 : decide (6000 < t.length) = false := by rw [decide_eq_false_iff_not]; omega
  have KP := fun W => Lib.hid (tparse_any t W (by omega) (fun p hp => by have := (split2_free 10 10 false t p hp).2.2; omega))
  have KD := fun W => Lib.hid (drop41_any t W (by omega))
  have KA := fun x y z B b1 b2 F f1 f2 S s1 s2 W => Lib.hid (as41_any x y z B b1 b2 F f1 f2 S s1 s2 W)
  obtain ⟨ha, hb'⟩ := prT_says t
  rw [drop_nb] at KD
  generalize nb (linesL t) = ws at *
  by_cases hok : okT (prT t)
  · have hl := ha hok
    have KP2 : ∀ W, Hid (Calls Try.prog 38 #[.string ⟨t.toArray⟩] W fun e w' => ∃ fs B b2 F f2 S s2, e = .returned (.tuple #[.agg (scA (prT t).sc.x (prT t).sc.y (prT t).sc.z B (prT t).sc.bl.length b2 F fs.length f2 S (prT t).sc.ss.length s2), .int .i64 0, .int .i64 0]) ∧ Sc3 w' (prT t).sc.bl fs (prT t).sc.ss B (prT t).sc.bl.length b2 F fs.length f2 S (prT t).sc.ss.length s2 ∧ AllFt w' fs ∧ fs.map ftP = (prT t).sc.fl ∧ Below W.heap.size W w') := fun W => Lib.hid ((KP W).out.mono (fun e w' q => by
      obtain ⟨fs, B, b2, F, f2, S, s2, h1, h2, h3, h4⟩ := q.2.1 hok
      exact ⟨fs, B, b2, F, f2, S, s2, h1, h2, h3, h4, q.1⟩))
    have hsc := Lib.hid hok.2.2
    clear ha hb' KP hok
    generalize (prT t).sc = sc at *
    obtain ⟨x, y, z, bl, fl, ss⟩ := sc
    dsimp only at KP2
    go_enter Try.func10, Try.ntmps10
    go_wp2_with fail
    refine (KP2 _).out.mono ?_
    rintro e w1 ⟨fs, B, b2, F, f2, S, s2, rfl, h3, hm, hf, hB⟩
    clear KP2
    have hok : ScOk x y z bl fs ss := (scok_plain (fun f hf' => (hm f hf').blen)).2 (by rw [hf]; exact hsc.out)
    have HTX : Hid (textT x y z bl fs ss = glue ws) := by show _ = _; rw [text_glue, linesT_plain, hf, hl]
    clear hf hsc hl
    have hbl := h3.b.cm
    have hfl := h3.f.cm
    have hsl := h3.s.cm
    have q1 := hok.b1
    have q2 := hok.f1
    have q3 := hok.s1
    have KM := fun W h => Lib.hid (may41_any x y z bl fs ss B bl.length b2 F fs.length f2 S ss.length s2 W h (by omega) (fun s hs => by have := (step_i64 (List.all_eq_true.1 hok.s s hs)).2.1; omega))
    have KT := fun W h hm => Lib.hid (r41text_any x y z bl fs ss B bl.length b2 F fs.length f2 S ss.length s2 W h hm hok)
    rw [may_yes hok] at KM
    rw [HTX.out] at KT
    generalize glue ws = g at *
    clear HTX hok q1 q2 q3 hbl hfl hsl
    generalize bl.length = b1 at *
    generalize fs.length = f1 at *
    generalize ss.length = s1 at *
    obtain ⟨hb, hca⟩ := one_cells w1 (scA x y z B b1 b2 F f1 f2 S s1 s2) 69
    have c0 := hca 0 (.int .i64 x) rfl
    have c1 := hca 1 (.int .i64 y) rfl
    have c2 := hca 2 (.int .i64 z) rfl
    have c3 := hca 3 (.slice B b1 b2) rfl
    have c4 := hca 4 (.slice F f1 f2) rfl
    have c5 := hca 5 (.slice S s1 s2) rfl
    replace h3 := h3.below hb
    replace hm := hm.below hb
    replace hB := below_trans hB hb
    clear hb hca
    go_upto_region 4 with fail
    generalize w1.alloc (.cells (scA x y z B b1 b2 F f1 f2 S s1 s2) 69) = w2 at *
    go_wp2_with fail
    refine (KAW _).out.mono ?_
    rintro e w3 ⟨rfl, hb⟩
    replace c0 := cell_below hb c0
    replace c1 := cell_below hb c1
    replace c2 := cell_below hb c2
    replace c3 := cell_below hb c3
    replace c4 := cell_below hb c4
    replace c5 := cell_below hb c5
    replace h3 := h3.below hb
    replace hm := hm.below hb
    replace hB := below_trans hB hb
    clear hb
    go_wp2_with fail
    refine (KA x y z B b1 b2 F f1 f2 S s1 s2 _).out.mono ?_
    rintro e w4 ⟨rfl, hb⟩
    replace c0 := cell_below hb c0
    replace c1 := cell_below hb c1
    replace c2 := cell_below hb c2
    replace c3 := cell_below hb c3
    replace c4 := cell_below hb c4
    replace c5 := cell_below hb c5
    replace h3 := h3.below hb
    replace hm := hm.below hb
    replace hB := below_trans hB hb
    clear hb
    go_wp2_with fail
    refine (KM _ h3).out.mono ?_
    rintro e w5 ⟨rfl, hb⟩
    replace c0 := cell_below hb c0
    replace c1 := cell_below hb c1
    replace c2 := cell_below hb c2
    replace c3 := cell_below hb c3
    replace c4 := cell_below hb c4
    replace c5 := cell_below hb c5
    replace h3 := h3.below hb
    replace hm := hm.below hb
    replace hB := below_trans hB hb
    clear hb
    go_wp2_with fail
    refine (KA x y z B b1 b2 F f1 f2 S s1 s2 _).out.mono ?_
    rintro e w6 ⟨rfl, hb⟩
    replace h3 := h3.below hb
    replace hm := hm.below hb
    replace hB := below_trans hB hb
    clear hb
    go_wp2_with fail
    refine (KT _ h3 hm).out.mono ?_
    rintro e w7 ⟨rfl, hb⟩
    replace hB := below_trans hB hb
    clear hb
    go_wp2_with fail
    refine (KD _).out.mono ?_
    rintro e w8 ⟨rfl, hb⟩
    replace hB := below_trans hB hb
    clear hb
    go_wp2_with fail
    go_ret
    exact ⟨ret_bool (by simp), hB⟩
  · have KP2 : ∀ W, Hid (Calls Try.prog 38 #[.string ⟨t.toArray⟩] W fun e w' => e = .returned (.tuple #[.agg zSc, .int .i64 (endE (prT t)).1, .int .i64 (endE (prT t)).2]) ∧ Below W.heap.size W w') := fun W => Lib.hid ((KP W).out.mono (fun e w' q => ⟨q.2.2 hok, q.1⟩))
    have hc := hb' hok
    have KS := fun W => Lib.hid (r41same_zero W)
    clear ha hb' KP hok
    generalize endE (prT t) = E at *
    have hg : ∀ ws : List (List UInt8), ws ≠ [] → ∃ c r, glue ws = c :: r := fun ws h => by
      cases hh : glue ws with
      | nil => exact absurd (glue_nil.1 hh) h
      | cons c r => exact ⟨c, r, rfl⟩
    rcases hc with ⟨rfl, hw⟩ | ⟨rfl, hw⟩ | ⟨n, hn, hE, hw⟩
    · dsimp only at KP2
      skip
      rw [glue_nil.2 hw] at KD
      clear hw hg
      go_enter Try.func10, Try.ntmps10
      go_wp2_with fail
      refine (KP2 _).out.mono ?_
      rintro e w1 ⟨rfl, hB⟩
      clear KP2
      obtain ⟨hb, hca⟩ := one_cells w1 zSc 69
      have c0 := hca 0 (.int .i64 0) rfl
      have c1 := hca 1 (.int .i64 0) rfl
      have c2 := hca 2 (.int .i64 0) rfl
      have c3 := hca 3 (.slice none 0 0) rfl
      have c4 := hca 4 (.slice none 0 0) rfl
      have c5 := hca 5 (.slice none 0 0) rfl
      replace hB := below_trans hB hb
      clear hb hca
      go_upto_region 4 with fail
      generalize w1.alloc (.cells zSc 69) = w2 at *
      go_wp2_with fail
      refine (KD _).out.mono ?_
      rintro e w3 ⟨rfl, hb⟩
      replace c0 := cell_below hb c0
      replace c1 := cell_below hb c1
      replace c2 := cell_below hb c2
      replace c3 := cell_below hb c3
      replace c4 := cell_below hb c4
      replace c5 := cell_below hb c5
      replace hB := below_trans hB hb
      clear hb
      go_wp2_with fail
      refine (KAW _).out.mono ?_
      rintro e w4 ⟨rfl, hb⟩
      replace c0 := cell_below hb c0
      replace c1 := cell_below hb c1
      replace c2 := cell_below hb c2
      replace c3 := cell_below hb c3
      replace c4 := cell_below hb c4
      replace c5 := cell_below hb c5
      replace hB := below_trans hB hb
      clear hb
      go_wp2_with fail
      refine (KA 0 0 0 none 0 0 none 0 0 none 0 0 _).out.mono ?_
      rintro e w5 ⟨rfl, hb⟩
      replace hB := below_trans hB hb
      clear hb
      go_wp2_with fail
      refine (KS _).out.mono ?_
      rintro e w6 ⟨rfl, hb⟩
      replace hB := below_trans hB hb
      clear hb
      go_wp2_with fail
      go_ret
      exact ⟨ret_bool (by simp), hB⟩
    · dsimp only at KP2
      skip
      obtain ⟨gc, gr, hgl⟩ := hg ws hw
      rw [hgl] at KD
      have hge : ((gc :: gr : List UInt8) == []) = false := rfl
      clear hw hg hgl
      generalize (gc :: gr) = gl at *
      go_enter Try.func10, Try.ntmps10
      go_wp2_with fail
      refine (KP2 _).out.mono ?_
      rintro e w1 ⟨rfl, hB⟩
      clear KP2
      obtain ⟨hb, hca⟩ := one_cells w1 zSc 69
      have c0 := hca 0 (.int .i64 0) rfl
      have c1 := hca 1 (.int .i64 0) rfl
      have c2 := hca 2 (.int .i64 0) rfl
      have c3 := hca 3 (.slice none 0 0) rfl
      have c4 := hca 4 (.slice none 0 0) rfl
      have c5 := hca 5 (.slice none 0 0) rfl
      replace hB := below_trans hB hb
      clear hb hca
      go_upto_region 4 with fail
      generalize w1.alloc (.cells zSc 69) = w2 at *
      go_wp2_with fail
      refine (KD _).out.mono ?_
      rintro e w3 ⟨rfl, hb⟩
      replace c0 := cell_below hb c0
      replace c1 := cell_below hb c1
      replace c2 := cell_below hb c2
      replace c3 := cell_below hb c3
      replace c4 := cell_below hb c4
      replace c5 := cell_below hb c5
      replace hB := below_trans hB hb
      clear hb
      go_wp2_with fail
      refine (KAW _).out.mono ?_
      rintro e w4 ⟨rfl, hb⟩
      replace c0 := cell_below hb c0
      replace c1 := cell_below hb c1
      replace c2 := cell_below hb c2
      replace c3 := cell_below hb c3
      replace c4 := cell_below hb c4
      replace c5 := cell_below hb c5
      replace hB := below_trans hB hb
      clear hb
      go_wp2_with fail
      refine (KA 0 0 0 none 0 0 none 0 0 none 0 0 _).out.mono ?_
      rintro e w5 ⟨rfl, hb⟩
      replace hB := below_trans hB hb
      clear hb
      go_wp2_with fail
      refine (KS _).out.mono ?_
      rintro e w6 ⟨rfl, hb⟩
      replace hB := below_trans hB hb
      clear hb
      go_wp2_with fail
      go_ret
      exact ⟨ret_bool (by simp), hB⟩
    · have hn0 : ((n : Int) == 0) = false := by rw [beq_eq_false_iff_ne]; omega
      rcases hE with rfl | rfl
      all_goals
        dsimp only at KP2
        obtain ⟨gc, gr, hgl⟩ := hg ws hw
        rw [hgl] at KD
        have hge : ((gc :: gr : List UInt8) == []) = false := rfl
        clear hw hg hgl
        generalize (gc :: gr) = gl at *
        go_enter Try.func10, Try.ntmps10
        go_wp2_with fail
        refine (KP2 _).out.mono ?_
        rintro e w1 ⟨rfl, hB⟩
        clear KP2
        obtain ⟨hb, hca⟩ := one_cells w1 zSc 69
        have c0 := hca 0 (.int .i64 0) rfl
        have c1 := hca 1 (.int .i64 0) rfl
        have c2 := hca 2 (.int .i64 0) rfl
        have c3 := hca 3 (.slice none 0 0) rfl
        have c4 := hca 4 (.slice none 0 0) rfl
        have c5 := hca 5 (.slice none 0 0) rfl
        replace hB := below_trans hB hb
        clear hb hca
        go_upto_region 4 with fail
        generalize w1.alloc (.cells zSc 69) = w2 at *
        go_wp2_with fail
        refine (KD _).out.mono ?_
        rintro e w3 ⟨rfl, hb⟩
        replace c0 := cell_below hb c0
        replace c1 := cell_below hb c1
        replace c2 := cell_below hb c2
        replace c3 := cell_below hb c3
        replace c4 := cell_below hb c4
        replace c5 := cell_below hb c5
        replace hB := below_trans hB hb
        clear hb
        go_wp2_with fail
        refine (KAW _).out.mono ?_
        rintro e w4 ⟨rfl, hb⟩
        replace c0 := cell_below hb c0
        replace c1 := cell_below hb c1
        replace c2 := cell_below hb c2
        replace c3 := cell_below hb c3
        replace c4 := cell_below hb c4
        replace c5 := cell_below hb c5
        replace hB := below_trans hB hb
        clear hb
        go_wp2_with fail
        refine (KA 0 0 0 none 0 0 none 0 0 none 0 0 _).out.mono ?_
        rintro e w5 ⟨rfl, hb⟩
        replace hB := below_trans hB hb
        clear hb
        go_wp2_with fail
        refine (KS _).out.mono ?_
        rintro e w6 ⟨rfl, hb⟩
        replace hB := below_trans hB hb
        clear hb
        go_wp2_with fail
        go_ret
        exact ⟨ret_bool (by simp), hB⟩
end Go.Proofs.Ytefipigdkdopcaa
