/- The law MetaGets of layer 26 (meta), walked. No condition. -/
import Derived.Test.YthkabhejfkekjaaMeta8
import Derived.Test.YthkabhejfkekjaaMeta10
import Derived.Test.YthkabhejfkekjaaMeta13
import Derived.Test.YthkabhejfkekjaaMeta14
namespace Go.Proofs.Ythkabhejfkekjaa
open Go.RowKit

theorem sameM_refl3 (id fi : Nat) (pr le : Int) (en : Nat) (pl : Bool) (lp : Int) (ps : List Int) : sameM id fi pr le en pl lp ps id fi pr le en pl lp ps = true := by simp [sameM]
theorem erF_ok {xs : List UInt8} {lp : Int} (h : erF xs lp = 0) : ∃ lp2 : Nat, lp = lp2 ∧ MayM (getN xs 0 4) (getN xs 4 4) (xs.getD 8 0).toNat (getN xs 9 2) (getN xs 11 8) lp2 (pagesF xs (xs.getD 20 0).toNat) ∧
    recB (getN xs 0 4) (getN xs 4 4) (xs.getD 8 0).toNat (getN xs 9 2) (getN xs 11 8) (plN ((((xs.getD 19 0).toNat : Nat) : Int) == 1)) (pagesF xs (xs.getD 20 0).toNat) = xs := by
  unfold erF at h
  split at h
  · cases h
  split at h
  · cases h
  split at h
  · cases h
  split at h
  · rename_i h1 h2 h3 hm
    split at h
    · cases h
    · rename_i hp
      obtain ⟨lp2, e, may⟩ := mayM_to (getN_lt xs 11 8) hm
      refine ⟨lp2, e, may, ?_⟩
      have g8 := getN_byte xs 8 (by omega)
      have g19 := getN_byte xs 19 (by omega)
      have g20 := getN_byte xs 20 (by omega)
      simp only [show ((8 : Nat) : Int) = 8 from rfl, show ((19 : Nat) : Int) = 19 from rfl, show ((20 : Nat) : Int) = 20 from rfl] at g8 g19 g20
      have hrec := rec_of xs (xs.getD 20 0).toNat (by omega) g20
      rw [g8, g19] at hrec
      have hpl : plN ((((xs.getD 19 0).toNat : Nat) : Int) == 1) = (xs.getD 19 0).toNat := by
        generalize (xs.getD 19 0).toNat = pn at *
        unfold plN
        by_cases hc : pn = 1
        · subst hc; rfl
        · rw [if_neg (by rw [beq_iff_eq]; omega)]; omega
      rw [hpl]; exact hrec
  · cases h
theorem rd_none (w : World) : RdI w none 0 0 (ints []) := ⟨rfl, Nat.le_refl _, by decide, fun _ => ⟨rfl, rfl⟩, fun _ e => by cases e⟩
theorem refget_all (xs : List UInt8) (lp : Int) (w : World) (hN : xs.length ≤ 1000) : Calls Try.prog 69 #[.string ⟨xs.toArray⟩, .int .i64 lp] w fun e w' => outF e w' xs lp ∧ Below w.heap.size w w' :=
  refget26_any xs lp w hN _ _ _ _ _ _ _ _ _ rfl rfl rfl rfl rfl rfl rfl rfl rfl

set_option maxRecDepth 100000 in
set_option maxHeartbeats 8000000 in
theorem metagets_law (s : List UInt8) (lp : Int) (w : World) : Calls Try.prog 17 #[.string ⟨s.toArray⟩, .int .i64 lp] w fun e w' => e = .returned (.bool true) ∧ Below w.heap.size w w' := by
  have hB := Below.refl w.heap.size w
  by_cases hn : 300 < s.length
  · go_enter Try.func17, Try.ntmps17
    go_wp2_with fail
    refine (awake26_any _).mono ?_
    rintro e w1 ⟨rfl, hb⟩
    go_wp2_with fail
    go_ret
    exact ⟨rfl, hb⟩
  have KG := fun W => Lib.hid (mget_all s lp W (by omega))
  have KR := fun W => Lib.hid (refget_all s lp W (by omega))
  unfold outF mgOut at KG KR
  by_cases he : erF s lp = 0
  · obtain ⟨lp2, rfl, may, hrec⟩ := erF_ok he
    have hlen := may.hn
    generalize ((((s.getD 19 0).toNat : Nat) : Int) == 1) = pl at *
    generalize getN s 0 4 = id at *
    generalize getN s 4 4 = fi at *
    generalize getN s 9 2 = le at *
    generalize getN s 11 8 = en at *
    generalize (s.getD 8 0).toNat = pr at *
    generalize pagesF s (s.getD 20 0).toNat = ps at *
    have KG2 : ∀ W, Hid (Calls Try.prog 67 #[.string ⟨s.toArray⟩, .int .i64 (lp2 : Int)] W fun e w' => ∃ A n c, e = .returned (.tuple #[recV id fi pr le en pl lp2 A n c, .int .i64 0]) ∧ RdI w' A n c (ints ps) ∧ Below W.heap.size W w') := fun W => Lib.hid ((KG W).out.mono (fun e w' h => by
      rcases h with ⟨⟨h, -⟩ | ⟨-, A, n, c, h1, h2⟩, h3⟩
      · exact absurd he h
      · exact ⟨A, n, c, h1, h2, h3⟩))
    have KR2 : ∀ W, Hid (Calls Try.prog 69 #[.string ⟨s.toArray⟩, .int .i64 (lp2 : Int)] W fun e w' => ∃ A n c, e = .returned (.tuple #[recV id fi pr le en pl lp2 A n c, .int .i64 0]) ∧ RdI w' A n c (ints ps) ∧ Below W.heap.size W w') := fun W => Lib.hid ((KR W).out.mono (fun e w' h => by
      rcases h with ⟨⟨h, -⟩ | ⟨-, A, n, c, h1, h2⟩, h3⟩
      · exact absurd he h
      · exact ⟨A, n, c, h1, h2, h3⟩))
    have KU : ∀ A n c W, RdI W A n c (ints ps) → Hid (Calls Try.prog 68 #[recV id fi pr le en pl lp2 A n c] W fun e w' => e = .returned (.string ⟨s.toArray⟩) ∧ Below W.heap.size W w') := fun A n c W h1 => Lib.hid ((refput26_any id fi pr le en pl lp2 ps A n c W h1 may).mono (fun e w' h => ⟨by rw [h.1, hrec], h.2⟩))
    have KT : ∀ A B n c m k W, RdI W A n c (ints ps) → RdI W B m k (ints ps) → n ≤ 1000000 → m ≤ 1000000 → Hid (Calls Try.prog 66 #[recV id fi pr le en pl lp2 A n c, recV id fi pr le en pl lp2 B m k] W fun e w' => e = .returned (.bool true) ∧ Below W.heap.size W w') := fun A B n c m k W h1 h2 h3 h4 => Lib.hid ((refsame26_any id fi pr le en pl lp2 (ints ps) id fi pr le en pl lp2 (ints ps) A B n c m k W h1 h2 h3 h4).mono (fun e w' h => ⟨by rw [h.1, sameM_refl3], h.2⟩))
    clear KG KR he may hrec
    go_enter Try.func17, Try.ntmps17
    go_wp2_with fail
    refine (KG2 _).out.mono ?_
    rintro e w1 ⟨A, n, c, rfl, hx, hb⟩
    have hn1 := hx.ilen
    rw [ints_length] at hn1
    have hn16 : n ≤ 1000000 := by omega
    replace hB := below_trans hB hb
    clear hb KG2
    obtain ⟨hb, a0, a1, a2, a3, a4, a5, a6, a7⟩ := rec_cells w1 id fi (pr : Int) (le : Int) en pl (lp2 : Int) A n c 91
    replace hB := below_trans hB hb
    replace hx := hx.below hb
    clear hb
    go_upto_region 4 with fail
    generalize w1.alloc (.cells (recCs id fi (pr : Int) (le : Int) en pl (lp2 : Int) A n c) 91) = w2 at *
    go_wp2_with fail
    refine (KR2 _).out.mono ?_
    rintro e w3 ⟨B, m, k, rfl, hy, hb⟩
    have hm1 := hy.ilen
    rw [ints_length] at hm1
    have hm16 : m ≤ 1000000 := by omega
    replace hB := below_trans hB hb
    replace hx := hx.below hb
    replace a0 := cell_below hb a0
    replace a1 := cell_below hb a1
    replace a2 := cell_below hb a2
    replace a3 := cell_below hb a3
    replace a4 := cell_below hb a4
    replace a5 := cell_below hb a5
    replace a6 := cell_below hb a6
    replace a7 := cell_below hb a7
    clear hb KR2
    obtain ⟨hb, d0, d1, d2, d3, d4, d5, d6, d7⟩ := rec_cells w3 id fi (pr : Int) (le : Int) en pl (lp2 : Int) B m k 91
    replace hB := below_trans hB hb
    replace hx := hx.below hb
    replace hy := hy.below hb
    replace a0 := cell_below hb a0
    replace a1 := cell_below hb a1
    replace a2 := cell_below hb a2
    replace a3 := cell_below hb a3
    replace a4 := cell_below hb a4
    replace a5 := cell_below hb a5
    replace a6 := cell_below hb a6
    replace a7 := cell_below hb a7
    clear hb
    go_upto_region 5 with fail
    generalize w3.alloc (.cells (recCs id fi (pr : Int) (le : Int) en pl (lp2 : Int) B m k) 91) = w4 at *
    go_wp2_with fail
    refine (awake26_any _).mono ?_
    rintro e w5 ⟨rfl, hb⟩
    replace hB := below_trans hB hb
    replace hx := hx.below hb
    replace hy := hy.below hb
    replace a0 := cell_below hb a0
    replace a1 := cell_below hb a1
    replace a2 := cell_below hb a2
    replace a3 := cell_below hb a3
    replace a4 := cell_below hb a4
    replace a5 := cell_below hb a5
    replace a6 := cell_below hb a6
    replace a7 := cell_below hb a7
    replace d0 := cell_below hb d0
    replace d1 := cell_below hb d1
    replace d2 := cell_below hb d2
    replace d3 := cell_below hb d3
    replace d4 := cell_below hb d4
    replace d5 := cell_below hb d5
    replace d6 := cell_below hb d6
    replace d7 := cell_below hb d7
    clear hb
    go_wp2_with fail
    refine (KT _ _ _ _ _ _ _ hx hy hn16 hm16).out.mono ?_
    rintro e w6 ⟨rfl, hb⟩
    replace hB := below_trans hB hb
    replace hx := hx.below hb
    replace a0 := cell_below hb a0
    replace a1 := cell_below hb a1
    replace a2 := cell_below hb a2
    replace a3 := cell_below hb a3
    replace a4 := cell_below hb a4
    replace a5 := cell_below hb a5
    replace a6 := cell_below hb a6
    replace a7 := cell_below hb a7
    clear hb hy d0 d1 d2 d3 d4 d5 d6 d7
    go_wp2_with fail
    refine (KU _ _ _ _ hx).out.mono ?_
    rintro e w7 ⟨rfl, hb⟩
    replace hB := below_trans hB hb
    clear hb
    go_wp2_with fail
    go_ret
    exact ⟨ret_bool (by simp), hB⟩
  · obtain ⟨er, hern⟩ : ∃ er, erF s lp = er := ⟨_, rfl⟩
    rw [hern] at KG KR he
    have he1 : ((er : Int) != 0) = true := by rw [bne_iff_ne]; omega
    have he2 : ((er : Int) == 0) = false := by rw [beq_eq_false_iff_ne]; omega
    have KG2 : ∀ W, Hid (Calls Try.prog 67 #[.string ⟨s.toArray⟩, .int .i64 lp] W fun e w' => e = .returned (.tuple #[.agg #[.int .u64 0, .int .u64 0, .int .i64 0, .int .i64 0, .int .u64 0, .bool false, .int .i64 0, .slice none 0 0], .int .i64 er]) ∧ Below W.heap.size W w') := fun W => Lib.hid ((KG W).out.mono (fun e w' h => by
      rcases h with ⟨⟨-, h⟩ | ⟨h1, -⟩, h3⟩
      · exact ⟨h, h3⟩
      · exact absurd h1 he))
    have KR2 : ∀ W, Hid (Calls Try.prog 69 #[.string ⟨s.toArray⟩, .int .i64 lp] W fun e w' => e = .returned (.tuple #[.agg #[.int .u64 0, .int .u64 0, .int .i64 0, .int .i64 0, .int .u64 0, .bool false, .int .i64 0, .slice none 0 0], .int .i64 er]) ∧ Below W.heap.size W w') := fun W => Lib.hid ((KR W).out.mono (fun e w' h => by
      rcases h with ⟨⟨-, h⟩ | ⟨h1, -⟩, h3⟩
      · exact ⟨h, h3⟩
      · exact absurd h1 he))
    have KT : ∀ W, Hid (Calls Try.prog 66 #[.agg #[.int .u64 0, .int .u64 0, .int .i64 0, .int .i64 0, .int .u64 0, .bool false, .int .i64 0, .slice none 0 0], .agg #[.int .u64 0, .int .u64 0, .int .i64 0, .int .i64 0, .int .u64 0, .bool false, .int .i64 0, .slice none 0 0]] W fun e w' => e = .returned (.bool true) ∧ Below W.heap.size W w') := fun W => Lib.hid ((refsame26_any 0 0 0 0 0 false 0 (ints []) 0 0 0 0 0 false 0 (ints []) none none 0 0 0 0 W (rd_none W) (rd_none W) (by decide) (by decide)).mono (fun e w' h => ⟨by rw [h.1, sameM_refl3], h.2⟩))
    clear KG KR hern he
    go_enter Try.func17, Try.ntmps17
    go_wp2_with fail
    refine (KG2 _).out.mono ?_
    rintro e w1 ⟨rfl, hb⟩
    replace hB := below_trans hB hb
    clear hb KG2
    obtain ⟨hb, hc⟩ := one_cells w1 #[.int .u64 0, .int .u64 0, .int .i64 0, .int .i64 0, .int .u64 0, .bool false, .int .i64 0, .slice none 0 0] 91
    have a0 := hc 0 (.int .u64 0) rfl
    have a1 := hc 1 (.int .u64 0) rfl
    have a2 := hc 2 (.int .i64 0) rfl
    have a3 := hc 3 (.int .i64 0) rfl
    have a4 := hc 4 (.int .u64 0) rfl
    have a5 := hc 5 (.bool false) rfl
    have a6 := hc 6 (.int .i64 0) rfl
    have a7 := hc 7 (.slice none 0 0) rfl
    replace hB := below_trans hB hb
    clear hb hc
    go_upto_region 4 with fail
    generalize w1.alloc (.cells #[.int .u64 0, .int .u64 0, .int .i64 0, .int .i64 0, .int .u64 0, .bool false, .int .i64 0, .slice none 0 0] 91) = w2 at *
    go_wp2_with fail
    refine (KR2 _).out.mono ?_
    rintro e w3 ⟨rfl, hb⟩
    replace hB := below_trans hB hb
    replace a0 := cell_below hb a0
    replace a1 := cell_below hb a1
    replace a2 := cell_below hb a2
    replace a3 := cell_below hb a3
    replace a4 := cell_below hb a4
    replace a5 := cell_below hb a5
    replace a6 := cell_below hb a6
    replace a7 := cell_below hb a7
    clear hb KR2
    obtain ⟨hb, hc⟩ := one_cells w3 #[.int .u64 0, .int .u64 0, .int .i64 0, .int .i64 0, .int .u64 0, .bool false, .int .i64 0, .slice none 0 0] 91
    have d0 := hc 0 (.int .u64 0) rfl
    have d1 := hc 1 (.int .u64 0) rfl
    have d2 := hc 2 (.int .i64 0) rfl
    have d3 := hc 3 (.int .i64 0) rfl
    have d4 := hc 4 (.int .u64 0) rfl
    have d5 := hc 5 (.bool false) rfl
    have d6 := hc 6 (.int .i64 0) rfl
    have d7 := hc 7 (.slice none 0 0) rfl
    replace hB := below_trans hB hb
    replace a0 := cell_below hb a0
    replace a1 := cell_below hb a1
    replace a2 := cell_below hb a2
    replace a3 := cell_below hb a3
    replace a4 := cell_below hb a4
    replace a5 := cell_below hb a5
    replace a6 := cell_below hb a6
    replace a7 := cell_below hb a7
    clear hb hc
    go_upto_region 5 with fail
    generalize w3.alloc (.cells #[.int .u64 0, .int .u64 0, .int .i64 0, .int .i64 0, .int .u64 0, .bool false, .int .i64 0, .slice none 0 0] 91) = w4 at *
    go_wp2_with fail
    refine (awake26_any _).mono ?_
    rintro e w5 ⟨rfl, hb⟩
    replace hB := below_trans hB hb
    replace a0 := cell_below hb a0
    replace a1 := cell_below hb a1
    replace a2 := cell_below hb a2
    replace a3 := cell_below hb a3
    replace a4 := cell_below hb a4
    replace a5 := cell_below hb a5
    replace a6 := cell_below hb a6
    replace a7 := cell_below hb a7
    replace d0 := cell_below hb d0
    replace d1 := cell_below hb d1
    replace d2 := cell_below hb d2
    replace d3 := cell_below hb d3
    replace d4 := cell_below hb d4
    replace d5 := cell_below hb d5
    replace d6 := cell_below hb d6
    replace d7 := cell_below hb d7
    clear hb
    go_wp2_with fail
    refine (KT _).out.mono ?_
    rintro e w6 ⟨rfl, hb⟩
    replace hB := below_trans hB hb
    clear hb
    go_wp2_with fail
    go_ret
    exact ⟨ret_bool (by simp), hB⟩
end Go.Proofs.Ythkabhejfkekjaa
