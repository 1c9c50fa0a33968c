/- Layer 32 (frame): what must come at any rate. No condition. -/
import Derived.Test.YthkabhejfkekjaaFrame5
import Derived.Test.YthkabhejfkekjaaFrame7
namespace Go.Proofs.Ythkabhejfkekjaa
open Go.RowKit

abbrev fr0 : Value := .agg #[.int .u64 7, .int .u64 3, .int .i64 0, .int .i64 3, .string ⟨#[97, 98, 99]⟩]
theorem may0 : MayF 7 3 0 3 3 := ⟨by decide, by decide, by decide, by decide, by decide, by decide, by decide⟩

set_option maxRecDepth 100000 in
set_option maxHeartbeats 2000000 in
theorem awake32_any (w : World) : Calls Try.prog 48 #[] w fun e w' => e = .returned (.bool true) ∧ Below w.heap.size w w' := by
  have kc := fun (w : World) (C : Array Value) (n c : Nat) => Lib.run_convert_bytes_const (P := Try.prog) w 22 5 C n c Try.underlying22 Try.underlying5
  have hB : Below w.heap.size w (w.alloc (.cells #[.int .u8 97, .int .u8 98, .int .u8 99] 5 (3, 4))) := (Below.refl _ _).alloc (Nat.le_refl _) _
  have hr0 : RdB (w.alloc (.cells #[.int .u8 97, .int .u8 98, .int .u8 99] 5 (3, 4))) (some ⟨w.heap.size, 0, none⟩) 3 3 [97, 98, 99] := by
    refine ⟨rfl, by omega, by decide, fun e => (by cases e), fun ad e j u hu => ?_⟩
    cases e
    exact World.news_of_block (alloc_new w _) j u hu
  have KO : Hid (Calls Try.prog 55 #[.int .u64 3, .int .u64 7, .slice (some ⟨w.heap.size, 0, none⟩) 3 3, .int .i64 0] (w.alloc (.cells #[.int .u8 97, .int .u8 98, .int .u8 99] 5 (3, 4))) fun e w' => e = .returned (.tuple #[fr0, .int .i64 0]) ∧ Below (w.alloc (.cells #[.int .u8 97, .int .u8 98, .int .u8 99] 5 (3, 4))).heap.size (w.alloc (.cells #[.int .u8 97, .int .u8 98, .int .u8 99] 5 (3, 4))) w') :=
    Lib.hid (fof_yes 3 7 0 [97, 98, 99] _ 3 3 _ hr0 (by decide) (by decide) (by decide) (by decide))
  have hlen : (frmP 7 3 0 3 [97, 98, 99]).length = 18 := frmP_length 7 3 0 3 [97, 98, 99]
  have KP : ∀ W, Hid (Calls Try.prog 49 #[fr0] W fun e w' => ∃ v, e = .returned (.tuple #[v, .int .i64 0]) ∧ w'.ownsRow W.heap.size 5 1 v 18 (bs (frmP 7 3 0 3 [97, 98, 99])) ∧ Below W.heap.size W w') := fun W => Lib.hid (fput_any 7 3 0 3 [97, 98, 99] W may0)
  have hg := fget_put 7 3 0 3 [97, 98, 99] [9] may0
  have KS : ∀ W, Hid (Calls Try.prog 52 #[fr0] W fun e w' => e = .returned (.int .i64 18) ∧ Below W.heap.size W w') := fun W => Lib.hid (fsize_any 7 3 0 3 [97, 98, 99] W (by decide))
  generalize frmP 7 3 0 3 [97, 98, 99] = fp at *
  have KG : ∀ A c W, RdB W A 19 c (fp ++ [9]) → Hid (Calls Try.prog 53 #[.slice A 19 c] W fun e w' => e = .returned (.tuple #[fr0, .int .i64 18, .int .i64 0]) ∧ Below W.heap.size W w') := fun A c W hh => Lib.hid (fget32_any 7 3 0 3 [97, 98, 99] 0 (fp ++ [9]) A 19 c W hh (by decide) hg)
  go_enter Try.func48, Try.ntmps48
  go_wp2_with fail
  refine KO.out.mono ?_
  rintro e w1 ⟨rfl, hb⟩
  replace hB := below_trans hB hb
  clear hb KO hr0 kc
  obtain ⟨hb1, hca⟩ := one_cells w1 #[.int .u64 7, .int .u64 3, .int .i64 0, .int .i64 3, .string ⟨#[97, 98, 99]⟩] 66
  have a0 := hca 0 (.int .u64 7) rfl
  have a1 := hca 1 (.int .u64 3) rfl
  have a2 := hca 2 (.int .i64 0) rfl
  have a3 := hca 3 (.int .i64 3) rfl
  have a4 := hca 4 (.string ⟨#[97, 98, 99]⟩) rfl
  clear hca
  replace hB := below_trans hB hb1
  go_wp2_with fail
  generalize w1.alloc (.cells #[.int .u64 7, .int .u64 3, .int .i64 0, .int .i64 3, .string ⟨#[97, 98, 99]⟩] 66) = w2 at *
  refine (KP _).out.mono ?_
  rintro e w3 ⟨v, rfl, how, hb⟩
  obtain ⟨A3, c3, rfl, hr3, -⟩ := Rd.of_own how
  replace hB := below_trans hB hb
  replace a0 := cell_below hb a0
  replace a1 := cell_below hb a1
  replace a2 := cell_below hb a2
  replace a3 := cell_below hb a3
  replace a4 := cell_below hb a4
  clear hb hb1 how KP
  have own0 := own_empty w3 5 1
  have hBe : Below w3.heap.size w3 (w3.alloc (.cells #[] 5)) := (Below.refl _ _).alloc (Nat.le_refl _) _
  have hr3e := hr3.below hBe
  go_wp2_with (first
    | (at_builtin; refine wpl_append rfl (.tmp 20) (.tmp 21) 22 rfl w3.heap.size 5 _ 1 1 Try.underlying22 info_u8 rfl (by decide) _ 0 [] rfl own0 A3 18 c3 _ rfl hr3e (bs_one _) (by decide) (by decide) hBe.size ?_; intro v4 w4 ho4 hg4; have hB4 := below_own hBe own0 hg4; clear hg4)
    | (at_builtin; refine wpl_append1 rfl (.tmp 22) (.tmp 23) 22 rfl w3.heap.size 5 _ 1 1 Try.underlying22 info_u8 rfl (by decide) _ _ _ rfl ho4 #[.int .u8 9] (0, 0) 1 rfl rfl one8 (by decide) (by decide) hB4.size ?_; intro v5 w5 ho5 hg5; have hB5 := below_own hB4 ho4 hg5; clear hg5)
    | fail)
  have a50 := cell_belowB hB5 (cell_lt a0) a0
  have a51 := cell_belowB hB5 (cell_lt a1) a1
  have a52 := cell_belowB hB5 (cell_lt a2) a2
  have a53 := cell_belowB hB5 (cell_lt a3) a3
  have a54 := cell_belowB hB5 (cell_lt a4) a4
  obtain ⟨A5, c5, rfl, hr5, -⟩ := Rd.of_own ho5
  have hr5' : RdB w5 A5 19 c5 (fp ++ [9]) := by
    have : bs (fp ++ [9]) = ([] ++ bs fp) ++ (#[Value.int .u8 9] : Array Value).toList := by simp [bs]
    unfold RdB
    rw [this]; exact hr5
  replace hB := below_trans hB hB5
  clear hr5 ho5 ho4 hB5 hB4 own0 hBe hr3e hr3 a0 a1 a2 a3 a4
  refine (KG _ _ _ hr5').out.mono ?_
  rintro e w6 ⟨rfl, hb⟩
  replace hB := below_trans hB hb
  replace a50 := cell_below hb a50
  replace a51 := cell_below hb a51
  replace a52 := cell_below hb a52
  replace a53 := cell_below hb a53
  replace a54 := cell_below hb a54
  clear hb hr5' KG
  obtain ⟨hb1, hca⟩ := one_cells w6 #[.int .u64 7, .int .u64 3, .int .i64 0, .int .i64 3, .string ⟨#[97, 98, 99]⟩] 66
  have b0 := hca 0 (.int .u64 7) rfl
  have b1 := hca 1 (.int .u64 3) rfl
  have b2 := hca 2 (.int .i64 0) rfl
  have b3 := hca 3 (.int .i64 3) rfl
  have b4 := hca 4 (.string ⟨#[97, 98, 99]⟩) rfl
  clear hca
  replace hB := below_trans hB hb1
  replace a50 := cell_below hb1 a50
  replace a51 := cell_below hb1 a51
  replace a52 := cell_below hb1 a52
  replace a53 := cell_below hb1 a53
  replace a54 := cell_below hb1 a54
  go_wp2_with fail
  refine (KS _).out.mono ?_
  rintro e w7 ⟨rfl, hb⟩
  go_wp2_with fail
  go_ret
  exact ⟨ret_bool (by simp), below_trans hB hb⟩
end Go.Proofs.Ythkabhejfkekjaa
