/- Contract of the reference's Text of a command. No condition but the kind's bounds. -/
import Derived.Test.YtefipigdkdopcaaR35
namespace Go.Proofs.Ytefipigdkdopcaa
open Go.RowKit

set_option maxRecDepth 100000 in
set_option maxHeartbeats 1000000 in
theorem r35text_any (k : Int) (a b : Nat) (w : World) (hk : 1 ≤ k ∧ k ≤ 7) (ha : a < 18446744073709551616) (hb : b < 18446744073709551616) : Calls Try.prog 19 #[cmdV k a b] w fun e w' => e = .returned (.string ⟨(textK k a b).toArray⟩) ∧ Below w.heap.size w w' := by
  obtain ⟨hB, hc⟩ := one_cells w #[.int .i64 k, .int .u64 (a : Int), .int .u64 (b : Int)] 29
  have c0 := hc 0 (.int .i64 k) rfl
  have c1 := hc 1 (.int .u64 (a : Int)) rfl
  have c2 := hc 2 (.int .u64 (b : Int)) rfl
  clear hc
  have HT : Hid (textK k a b = txtN (wordK k) [a, b] (manyK k)) := rfl
  have KM := fun W => Lib.hid (r35many_any k W hk)
  have KW := fun W => Lib.hid (r35word_any k W hk)
  have KA := fun W => Lib.hid (digits7_any a W ha)
  have KB := fun W => Lib.hid (digits7_any b W hb)
  have hm := manyK_le k
  have hwl := wordK_length k
  have la := digs_len ha
  have lb := digs_len hb
  have HA : Hid (∀ wd, txtN wd [a, b] 1 = wd ++ [32] ++ digs a ∧ txtN wd [a, b] 2 = wd ++ [32] ++ digs a ++ [32] ++ digs b) := by
    intro wd
    simp [txtN]
  clear hk
  generalize manyK k = m at *
  generalize wordK k = wd at *
  have l1 : ¬ (9223372036854775807 < wd.length + 1) := by omega
  have l2 : ¬ (9223372036854775807 < (wd ++ [32]).length + (digs a).length) := by simp; omega
  have l3 : ¬ (9223372036854775807 < (wd ++ [32] ++ digs a).length + 1) := by simp; omega
  have l4 : ¬ (9223372036854775807 < (wd ++ [32] ++ digs a ++ [32]).length + (digs b).length) := by simp; omega
  rcases (by omega : m = 0 ∨ m = 1 ∨ m = 2) with rfl | rfl | rfl
  · go_enter Try.func19, Try.ntmps19
    go_wp2_with (first
      | (go_at_call 59; refine (KW _).out.mono ?_; rintro e w1 ⟨rfl, hb1⟩; replace c0 := cell_below hb1 c0; replace c1 := cell_below hb1 c1; replace c2 := cell_below hb1 c2; replace hB := below_trans hB hb1; clear hb1)
      | (go_at_call 54; refine (KM _).out.mono ?_; rintro e w1 ⟨rfl, hb1⟩; replace c0 := cell_below hb1 c0; replace c1 := cell_below hb1 c1; replace c2 := cell_below hb1 c2; replace hB := below_trans hB hb1; clear hb1))
    go_ret
    exact ⟨by rw [HT.out]; rfl, hB⟩
  · go_enter Try.func19, Try.ntmps19
    go_wp2_with (first
      | (go_at_call 59; refine (KW _).out.mono ?_; rintro e w1 ⟨rfl, hb1⟩; replace c0 := cell_below hb1 c0; replace c1 := cell_below hb1 c1; replace c2 := cell_below hb1 c2; replace hB := below_trans hB hb1; clear hb1)
      | (go_at_call 54; refine (KM _).out.mono ?_; rintro e w1 ⟨rfl, hb1⟩; replace c0 := cell_below hb1 c0; replace c1 := cell_below hb1 c1; replace c2 := cell_below hb1 c2; replace hB := below_trans hB hb1; clear hb1)
      | (go_at_call 60; refine (digits7_any _ _ (by assumption)).mono ?_; rintro e w1 ⟨rfl, rfl⟩; try rw [show (⟨wd.toArray⟩ : ByteArray) ++ ⟨#[32]⟩ = ⟨(wd ++ [32]).toArray⟩ from cat_bytes wd [32]]))
    go_ret
    exact ⟨by rw [HT.out, (HA.out wd).1]; simp [cat_bytes], hB⟩
  · have KA := fun W => Lib.hid (digits7_any a W ha)
    have KB := fun W => Lib.hid (digits7_any b W hb)
    go_enter Try.func19, Try.ntmps19
    go_wp2_with (first
      | (go_at_call 59; refine (KW _).out.mono ?_; rintro e w1 ⟨rfl, hb1⟩; replace c0 := cell_below hb1 c0; replace c1 := cell_below hb1 c1; replace c2 := cell_below hb1 c2; replace hB := below_trans hB hb1; clear hb1)
      | (go_at_call 54; refine (KM _).out.mono ?_; rintro e w1 ⟨rfl, hb1⟩; replace c0 := cell_below hb1 c0; replace c1 := cell_below hb1 c1; replace c2 := cell_below hb1 c2; replace hB := below_trans hB hb1; clear hb1)
      | (go_at_call 60; fail))
    refine (KA _).out.mono ?_
    rintro e w1 ⟨rfl, rfl⟩
    rw [show (⟨wd.toArray⟩ : ByteArray) ++ ⟨#[32]⟩ = ⟨(wd ++ [32]).toArray⟩ from cat_bytes wd [32]]
    go_wp2_with (first
      | (go_at_call 59; refine (KW _).out.mono ?_; rintro e w1 ⟨rfl, hb1⟩; replace c0 := cell_below hb1 c0; replace c1 := cell_below hb1 c1; replace c2 := cell_below hb1 c2; replace hB := below_trans hB hb1; clear hb1)
      | (go_at_call 54; refine (KM _).out.mono ?_; rintro e w1 ⟨rfl, hb1⟩; replace c0 := cell_below hb1 c0; replace c1 := cell_below hb1 c1; replace c2 := cell_below hb1 c2; replace hB := below_trans hB hb1; clear hb1)
      | (go_at_call 60; fail))
    refine (KB _).out.mono ?_
    rintro e w1 ⟨rfl, rfl⟩
    go_wp2_with fail
    go_ret
    exact ⟨by rw [HT.out, (HA.out wd).2]; simp [cat_bytes], hB⟩
end Go.Proofs.Ytefipigdkdopcaa
