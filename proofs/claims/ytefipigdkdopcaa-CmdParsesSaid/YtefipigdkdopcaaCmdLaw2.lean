/- The law CmdParses of layer 35 (cmd), walked. -/
import Derived.Test.YtefipigdkdopcaaCmd8
import Derived.Test.YtefipigdkdopcaaR35c
namespace Go.Proofs.Ytefipigdkdopcaa
open Go.RowKit

set_option maxRecDepth 100000 in
set_option maxHeartbeats 2000000 in
theorem cmdparses_law (s : List UInt8) (w : World) :
    Calls Try.prog 4 #[.string ⟨s.toArray⟩] w fun e w' => e = .returned (.bool true) ∧ Below w.heap.size w w' := by
  have KAW := fun W => Lib.hid (awake35_any W)
  by_cases h300 : 300 < s.length
  · go_enter Try.func4, Try.ntmps4
    go_wp2_with (refine (KAW _).out.mono ?_; rintro e w1 ⟨rfl, hb⟩)
    go_ret
    exact ⟨rfl, hb⟩
  have hN : s.length ≤ 300 := by omega
  have KP := fun W => Lib.hid (cparse_any s W (by omega))
  have KL := fun W => Lib.hid (r35line_any s W (by omega))
  by_cases he : (parseC s).e = 0
  · obtain ⟨p1, p2⟩ := parse_ok he
    obtain ⟨hk, hka, hkb, -⟩ := check_zero p1
    have KAS := fun W => Lib.hid (as35_any ((parseC s).k : Nat) (parseC s).a (parseC s).b W)
    have KCH := fun W => Lib.hid (r35check_any ((parseC s).k : Nat) (parseC s).a (parseC s).b W)
    have KR := fun W => Lib.hid (r35text_any ((parseC s).k : Nat) (parseC s).a (parseC s).b W hk (by omega) (by omega))
    rw [p1] at KCH
    rw [p2] at KR
    rw [he] at KP
    clear he p1 p2 hk hka hkb h300 KL
    generalize (parseC s).k = k at *
    generalize (parseC s).a = a at *
    generalize (parseC s).b = b at *
    go_enter Try.func4, Try.ntmps4
    go_wp2_with fail
    refine (KP _).out.mono ?_
    rintro e w1 ⟨rfl, hB⟩
    obtain ⟨hb, hc⟩ := one_cells w1 #[.int .i64 (k : Int), .int .u64 (a : Int), .int .u64 (b : Int)] 24
    have c0 := hc 0 (.int .i64 (k : Int)) rfl
    have c1 := hc 1 (.int .u64 (a : Int)) rfl
    have c2 := hc 2 (.int .u64 (b : Int)) rfl
    replace hB := below_trans hB hb
    clear hb hc KP
    go_upto_region 6 with fail
    generalize w1.alloc (.cells #[.int .i64 (k : Int), .int .u64 (a : Int), .int .u64 (b : Int)] 24) = w2 at *
    go_wp2_with fail
    refine (KAW _).out.mono ?_
    rintro e w3 ⟨rfl, hb⟩
    replace c0 := cell_below hb c0
    replace c1 := cell_below hb c1
    replace c2 := cell_below hb c2
    replace hB := below_trans hB hb
    clear hb
    go_wp2_with fail
    refine (KAS _).out.mono ?_
    rintro e w4 ⟨rfl, hb⟩
    replace c0 := cell_below hb c0
    replace c1 := cell_below hb c1
    replace c2 := cell_below hb c2
    replace hB := below_trans hB hb
    clear hb
    go_wp2_with fail
    refine (KCH _).out.mono ?_
    rintro e w5 ⟨rfl, hb⟩
    replace c0 := cell_below hb c0
    replace c1 := cell_below hb c1
    replace c2 := cell_below hb c2
    replace hB := below_trans hB hb
    clear hb
    go_wp2_with fail
    refine (KAS _).out.mono ?_
    rintro e w6 ⟨rfl, hb⟩
    replace hB := below_trans hB hb
    clear hb
    go_wp2_with fail
    refine (KR _).out.mono ?_
    rintro e w7 ⟨rfl, hb⟩
    replace hB := below_trans hB hb
    clear hb
    go_wp2_with fail
    go_ret
    exact ⟨ret_bool (by simp), hB⟩
  · have hp := parse_bad he
    rw [hp] at KP
    clear he hp h300
    dsimp only at KP
    cases hlb : lineB s with
    | true =>
      rw [hlb] at KP KL
      rw [if_pos rfl] at KP
      clear hlb
      have KP2 : ∀ W, Hid (Calls Try.prog 18 #[.string ⟨s.toArray⟩] W fun e w' => e = .returned (.tuple #[.agg #[.int .i64 0, .int .u64 0, .int .u64 0], .int .i64 17]) ∧ Below W.heap.size W w') := fun W => Lib.hid (KP W).out
      go_enter Try.func4, Try.ntmps4
      go_wp2_with fail
      refine (KP2 _).out.mono ?_
      rintro e w1 ⟨rfl, hB⟩
      obtain ⟨hb, hc⟩ := one_cells w1 #[.int .i64 0, .int .u64 0, .int .u64 0] 24
      have c0 := hc 0 (.int .i64 0) rfl
      have c1 := hc 1 (.int .u64 0) rfl
      have c2 := hc 2 (.int .u64 0) rfl
      replace hB := below_trans hB hb
      clear hb hc KP KP2
      go_upto_region 5 with fail
      generalize w1.alloc (.cells #[.int .i64 0, .int .u64 0, .int .u64 0] 24) = w2 at *
      go_wp2_with fail
      refine (KAW _).out.mono ?_
      rintro e w3 ⟨rfl, hb⟩
      replace c0 := cell_below hb c0
      replace c1 := cell_below hb c1
      replace c2 := cell_below hb c2
      replace hB := below_trans hB hb
      clear hb
      go_wp2_with fail
      refine (KL _).out.mono ?_
      rintro e w4 ⟨rfl, hb⟩
      replace hB := below_trans hB hb
      clear hb
      go_wp2_with fail
      go_ret
      exact ⟨ret_bool (by simp), hB⟩
    | false =>
      rw [hlb] at KP KL
      rw [if_neg (by decide)] at KP
      clear hlb
      have KP2 : ∀ W, Hid (Calls Try.prog 18 #[.string ⟨s.toArray⟩] W fun e w' => e = .returned (.tuple #[.agg #[.int .i64 0, .int .u64 0, .int .u64 0], .int .i64 6]) ∧ Below W.heap.size W w') := fun W => Lib.hid (KP W).out
      go_enter Try.func4, Try.ntmps4
      go_wp2_with fail
      refine (KP2 _).out.mono ?_
      rintro e w1 ⟨rfl, hB⟩
      obtain ⟨hb, hc⟩ := one_cells w1 #[.int .i64 0, .int .u64 0, .int .u64 0] 24
      have c0 := hc 0 (.int .i64 0) rfl
      have c1 := hc 1 (.int .u64 0) rfl
      have c2 := hc 2 (.int .u64 0) rfl
      replace hB := below_trans hB hb
      clear hb hc KP KP2
      go_upto_region 5 with fail
      generalize w1.alloc (.cells #[.int .i64 0, .int .u64 0, .int .u64 0] 24) = w2 at *
      go_wp2_with fail
      refine (KAW _).out.mono ?_
      rintro e w3 ⟨rfl, hb⟩
      replace c0 := cell_below hb c0
      replace c1 := cell_below hb c1
      replace c2 := cell_below hb c2
      replace hB := below_trans hB hb
      clear hb
      go_wp2_with fail
      refine (KL _).out.mono ?_
      rintro e w4 ⟨rfl, hb⟩
      replace hB := below_trans hB hb
      clear hb
      go_wp2_with fail
      go_ret
      exact ⟨ret_bool (by simp), hB⟩
end Go.Proofs.Ytefipigdkdopcaa
