/- The law CmdTexts of layer 35 (cmd), walked. -/
import Derived.Test.YtefipigdkdopcaaCmd8
namespace Go.Proofs.Ytefipigdkdopcaa
open Go.RowKit

set_option maxRecDepth 100000 in
set_option maxHeartbeats 2000000 in
theorem cmdtexts_law (k : Int) (a b : Nat) (w : World) (ha : a < 18446744073709551616) (hb' : b < 18446744073709551616) :
    Calls Try.prog 3 #[cmdV k a b] w fun e w' => e = .returned (.bool true) ∧ Below w.heap.size w w' := by
  obtain ⟨hB, hc⟩ := one_cells w #[.int .i64 k, .int .u64 (a : Int), .int .u64 (b : Int)] 24
  have c0 := hc 0 (.int .i64 k) rfl
  have c1 := hc 1 (.int .u64 (a : Int)) rfl
  have c2 := hc 2 (.int .u64 (b : Int)) rfl
  clear hc
  have KAW := fun W => Lib.hid (awake35_any W)
  have KAS := fun W => Lib.hid (as35_any k a b W)
  have KCH := fun W => Lib.hid (r35check_any k a b W)
  have KCC := fun W => Lib.hid (ccheck_any k a b W)
  by_cases he : cmdCheck k a b = 0
  · obtain ⟨hk, -⟩ := check_zero he
    obtain ⟨kn, rfl⟩ : ∃ kn : Nat, k = kn := ⟨k.toNat, by omega⟩
    have hlen := textK_length (kn : Nat) a b ha hb'
    have KT := fun W => Lib.hid (ctext_yes (kn : Nat) a b W he)
    have KR := fun W => Lib.hid (r35text_any (kn : Nat) a b W hk ha hb')
    have KP := fun W => Lib.hid ((cparse_any (textK (kn : Nat) a b) W (by omega)).mono (fun e w' h => (show e = .returned (.tuple #[cmdV (kn : Nat) a b, .int .i64 0]) ∧ Below W.heap.size W w' from ⟨by rw [h.1, parse_text he]; rfl, h.2⟩)))
    rw [he] at KCH KCC
    clear he hk hlen
    generalize textK (kn : Nat) a b = tx at *
    go_enter Try.func3, Try.ntmps3
    go_wp2_with fail
    refine (KT _).out.mono ?_
    rintro e w1 ⟨rfl, hb⟩
    replace c0 := cell_below hb c0
    replace c1 := cell_below hb c1
    replace c2 := cell_below hb c2
    replace hB := below_trans hB hb
    clear hb KT
    go_wp2_with fail
    refine (KAS _).out.mono ?_
    rintro e w2 ⟨rfl, hb⟩
    replace c0 := cell_below hb c0
    replace c1 := cell_below hb c1
    replace c2 := cell_below hb c2
    replace hB := below_trans hB hb
    clear hb
    go_wp2_with fail
    refine (KCH _).out.mono ?_
    rintro e w3 ⟨rfl, hb⟩
    replace c0 := cell_below hb c0
    replace c1 := cell_below hb c1
    replace c2 := cell_below hb c2
    replace hB := below_trans hB hb
    clear hb KCH
    go_wp2_with fail
    refine (KCC _).out.mono ?_
    rintro e w4 ⟨rfl, hb⟩
    replace c0 := cell_below hb c0
    replace c1 := cell_below hb c1
    replace c2 := cell_below hb c2
    replace hB := below_trans hB hb
    clear hb KCC
    go_wp2_with fail
    refine (KP _).out.mono ?_
    rintro e w5 ⟨rfl, hb⟩
    replace c0 := cell_below hb c0
    replace c1 := cell_below hb c1
    replace c2 := cell_below hb c2
    replace hB := below_trans hB hb
    clear hb KP
    obtain ⟨hb, hc⟩ := one_cells w5 #[.int .i64 (kn : Int), .int .u64 (a : Int), .int .u64 (b : Int)] 24
    have d0 := hc 0 (.int .i64 (kn : Int)) rfl
    have d1 := hc 1 (.int .u64 (a : Int)) rfl
    have d2 := hc 2 (.int .u64 (b : Int)) rfl
    replace c0 := cell_below hb c0
    replace c1 := cell_below hb c1
    replace c2 := cell_below hb c2
    replace hB := below_trans hB hb
    clear hb hc
    go_upto_region 8 with fail
    generalize w5.alloc (.cells #[.int .i64 (kn : Int), .int .u64 (a : Int), .int .u64 (b : Int)] 24) = w6 at *
    go_wp2_with fail
    refine (KAW _).out.mono ?_
    rintro e w7 ⟨rfl, hb⟩
    replace c0 := cell_below hb c0
    replace c1 := cell_below hb c1
    replace c2 := cell_below hb c2
    replace d0 := cell_below hb d0
    replace d1 := cell_below hb d1
    replace d2 := cell_below hb d2
    replace hB := below_trans hB hb
    clear hb
    go_wp2_with fail
    refine (KAS _).out.mono ?_
    rintro e w8 ⟨rfl, hb⟩
    replace c0 := cell_below hb c0
    replace c1 := cell_below hb c1
    replace c2 := cell_below hb c2
    replace d0 := cell_below hb d0
    replace d1 := cell_below hb d1
    replace d2 := cell_below hb d2
    replace hB := below_trans hB hb
    clear hb
    go_wp2_with fail
    refine (KR _).out.mono ?_
    rintro e w9 ⟨rfl, hb⟩
    replace c0 := cell_below hb c0
    replace c1 := cell_below hb c1
    replace c2 := cell_below hb c2
    replace d0 := cell_below hb d0
    replace d1 := cell_below hb d1
    replace d2 := cell_below hb d2
    replace hB := below_trans hB hb
    clear hb
    go_wp2_with fail
    go_ret
    exact ⟨ret_bool (by simp), hB⟩
  · have KT := fun W => Lib.hid (ctext_no k a b (cmdCheck k a b) W rfl he)
    have hz : ((cmdCheck k a b : Int) != 0) = true ∧ ((cmdCheck k a b : Int) == 0) = false := ⟨by rw [bne_iff_ne]; omega, by rw [beq_eq_false_iff_ne]; omega⟩
    obtain ⟨hz1, hz2⟩ := hz
    clear he
    generalize cmdCheck k a b = er at *
    go_enter Try.func3, Try.ntmps3
    go_wp2_with fail
    refine (KT _).out.mono ?_
    rintro e w1 ⟨rfl, hb⟩
    replace c0 := cell_below hb c0
    replace c1 := cell_below hb c1
    replace c2 := cell_below hb c2
    replace hB := below_trans hB hb
    clear hb KT
    go_wp2_with fail
    refine (KAS _).out.mono ?_
    rintro e w2 ⟨rfl, hb⟩
    replace c0 := cell_below hb c0
    replace c1 := cell_below hb c1
    replace c2 := cell_below hb c2
    replace hB := below_trans hB hb
    clear hb
    go_wp2_with fail
    refine (KCH _).out.mono ?_
    rintro e w3 ⟨rfl, hb⟩
    replace c0 := cell_below hb c0
    replace c1 := cell_below hb c1
    replace c2 := cell_below hb c2
    replace hB := below_trans hB hb
    clear hb KCH
    go_wp2_with fail
    refine (KCC _).out.mono ?_
    rintro e w4 ⟨rfl, hb⟩
    replace hB := below_trans hB hb
    clear hb KCC
    go_wp2_with fail
    refine (KAW _).out.mono ?_
    rintro e w5 ⟨rfl, hb⟩
    replace hB := below_trans hB hb
    clear hb KAW
    go_wp2_with fail
    go_ret
    exact ⟨ret_bool (by simp), hB⟩
end Go.Proofs.Ytefipigdkdopcaa
