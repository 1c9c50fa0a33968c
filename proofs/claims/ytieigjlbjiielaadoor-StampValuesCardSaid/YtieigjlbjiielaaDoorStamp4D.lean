/- Layer 8 (stamp): what must come at any rate; the laws. -/
import Derived.Test.YtieigjlbjiielaaDoorStamp3D
namespace Go.Proofs.YtieigjlbjiielaaDoor
open Go.RowKit

theorem key_awake : keyB 1 0 0 5 2 [] = [49, 32, 48, 32, 48, 32, 53, 32, 50, 32] := by
  simp [keyB, digs]

set_option maxRecDepth 100000 in
set_option maxHeartbeats 1000000 in
theorem awake08_any (w : World) : Calls Tryd.prog 6 #[] w fun e w' => e = .returned (.bool true) ∧ Below w.heap.size w w' := by
  have hB := Below.refl w.heap.size w
  have KV := Lib.hid (svalue_any 5 2 w)
  have KO := fun A w h => Lib.hid (sof_any 5 2 A 2 w h)
  have KE := fun w => Lib.hid (send_any 5 2 3 w (by omega) (by omega))
  have K8 := fun w => Lib.hid (sover_any 5 2 3 8 w (by omega) (by omega))
  have K7 := fun w => Lib.hid (sover_any 5 2 3 7 w (by omega) (by omega))
  have KL := fun w => Lib.hid (sless_any 5 2 5 3 w)
  have KK := fun w => Lib.hid (skey_any 1 0 0 5 2 [] w (by omega) (by omega) (by omega) (by omega) (by omega) (by simp))
  simp only [key_awake, show endN 5 3 = 8 from rfl, show lessB 5 2 5 3 = true from rfl, show decide (8 ≤ 8) = true from rfl, show decide (8 ≤ 7) = false from rfl] at KE K8 K7 KL KK
  go_enter Tryd.func6, Tryd.ntmps6
  go_wp2_with fail
  refine KV.out.mono ?_
  rintro e w1 ⟨A, rfl, hr, hb⟩
  replace hB := below_trans hB hb
  clear hb KV
  go_wp2_with fail
  refine (KO _ _ hr).out.mono ?_
  rintro e w2 ⟨rfl, hb⟩
  replace hB := below_trans hB hb
  clear hb KO hr
  obtain ⟨hb, hca⟩ := one_cells w2 #[.int .u64 5, .int .u64 2] 24
  have c0 := hca 0 (.int .u64 5) rfl
  have c1 := hca 1 (.int .u64 2) rfl
  replace hB := below_trans hB hb
  clear hb hca
  go_wp2_with (first
    | (go_at_call 22; refine (KE _).out.mono ?_; rintro e w3 ⟨rfl, hb⟩; replace hB := below_trans hB hb; replace c0 := cell_below hb c0; replace c1 := cell_below hb c1; clear hb)
    | (go_at_call_of 23 (Value.int IntKind.u64 8); refine (K8 _).out.mono ?_; rintro e w3 ⟨rfl, hb⟩; replace hB := below_trans hB hb; replace c0 := cell_below hb c0; replace c1 := cell_below hb c1; clear hb)
    | (go_at_call_of 23 (Value.int IntKind.u64 7); refine (K7 _).out.mono ?_; rintro e w3 ⟨rfl, hb⟩; replace hB := below_trans hB hb; replace c0 := cell_below hb c0; replace c1 := cell_below hb c1; clear hb)
    | (go_at_call 24; refine (KL _).out.mono ?_; rintro e w3 ⟨rfl, hb⟩; replace hB := below_trans hB hb; replace c0 := cell_below hb c0; replace c1 := cell_below hb c1; clear hb)
    | (go_at_call 25; refine (KK _).out.mono ?_; rintro e w3 ⟨rfl, hb⟩; replace hB := below_trans hB hb; clear hb c0 c1))
  go_ret
  exact ⟨by simp, hB⟩

