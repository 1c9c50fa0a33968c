/- Contracts of package be (its numbers), and of its reference. No condition but the lengths' bounds. -/
import Derived.Test.YtieigjlbjiielaaDoorLib
import Derived.Test.YtieigjlbjiielaaDoorBePlainD
namespace Go.Proofs.YtieigjlbjiielaaDoor
open Go.RowKit

theorem info_u8 : (Tryd.prog.info? 5).map (fun i => (i.zero, i.size, i.bytes)) = some (some (.int .u8 0), 1, 1) := by kernel_rfl

theorem size_u8 : (Tryd.prog.info? 5).map (·.size) = some 1 := by kernel_rfl

set_option maxHeartbeats 400000 in
theorem width_any (k : Int) (w : World) :
    Calls Tryd.prog 66 #[.int .i64 k] w fun e w' => e = .returned (.int .i64 (wid k)) ∧ w = w' := by
  have HW : Hid ((wid k : Int) = min (max k 0) 8) := by show _ = _; unfold wid; omega
  generalize (wid k : Int) = r at *
  go_enter Tryd.func66, Tryd.ntmps66
  go_wp2
  all_goals
    go_ret
    exact ⟨ret_int (by rw [HW.out]; omega), rfl⟩

theorem or64 (a b : Nat) (ha : a < 72057594037927936) (hb : b < 256) : bits .or .u64 ((a : Int) * 256) b = ((a * 256 + b : Nat) : Int) := by
  have h := bits_join .u64 64 (by decide) (fun n h0 h1 => by simp [IntKind.wrap, IntKind.bits, IntKind.signed]; omega) 8 ((a : Int) * 256) b (by omega) (by omega) (by omega) (by omega) (by omega) (by omega)
  rw [h]; omega

