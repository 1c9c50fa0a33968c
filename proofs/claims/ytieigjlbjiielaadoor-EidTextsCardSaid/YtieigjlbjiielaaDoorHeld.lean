/- A region that draws its order: the condition on its worlds may be made stronger on the way. No condition. -/
import Derived.Test.YtieigjlbjiielaaDoorLib2
import Derived.Deep.RegionHeld
namespace Go.Proofs.YtieigjlbjiielaaDoor
open Go.RowKit
theorem wpAnyH_stronger {P : Program} {md : Region.Mode} {ops : Array Oper} {Q : Exit → Act → World → Prop} {S S' : World → Prop} (hs : ∀ w, S' w → S w) :
    ∀ (fuel : Nat) (listed : Array Bool) (a : Act) (w : World), wpAnyH P md ops Q S' fuel listed a w → wpAnyH P md ops Q S fuel listed a w
  | 0, _, _, _, h => h
  | fuel + 1, _, _, _, h => ⟨h.1, fun i hi => wpOp_mono (fun a' w' h' => ⟨hs w' h'.1, wpAnyH_stronger hs fuel _ a' w' h'.2⟩) (h.2 i hi)⟩
/-- '[]byte(s)'. -/
theorem run_bytes_of (xs : List UInt8) (W : World) : (convert 9 61 (.string ⟨xs.toArray⟩)).run Tryd.prog W = .ok (.slice (some ⟨W.heap.size, 0, none⟩) xs.length (grownCap W xs.length 0 5)) (Lib.bytesWorld W 5 ⟨xs.toArray⟩) :=
  Lib.run_convert_string_bytes W _ _ _ _ Tryd.underlying9 Tryd.underlying61 Tryd.underlying5
theorem rd_bytesOf (w : World) (xs : List UInt8) (h : xs.length ≤ maxLen) : RdB (Lib.bytesWorld w 5 ⟨xs.toArray⟩) (some ⟨w.heap.size, 0, none⟩) xs.length (grownCap w xs.length 0 5) xs := rd_bytesWorld w 5 ⟨xs.toArray⟩ h
end Go.Proofs.YtieigjlbjiielaaDoor
