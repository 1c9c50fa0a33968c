/- What the laid tables say of the library's variables. No condition. -/
import Derived.Test.YtieigjlbjiielaaDoorLaidW
import Derived.Test.YtieigjlbjiielaaDoorEtLaw
import Derived.Test.YtieigjlbjiielaaDoorShelf
import Derived.Lib.LaidU8T
import Derived.ProofKit
import Derived.KernelRfl
namespace Go.Proofs.YtieigjlbjiielaaDoor
open Go.RowKit Go.Lib Go.Shelf
theorem acc_same : (Rows.laid_unicode_utf8_acceptRanges : DataW Unit) = Lib.acceptData := by kernel_rfl
theorem first_same : Rows.laid_unicode_utf8_first = Lib.firstData := by kernel_rfl
theorem lt_of_laid {w : World} (hL : laidMet Tryd.prog [("unicode/utf8.acceptRanges", Rows.laid_unicode_utf8_acceptRanges), ("unicode/utf8.first", Rows.laid_unicode_utf8_first)] w) (hS : w.ShapedOpen Tryd.prog) : LT w := by
  have h1 := Lib.laidMet.reads hL (.tail _ (.head _))
  have h2 := Lib.laidMet.reads hL (.head _)
  rw [first_same] at h1
  rw [acc_same] at h2
  exact ⟨utf8Tabs_of_readsT (U8Types.of196 Tryd.lays196) ⟨by kernel_rfl, by kernel_rfl, by kernel_rfl, by kernel_rfl, by kernel_rfl, by kernel_rfl, by kernel_rfl⟩ h1 h2, Tryd.laysM145.s1_3 w hS⟩
end Go.Proofs.YtieigjlbjiielaaDoor
