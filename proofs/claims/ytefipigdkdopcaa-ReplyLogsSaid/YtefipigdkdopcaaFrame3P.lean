/- Contract of frame.Of. No condition but lengths' bounds. -/
import Derived.Test.YtefipigdkdopcaaFrame2P
namespace Go.Proofs.Ytefipigdkdopcaa
open Go.RowKit

/-- A struct of five cells laid into a block, cell by cell. -/
abbrev five (w : World) (g : Nat) (a b c d e : Value) : World := ((((w.setCell ⟨g, 0, none⟩ a).setCell ⟨g, 1, none⟩ b).setCell ⟨g, 2, none⟩ c).setCell ⟨g, 3, none⟩ d).setCell ⟨g, 4, none⟩ e
theorem five_heap {w : World} {g : Nat} {a0 b0 c0 d0 e0 : Value} {t : TypeId} (h : w.heap[g]? = some (.cells #[a0, b0, c0, d0, e0] t (0, 0))) (a b c d e : Value) : (five w g a b c d e).heap[g]? = some (.cells #[a, b, c, d, e] t (0, 0)) := by
  have h1 := set_heap (o := 0) h a
  have h2 := set_heap (o := 1) h1 b
  have h3 := set_heap (o := 2) h2 c
  have h4 := set_heap (o := 3) h3 d
  exact set_heap (o := 4) h4 e
theorem five_gb (w : World) (g : Nat) (a b c d e : Value) : w.grownBy (five w g a b c d e) (some g) :=
  ((((gb_set _ _ _ _).trans (gb_set _ _ _ _)).trans (gb_set _ _ _ _)).trans (gb_set _ _ _ _)).trans (gb_set _ _ _ _)
/-- The five cells of a block, and that none is frozen. -/
theorem five_cells {w : World} {g : Nat} {a b c d e : Value} {t : TypeId} (h : w.heap[g]? = some (.cells #[a, b, c, d, e] t (0, 0))) :
    (w.cell? ⟨g, 0, none⟩ = some a ∧ w.cell? ⟨g, 1, none⟩ = some b ∧ w.cell? ⟨g, 2, none⟩ = some c ∧ w.cell? ⟨g, 3, none⟩ = some d ∧ w.cell? ⟨g, 4, none⟩ = some e) ∧
    (w.frozen? ⟨g, 0, none⟩ = false ∧ w.frozen? ⟨g, 1, none⟩ = false ∧ w.frozen? ⟨g, 2, none⟩ = false ∧ w.frozen? ⟨g, 3, none⟩ = false ∧ w.frozen? ⟨g, 4, none⟩ = false) :=
  ⟨⟨cell_heap h, cell_heap h, cell_heap h, cell_heap h, cell_heap h⟩, frozen_heap h, frozen_heap h, frozen_heap h, frozen_heap h, frozen_heap h⟩

/-- No frame of nothing. -/
abbrev zfrm : Value := .agg #[.int .u64 0, .int .u64 0, .int .i64 0, .int .i64 0, .string ⟨([] : List UInt8).toArray⟩]
