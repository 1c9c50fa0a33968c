/-
  DERIVED. GIVEN WITH THE SEED: THE CARDS: each row of YtieigjlbjiielaaDoorRows.lean that lists a variable, with what it lists TIED to the program's text (the seventh form; the later family's looks); each row that meets fmt, with fmt's text TOLD by the authors' own Lean function (tested against real Go, not proved from fmt's source: count such statements apart). THE CARD IS WHAT COUNTS. Prove the row's statement (the work); the ties are given (YtieigjlbjiielaaDoorTie.lean); close each card by the builder's one call (the guide's Derived/Test/ToyasCard.lean, 'card_holds'). Laid BY PROGRAM, IN A SANDBOX (cutbox-door.mjs). By AI agents, Wed Nov 11 2026. No macro, syntax, notation, axiom, sorry.
-/
import Derived.Test.YtieigjlbjiielaaDoorRows
import GoSem.ClaimSeven
namespace Go.Proofs.YtieigjlbjiielaaDoor
namespace Rows

/-- THE TIED CARD OF 'wagtaillaw08.StampValues'. -/
def stampValuesCard : Claim7 := { stood := { row := stampValuesRow, standIns := [], harness := (true, "6ca0ed10f34cc7c749414e1685a93f254d6a8d401390befcacd67bcfd7b74abf"), looks := true }, kinds := [], alts := [], laidByText := true, laidKinds := [.data, .pinned], laidTests := true, laidLooks := .later }
def StampValuesCardSaid : Prop := Claim7.holds Tryd.pinned (.plain (OpenSpec.ofChange stampValuesSpec)) stampValuesCard

/-- THE TIED CARD OF 'wagtaillaw07.EidTexts'. -/
def eidTextsCard : Claim7 := { stood := { row := eidTextsRow, standIns := [], harness := (true, "6ca0ed10f34cc7c749414e1685a93f254d6a8d401390befcacd67bcfd7b74abf"), looks := true }, kinds := [], alts := [], laidByText := true, laidKinds := [.data, .pinned], laidTests := true, laidLooks := .later }
def EidTextsCardSaid : Prop := Claim7.holds Tryd.pinned (.plain (OpenSpec.ofChange eidTextsSpec)) eidTextsCard

/-- THE SECOND FORM's CARD OF 'wagtaillaw08.StampValues'. -/
def stampValuesUptoCard : Claim7 := { stood := { row := stampValuesUptoRow, standIns := [], harness := (true, "6ca0ed10f34cc7c749414e1685a93f254d6a8d401390befcacd67bcfd7b74abf"), looks := true }, kinds := [], alts := [], laidByText := true, laidKinds := [.data, .pinned], laidTests := true, laidLooks := .later }
def StampValuesUptoCardSaid : Prop := Claim7.holds Tryd.pinned (.plain (OpenSpec.upto stampValuesSpec)) stampValuesUptoCard

/-- THE SECOND FORM's CARD OF 'wagtaillaw07.EidTexts'. -/
def eidTextsUptoCard : Claim7 := { stood := { row := eidTextsUptoRow, standIns := [], harness := (true, "6ca0ed10f34cc7c749414e1685a93f254d6a8d401390befcacd67bcfd7b74abf"), looks := true }, kinds := [], alts := [], laidByText := true, laidKinds := [.data, .pinned], laidTests := true, laidLooks := .later }
def EidTextsUptoCardSaid : Prop := Claim7.holds Tryd.pinned (.plain (OpenSpec.upto eidTextsSpec)) eidTextsUptoCard
end Rows
end Go.Proofs.YtieigjlbjiielaaDoor
