/-
  DERIVED. GIVEN WITH THE SEED: THE CARDS: each row of YtefipigdkdopcaaDoorRows.lean that lists a variable, with what it lists TIED to the program's text (the seventh form; the later family's looks); each row that meets fmt, with fmt's text TOLD by the authors' own Lean function (tested against real Go, not proved from fmt's source: count such statements apart). THE CARD IS WHAT COUNTS. Prove the row's statement (the work); the ties are given (YtefipigdkdopcaaDoorTie.lean); close each card by the builder's one call (the guide's Derived/Test/ToyasCard.lean, 'card_holds'). Laid BY PROGRAM, IN A SANDBOX (cutbox-door.mjs). By AI agents, Wed Nov 11 2026. No macro, syntax, notation, axiom, sorry.
-/
import Derived.Test.YtefipigdkdopcaaDoorRows
import GoSem.ClaimSeven
namespace Go.Proofs.YtefipigdkdopcaaDoor
namespace Rows

/-- THE TIED CARD OF 'wagtaillaw04.RunesEscape'. -/
def runesEscapeCard : Claim7 := { stood := { row := runesEscapeRow, standIns := [], harness := (true, "f5f1edf5e92b389996b551268210b4ba860049cb7d61cf77062e1cbbe9e5f6d9"), looks := false }, kinds := [], alts := [], laidByText := true, laidKinds := [.data, .pinned], laidTests := true, laidLooks := .later }
def RunesEscapeCardSaid : Prop := Claim7.holds Tryd.pinned (.plain (OpenSpec.ofChange runesEscapeSpec)) runesEscapeCard

/-- THE TIED CARD OF 'wagtaillaw04.RunesNumbers'. -/
def runesNumbersCard : Claim7 := { stood := { row := runesNumbersRow, standIns := [], harness := (true, "f5f1edf5e92b389996b551268210b4ba860049cb7d61cf77062e1cbbe9e5f6d9"), looks := false }, kinds := [], alts := [], laidByText := true, laidKinds := [.data, .pinned], laidTests := true, laidLooks := .later }
def RunesNumbersCardSaid : Prop := Claim7.holds Tryd.pinned (.plain (OpenSpec.ofChange runesNumbersSpec)) runesNumbersCard

/-- THE TIED CARD OF 'wagtaillaw04.RunesLook'. -/
def runesLookCard : Claim7 := { stood := { row := runesLookRow, standIns := [], harness := (true, "f5f1edf5e92b389996b551268210b4ba860049cb7d61cf77062e1cbbe9e5f6d9"), looks := false }, kinds := [], alts := [], laidByText := true, laidKinds := [.data, .pinned], laidTests := true, laidLooks := .later }
def RunesLookCardSaid : Prop := Claim7.holds Tryd.pinned (.plain (OpenSpec.ofChange runesLookSpec)) runesLookCard

/-- THE TIED CARD OF 'wagtaillaw04.RunesParts'. -/
def runesPartsCard : Claim7 := { stood := { row := runesPartsRow, standIns := [], harness := (true, "f5f1edf5e92b389996b551268210b4ba860049cb7d61cf77062e1cbbe9e5f6d9"), looks := false }, kinds := [], alts := [], laidByText := true, laidKinds := [.data, .pinned], laidTests := true, laidLooks := .later }
def RunesPartsCardSaid : Prop := Claim7.holds Tryd.pinned (.plain (OpenSpec.ofChange runesPartsSpec)) runesPartsCard

/-- THE SECOND FORM's CARD OF 'wagtaillaw04.RunesEscape'. -/
def runesEscapeUptoCard : Claim7 := { stood := { row := runesEscapeUptoRow, standIns := [], harness := (true, "f5f1edf5e92b389996b551268210b4ba860049cb7d61cf77062e1cbbe9e5f6d9"), looks := false }, kinds := [], alts := [], laidByText := true, laidKinds := [.data, .pinned], laidTests := true, laidLooks := .later }
def RunesEscapeUptoCardSaid : Prop := Claim7.holds Tryd.pinned (.plain (OpenSpec.upto runesEscapeSpec)) runesEscapeUptoCard

/-- THE SECOND FORM's CARD OF 'wagtaillaw04.RunesNumbers'. -/
def runesNumbersUptoCard : Claim7 := { stood := { row := runesNumbersUptoRow, standIns := [], harness := (true, "f5f1edf5e92b389996b551268210b4ba860049cb7d61cf77062e1cbbe9e5f6d9"), looks := false }, kinds := [], alts := [], laidByText := true, laidKinds := [.data, .pinned], laidTests := true, laidLooks := .later }
def RunesNumbersUptoCardSaid : Prop := Claim7.holds Tryd.pinned (.plain (OpenSpec.upto runesNumbersSpec)) runesNumbersUptoCard

/-- THE SECOND FORM's CARD OF 'wagtaillaw04.RunesLook'. -/
def runesLookUptoCard : Claim7 := { stood := { row := runesLookUptoRow, standIns := [], harness := (true, "f5f1edf5e92b389996b551268210b4ba860049cb7d61cf77062e1cbbe9e5f6d9"), looks := false }, kinds := [], alts := [], laidByText := true, laidKinds := [.data, .pinned], laidTests := true, laidLooks := .later }
def RunesLookUptoCardSaid : Prop := Claim7.holds Tryd.pinned (.plain (OpenSpec.upto runesLookSpec)) runesLookUptoCard

/-- THE SECOND FORM's CARD OF 'wagtaillaw04.RunesParts'. -/
def runesPartsUptoCard : Claim7 := { stood := { row := runesPartsUptoRow, standIns := [], harness := (true, "f5f1edf5e92b389996b551268210b4ba860049cb7d61cf77062e1cbbe9e5f6d9"), looks := false }, kinds := [], alts := [], laidByText := true, laidKinds := [.data, .pinned], laidTests := true, laidLooks := .later }
def RunesPartsUptoCardSaid : Prop := Claim7.holds Tryd.pinned (.plain (OpenSpec.upto runesPartsSpec)) runesPartsUptoCard
end Rows
end Go.Proofs.YtefipigdkdopcaaDoor
