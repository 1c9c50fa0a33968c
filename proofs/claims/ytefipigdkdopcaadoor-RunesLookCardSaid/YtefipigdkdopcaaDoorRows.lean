/-
  NARROWER THAN 'FOR EVERY INPUT', by the rows' own cells (each row's printed sentence says how): RunesEscape: laid · RunesNumbers: laid · RunesLook: laid · RunesParts: laid.
  DERIVED. THE GIVEN ROWS OF THIS SEAT. 4 by the template 'for every input the law returns true; each argument reads behind the call as it read before'; 0 by the template 'total and deterministic' (their statements: YtefipigdkdopcaaDoorTotals.lean).
  GIVEN WITH THE SEED: the statements are not yours to turn. If you find one false, say at which input.
  Laid BY PROGRAM, IN A SANDBOX (cutbox-rows.mjs): the forced cells as the released guide's own fill.sh prints them over the translation 5a549f8ae2c3141f… (all of the seat's roots in one cut). By AI agents, Wed Nov 11 2026. No macro, syntax, notation, axiom, sorry.
-/
import Derived.Test.YtefipigdkdopcaaDoorChecked
import GoSem.PinnedTables
import GoSem.Claim
import GoSem.ClaimJoined
import GoSem.ClaimMapViews
import Derived.JoinedTies
import Derived.KernelRfl
namespace Go.Proofs.YtefipigdkdopcaaDoor
/- THE CELL 'sum', in the pinned program and in every row, IS THE sha256 OF THE DUMP (.gsa) THAT YtefipigdkdopcaaDoorProg.lean LOADS. Nothing in Lean hashes anything: it is a label: what it is worth is what the hold of that sum in a sandbox is worth. -/
noncomputable def Tryd.pinned : Pinned := { name := "ytefipigdkdopcaadoor", sum := "5a549f8ae2c3141f9935e0f4824e496c7b6ed06bda170113335959ea1bf7bdde", checked := Tryd.checked }
namespace Rows
def none {H : Type} : Left H := { results := [], args := [] }

/- WHAT THE LISTED PACKAGE-LEVEL VARIABLES READ AS WHEN THE CALL BEGINS. Each datum BY PROGRAM (the guide's laid-datum.mjs) off the statement by which the dump's own 'gosem.cut.vars' lays the variable. In a bare row this is a premise. The card (YtefipigdkdopcaaDoorCards.lean) ties it to the program's text. -/
def laid_unicode_utf8_acceptRanges {H : Type} : DataW H := .agg [.agg [.lit (.int .u8 128), .lit (.int .u8 191)], .agg [.lit (.int .u8 160), .lit (.int .u8 191)], .agg [.lit (.int .u8 128), .lit (.int .u8 159)], .agg [.lit (.int .u8 144), .lit (.int .u8 191)], .agg [.lit (.int .u8 128), .lit (.int .u8 143)], .agg [.lit (.int .u8 0), .lit (.int .u8 0)], .agg [.lit (.int .u8 0), .lit (.int .u8 0)], .agg [.lit (.int .u8 0), .lit (.int .u8 0)], .agg [.lit (.int .u8 0), .lit (.int .u8 0)], .agg [.lit (.int .u8 0), .lit (.int .u8 0)], .agg [.lit (.int .u8 0), .lit (.int .u8 0)], .agg [.lit (.int .u8 0), .lit (.int .u8 0)], .agg [.lit (.int .u8 0), .lit (.int .u8 0)], .agg [.lit (.int .u8 0), .lit (.int .u8 0)], .agg [.lit (.int .u8 0), .lit (.int .u8 0)], .agg [.lit (.int .u8 0), .lit (.int .u8 0)]]
/-- One of Go's own tables, pinned by name: the form's constant. -/
def laid_unicode_utf8_first : DataW Unit := Go.Pinned.utf8First

/-- 'wagtaillaw04.RunesEscape': WHATEVER THE INPUT: true; the input reads as it did. -/
def runesEscapeSpec : ChangeSpec := { name := "runesEscape", fn := fun _ => fun
  | [d] => { results := [.lit (.bool true)], args := [d] }
  | _ => none }
def runesEscapeRow : OpenClaim := { program := "ytefipigdkdopcaadoor", sum := "5a549f8ae2c3141f9935e0f4824e496c7b6ed06bda170113335959ea1bf7bdde", func := "wagtail/wagtaillaw04.RunesEscape", spec := "runesEscape", inPlace := ["internal/bytealg.IndexByteString", "internal/bytealg.IndexString"], unfollowed := true, recurses := true, named := ["internal/bytealg.MaxLen", "unicode/utf8.first", "unicode/utf8.acceptRanges"], apart := false, laid := [("unicode/utf8.acceptRanges", laid_unicode_utf8_acceptRanges), ("unicode/utf8.first", laid_unicode_utf8_first)] }
def RunesEscapeSaid : Prop := runesEscapeRow.holds Tryd.pinned (OpenSpec.ofChange runesEscapeSpec)

/-- ITS FALSE NEIGHBOUR: 'it returns false'. Refute it at one input. -/
def runesEscapeWrong : ChangeSpec := { name := "runesEscape", fn := fun _ => fun
  | [d] => { results := [.lit (.bool false)], args := [d] }
  | _ => none }
def RunesEscapeWrongFalsely : Prop := runesEscapeRow.holds Tryd.pinned (OpenSpec.ofChange runesEscapeWrong)

/-- 'wagtaillaw04.RunesNumbers': WHATEVER THE INPUT: true; the input reads as it did. -/
def runesNumbersSpec : ChangeSpec := { name := "runesNumbers", fn := fun _ => fun
  | [d1, d2] => { results := [.lit (.bool true)], args := [d1, d2] }
  | _ => none }
def runesNumbersRow : OpenClaim := { program := "ytefipigdkdopcaadoor", sum := "5a549f8ae2c3141f9935e0f4824e496c7b6ed06bda170113335959ea1bf7bdde", func := "wagtail/wagtaillaw04.RunesNumbers", spec := "runesNumbers", inPlace := ["internal/bytealg.IndexByteString", "internal/bytealg.IndexString"], unfollowed := true, recurses := true, named := ["internal/bytealg.MaxLen", "unicode/utf8.first", "unicode/utf8.acceptRanges"], apart := false, laid := [("unicode/utf8.acceptRanges", laid_unicode_utf8_acceptRanges), ("unicode/utf8.first", laid_unicode_utf8_first)] }
def RunesNumbersSaid : Prop := runesNumbersRow.holds Tryd.pinned (OpenSpec.ofChange runesNumbersSpec)

/-- ITS FALSE NEIGHBOUR: 'it returns false'. Refute it at one input. -/
def runesNumbersWrong : ChangeSpec := { name := "runesNumbers", fn := fun _ => fun
  | [d1, d2] => { results := [.lit (.bool false)], args := [d1, d2] }
  | _ => none }
def RunesNumbersWrongFalsely : Prop := runesNumbersRow.holds Tryd.pinned (OpenSpec.ofChange runesNumbersWrong)

/-- 'wagtaillaw04.RunesLook': WHATEVER THE INPUT: true; the input reads as it did. -/
def runesLookSpec : ChangeSpec := { name := "runesLook", fn := fun _ => fun
  | [d1, d2] => { results := [.lit (.bool true)], args := [d1, d2] }
  | _ => none }
def runesLookRow : OpenClaim := { program := "ytefipigdkdopcaadoor", sum := "5a549f8ae2c3141f9935e0f4824e496c7b6ed06bda170113335959ea1bf7bdde", func := "wagtail/wagtaillaw04.RunesLook", spec := "runesLook", inPlace := ["internal/bytealg.IndexByteString", "internal/bytealg.IndexString"], unfollowed := true, recurses := true, named := ["internal/bytealg.MaxLen", "unicode/utf8.first", "unicode/utf8.acceptRanges"], apart := false, laid := [("unicode/utf8.acceptRanges", laid_unicode_utf8_acceptRanges), ("unicode/utf8.first", laid_unicode_utf8_first)] }
def RunesLookSaid : Prop := runesLookRow.holds Tryd.pinned (OpenSpec.ofChange runesLookSpec)

/-- ITS FALSE NEIGHBOUR: 'it returns false'. Refute it at one input. -/
def runesLookWrong : ChangeSpec := { name := "runesLook", fn := fun _ => fun
  | [d1, d2] => { results := [.lit (.bool false)], args := [d1, d2] }
  | _ => none }
def RunesLookWrongFalsely : Prop := runesLookRow.holds Tryd.pinned (OpenSpec.ofChange runesLookWrong)

/-- 'wagtaillaw04.RunesParts': WHATEVER THE INPUT: true; the input reads as it did. -/
def runesPartsSpec : ChangeSpec := { name := "runesParts", fn := fun _ => fun
  | [d] => { results := [.lit (.bool true)], args := [d] }
  | _ => none }
def runesPartsRow : OpenClaim := { program := "ytefipigdkdopcaadoor", sum := "5a549f8ae2c3141f9935e0f4824e496c7b6ed06bda170113335959ea1bf7bdde", func := "wagtail/wagtaillaw04.RunesParts", spec := "runesParts", inPlace := ["internal/bytealg.IndexByteString", "internal/bytealg.IndexString"], unfollowed := true, recurses := true, named := ["internal/bytealg.MaxLen", "unicode/utf8.first", "unicode/utf8.acceptRanges"], apart := false, laid := [("unicode/utf8.acceptRanges", laid_unicode_utf8_acceptRanges), ("unicode/utf8.first", laid_unicode_utf8_first)] }
def RunesPartsSaid : Prop := runesPartsRow.holds Tryd.pinned (OpenSpec.ofChange runesPartsSpec)

/-- ITS FALSE NEIGHBOUR: 'it returns false'. Refute it at one input. -/
def runesPartsWrong : ChangeSpec := { name := "runesParts", fn := fun _ => fun
  | [d] => { results := [.lit (.bool false)], args := [d] }
  | _ => none }
def RunesPartsWrongFalsely : Prop := runesPartsRow.holds Tryd.pinned (OpenSpec.ofChange runesPartsWrong)

/- THE SECOND FORM. 'bulk': how many values and letters a reading holds, each counted each time it is reached (what is shared counts as often as it is met; a slice's spare places count too). A statement '..UptoSaid' is the law's where the arguments, and the package variables that the reading takes, are together of bulk at most 1048576: NARROWER than '..Said'. Prove '..Said' where nothing that the law and all that it calls make is longer than what came in: it says more and counts as full. Else prove '..UptoSaid'. A law counts once. -/
mutual
def uptoBulk {H : Type} : DataW H → Nat
  | .lit (.string bytes) => bytes.length + 1
  | .lit _ => 1
  | .nil => 1
  | .ptr d => uptoBulk d + 1
  | .slice elems spare => uptoBulkAll elems + uptoBulkAll spare + 1
  | .agg parts => uptoBulkAll parts + 1
  | .iface _ d => uptoBulk d + 1
  | .map entries => uptoBulkEntries entries + 1
  | .held _ => 1
def uptoBulkAll {H : Type} : List (DataW H) → Nat
  | [] => 0
  | d :: r => uptoBulk d + uptoBulkAll r
def uptoBulkEntries {H : Type} : List (Lit × DataW H) → Nat
  | [] => 0
  | x :: r => uptoBulkEntry x + uptoBulkEntries r
def uptoBulkEntry {H : Type} : Lit × DataW H → Nat
  | (.string bytes, d) => bytes.length + uptoBulk d + 1
  | (_, d) => uptoBulk d + 1
 end
def uptoSmall : (H : Type) → List (DataW H) → Bool := fun _ ds => decide (uptoBulkAll ds ≤ 1048576)
def OpenSpec.upto (s : _root_.Go.ChangeSpec) : _root_.Go.OpenSpec := { _root_.Go.OpenSpec.ofChange s with cond := some uptoSmall }

/-- 'wagtaillaw04.RunesEscape', WHERE WHAT IT READS IS OF BULK AT MOST 1048576: true; the input reads as it did. -/
def runesEscapeUptoRow : OpenClaim := { program := "ytefipigdkdopcaadoor", sum := "5a549f8ae2c3141f9935e0f4824e496c7b6ed06bda170113335959ea1bf7bdde", func := "wagtail/wagtaillaw04.RunesEscape", spec := "runesEscape", inPlace := ["internal/bytealg.IndexByteString", "internal/bytealg.IndexString"], unfollowed := true, recurses := true, named := ["internal/bytealg.MaxLen", "unicode/utf8.first", "unicode/utf8.acceptRanges"], apart := false, laid := [("unicode/utf8.acceptRanges", laid_unicode_utf8_acceptRanges), ("unicode/utf8.first", laid_unicode_utf8_first)], narrowed := true }
def RunesEscapeUptoSaid : Prop := runesEscapeUptoRow.holds Tryd.pinned (OpenSpec.upto runesEscapeSpec)

/-- 'wagtaillaw04.RunesNumbers', WHERE WHAT IT READS IS OF BULK AT MOST 1048576: true; the input reads as it did. -/
def runesNumbersUptoRow : OpenClaim := { program := "ytefipigdkdopcaadoor", sum := "5a549f8ae2c3141f9935e0f4824e496c7b6ed06bda170113335959ea1bf7bdde", func := "wagtail/wagtaillaw04.RunesNumbers", spec := "runesNumbers", inPlace := ["internal/bytealg.IndexByteString", "internal/bytealg.IndexString"], unfollowed := true, recurses := true, named := ["internal/bytealg.MaxLen", "unicode/utf8.first", "unicode/utf8.acceptRanges"], apart := false, laid := [("unicode/utf8.acceptRanges", laid_unicode_utf8_acceptRanges), ("unicode/utf8.first", laid_unicode_utf8_first)], narrowed := true }
def RunesNumbersUptoSaid : Prop := runesNumbersUptoRow.holds Tryd.pinned (OpenSpec.upto runesNumbersSpec)

/-- 'wagtaillaw04.RunesLook', WHERE WHAT IT READS IS OF BULK AT MOST 1048576: true; the input reads as it did. -/
def runesLookUptoRow : OpenClaim := { program := "ytefipigdkdopcaadoor", sum := "5a549f8ae2c3141f9935e0f4824e496c7b6ed06bda170113335959ea1bf7bdde", func := "wagtail/wagtaillaw04.RunesLook", spec := "runesLook", inPlace := ["internal/bytealg.IndexByteString", "internal/bytealg.IndexString"], unfollowed := true, recurses := true, named := ["internal/bytealg.MaxLen", "unicode/utf8.first", "unicode/utf8.acceptRanges"], apart := false, laid := [("unicode/utf8.acceptRanges", laid_unicode_utf8_acceptRanges), ("unicode/utf8.first", laid_unicode_utf8_first)], narrowed := true }
def RunesLookUptoSaid : Prop := runesLookUptoRow.holds Tryd.pinned (OpenSpec.upto runesLookSpec)

/-- 'wagtaillaw04.RunesParts', WHERE WHAT IT READS IS OF BULK AT MOST 1048576: true; the input reads as it did. -/
def runesPartsUptoRow : OpenClaim := { program := "ytefipigdkdopcaadoor", sum := "5a549f8ae2c3141f9935e0f4824e496c7b6ed06bda170113335959ea1bf7bdde", func := "wagtail/wagtaillaw04.RunesParts", spec := "runesParts", inPlace := ["internal/bytealg.IndexByteString", "internal/bytealg.IndexString"], unfollowed := true, recurses := true, named := ["internal/bytealg.MaxLen", "unicode/utf8.first", "unicode/utf8.acceptRanges"], apart := false, laid := [("unicode/utf8.acceptRanges", laid_unicode_utf8_acceptRanges), ("unicode/utf8.first", laid_unicode_utf8_first)], narrowed := true }
def RunesPartsUptoSaid : Prop := runesPartsUptoRow.holds Tryd.pinned (OpenSpec.upto runesPartsSpec)

end Rows
end Go.Proofs.YtefipigdkdopcaaDoor
