/-
  No cell of these rows narrows 'for every input' (looked for: loops, veiled, ifaces, maps, wideKeys, modest, calm, conditions, laid).
  DERIVED. THE GIVEN ROWS OF THIS SEAT. 10 by the template 'for every input the law returns true; each argument reads behind the call as it read before'; 0 by the template 'total and deterministic' (their statements: YtefipigdkdopcaaTotals.lean).
  GIVEN WITH THE SEED: the statements are not yours to turn. If you find one false, say at which input.
  Laid BY PROGRAM, IN A SANDBOX (cutbox-rows.mjs): the forced cells as the released guide's own fill.sh prints them over the translation bd14e6a9b096532e… (all of the seat's roots in one cut). By AI agents, Wed Nov 11 2026. No macro, syntax, notation, axiom, sorry.
-/
import Derived.Test.YtefipigdkdopcaaChecked
import GoSem.Claim
import GoSem.ClaimJoined
import GoSem.ClaimMapViews
import Derived.JoinedTies
import Derived.KernelRfl
namespace Go.Proofs.Ytefipigdkdopcaa
/- THE CELL 'sum', in the pinned program and in every row, IS THE sha256 OF THE DUMP (.gsa) THAT YtefipigdkdopcaaProg.lean LOADS. Nothing in Lean hashes anything: it is a label: what it is worth is what the hold of that sum in a sandbox is worth. -/
noncomputable def Try.pinned : Pinned := { name := "ytefipigdkdopcaa", sum := "bd14e6a9b096532e2e90abebed24b0fa17b6f25f055a212a30562ad2caa6e68e", checked := Try.checked }
namespace Rows
def none {H : Type} : Left H := { results := [], args := [] }

/-- 'wagtaillaw35.CmdTexts': WHATEVER THE INPUT: true; the input reads as it did. -/
def cmdTextsSpec : ChangeSpec := { name := "cmdTexts", fn := fun _ => fun
  | [d] => { results := [.lit (.bool true)], args := [d] }
  | _ => none }
def cmdTextsRow : OpenClaim := { program := "ytefipigdkdopcaa", sum := "bd14e6a9b096532e2e90abebed24b0fa17b6f25f055a212a30562ad2caa6e68e", func := "wagtail/wagtaillaw35.CmdTexts", spec := "cmdTexts", unfollowed := true, recurses := true, apart := false }
def CmdTextsSaid : Prop := cmdTextsRow.holds Try.pinned (OpenSpec.ofChange cmdTextsSpec)

/-- ITS FALSE NEIGHBOUR: 'it returns false'. Refute it at one input. -/
def cmdTextsWrong : ChangeSpec := { name := "cmdTexts", fn := fun _ => fun
  | [d] => { results := [.lit (.bool false)], args := [d] }
  | _ => none }
def CmdTextsWrongFalsely : Prop := cmdTextsRow.holds Try.pinned (OpenSpec.ofChange cmdTextsWrong)

/-- 'wagtaillaw35.CmdParses': WHATEVER THE INPUT: true; the input reads as it did. -/
def cmdParsesSpec : ChangeSpec := { name := "cmdParses", fn := fun _ => fun
  | [d] => { results := [.lit (.bool true)], args := [d] }
  | _ => none }
def cmdParsesRow : OpenClaim := { program := "ytefipigdkdopcaa", sum := "bd14e6a9b096532e2e90abebed24b0fa17b6f25f055a212a30562ad2caa6e68e", func := "wagtail/wagtaillaw35.CmdParses", spec := "cmdParses", unfollowed := true, recurses := true, apart := false }
def CmdParsesSaid : Prop := cmdParsesRow.holds Try.pinned (OpenSpec.ofChange cmdParsesSpec)

/-- ITS FALSE NEIGHBOUR: 'it returns false'. Refute it at one input. -/
def cmdParsesWrong : ChangeSpec := { name := "cmdParses", fn := fun _ => fun
  | [d] => { results := [.lit (.bool false)], args := [d] }
  | _ => none }
def CmdParsesWrongFalsely : Prop := cmdParsesRow.holds Try.pinned (OpenSpec.ofChange cmdParsesWrong)

/-- 'wagtaillaw35.CmdAll': WHATEVER THE INPUT: true; the input reads as it did. -/
def cmdAllSpec : ChangeSpec := { name := "cmdAll", fn := fun _ => fun
  | [d1, d2] => { results := [.lit (.bool true)], args := [d1, d2] }
  | _ => none }
def cmdAllRow : OpenClaim := { program := "ytefipigdkdopcaa", sum := "bd14e6a9b096532e2e90abebed24b0fa17b6f25f055a212a30562ad2caa6e68e", func := "wagtail/wagtaillaw35.CmdAll", spec := "cmdAll", unfollowed := true, recurses := true, apart := false }
def CmdAllSaid : Prop := cmdAllRow.holds Try.pinned (OpenSpec.ofChange cmdAllSpec)

/-- ITS FALSE NEIGHBOUR: 'it returns false'. Refute it at one input. -/
def cmdAllWrong : ChangeSpec := { name := "cmdAll", fn := fun _ => fun
  | [d1, d2] => { results := [.lit (.bool false)], args := [d1, d2] }
  | _ => none }
def CmdAllWrongFalsely : Prop := cmdAllRow.holds Try.pinned (OpenSpec.ofChange cmdAllWrong)

/-- 'wagtaillaw36.ReplyParses': WHATEVER THE INPUT: true; the input reads as it did. -/
def replyParsesSpec : ChangeSpec := { name := "replyParses", fn := fun _ => fun
  | [d] => { results := [.lit (.bool true)], args := [d] }
  | _ => none }
def replyParsesRow : OpenClaim := { program := "ytefipigdkdopcaa", sum := "bd14e6a9b096532e2e90abebed24b0fa17b6f25f055a212a30562ad2caa6e68e", func := "wagtail/wagtaillaw36.ReplyParses", spec := "replyParses", inPlace := ["internal/abi.NoEscape", "internal/bytealg.MakeNoZero", "internal/bytealg.IndexByteString"], unfollowed := true, recurses := true, apart := false }
def ReplyParsesSaid : Prop := replyParsesRow.holds Try.pinned (OpenSpec.ofChange replyParsesSpec)

/-- ITS FALSE NEIGHBOUR: 'it returns false'. Refute it at one input. -/
def replyParsesWrong : ChangeSpec := { name := "replyParses", fn := fun _ => fun
  | [d] => { results := [.lit (.bool false)], args := [d] }
  | _ => none }
def ReplyParsesWrongFalsely : Prop := replyParsesRow.holds Try.pinned (OpenSpec.ofChange replyParsesWrong)

/-- 'wagtaillaw36.ReplyHex': WHATEVER THE INPUT: true; the input reads as it did. -/
def replyHexSpec : ChangeSpec := { name := "replyHex", fn := fun _ => fun
  | [d1, d2] => { results := [.lit (.bool true)], args := [d1, d2] }
  | _ => none }
def replyHexRow : OpenClaim := { program := "ytefipigdkdopcaa", sum := "bd14e6a9b096532e2e90abebed24b0fa17b6f25f055a212a30562ad2caa6e68e", func := "wagtail/wagtaillaw36.ReplyHex", spec := "replyHex", inPlace := ["internal/abi.NoEscape", "internal/bytealg.MakeNoZero", "internal/bytealg.IndexByteString"], unfollowed := true, recurses := true, apart := false }
def ReplyHexSaid : Prop := replyHexRow.holds Try.pinned (OpenSpec.ofChange replyHexSpec)

/-- ITS FALSE NEIGHBOUR: 'it returns false'. Refute it at one input. -/
def replyHexWrong : ChangeSpec := { name := "replyHex", fn := fun _ => fun
  | [d1, d2] => { results := [.lit (.bool false)], args := [d1, d2] }
  | _ => none }
def ReplyHexWrongFalsely : Prop := replyHexRow.holds Try.pinned (OpenSpec.ofChange replyHexWrong)

/-- 'wagtaillaw36.ReplyLogs': WHATEVER THE INPUT: true; the input reads as it did. -/
def replyLogsSpec : ChangeSpec := { name := "replyLogs", fn := fun _ => fun
  | [d] => { results := [.lit (.bool true)], args := [d] }
  | _ => none }
def replyLogsRow : OpenClaim := { program := "ytefipigdkdopcaa", sum := "bd14e6a9b096532e2e90abebed24b0fa17b6f25f055a212a30562ad2caa6e68e", func := "wagtail/wagtaillaw36.ReplyLogs", spec := "replyLogs", inPlace := ["internal/abi.NoEscape", "internal/bytealg.MakeNoZero", "internal/bytealg.IndexByteString"], unfollowed := true, recurses := true, apart := false }
def ReplyLogsSaid : Prop := replyLogsRow.holds Try.pinned (OpenSpec.ofChange replyLogsSpec)

/-- ITS FALSE NEIGHBOUR: 'it returns false'. Refute it at one input. -/
def replyLogsWrong : ChangeSpec := { name := "replyLogs", fn := fun _ => fun
  | [d] => { results := [.lit (.bool false)], args := [d] }
  | _ => none }
def ReplyLogsWrongFalsely : Prop := replyLogsRow.holds Try.pinned (OpenSpec.ofChange replyLogsWrong)

/-- 'wagtaillaw36.ReplyTexts': WHATEVER THE INPUT: true; the input reads as it did. -/
def replyTextsSpec : ChangeSpec := { name := "replyTexts", fn := fun _ => fun
  | [d1, d2] => { results := [.lit (.bool true)], args := [d1, d2] }
  | _ => none }
def replyTextsRow : OpenClaim := { program := "ytefipigdkdopcaa", sum := "bd14e6a9b096532e2e90abebed24b0fa17b6f25f055a212a30562ad2caa6e68e", func := "wagtail/wagtaillaw36.ReplyTexts", spec := "replyTexts", inPlace := ["internal/abi.NoEscape", "internal/bytealg.MakeNoZero", "internal/bytealg.IndexByteString"], unfollowed := true, recurses := true, apart := false }
def ReplyTextsSaid : Prop := replyTextsRow.holds Try.pinned (OpenSpec.ofChange replyTextsSpec)

/-- ITS FALSE NEIGHBOUR: 'it returns false'. Refute it at one input. -/
def replyTextsWrong : ChangeSpec := { name := "replyTexts", fn := fun _ => fun
  | [d1, d2] => { results := [.lit (.bool false)], args := [d1, d2] }
  | _ => none }
def ReplyTextsWrongFalsely : Prop := replyTextsRow.holds Try.pinned (OpenSpec.ofChange replyTextsWrong)

/-- 'wagtaillaw41.TapeParses': WHATEVER THE INPUT: true; the input reads as it did. -/
def tapeParsesSpec : ChangeSpec := { name := "tapeParses", fn := fun _ => fun
  | [d] => { results := [.lit (.bool true)], args := [d] }
  | _ => none }
def tapeParsesRow : OpenClaim := { program := "ytefipigdkdopcaa", sum := "bd14e6a9b096532e2e90abebed24b0fa17b6f25f055a212a30562ad2caa6e68e", func := "wagtail/wagtaillaw41.TapeParses", spec := "tapeParses", inPlace := ["internal/bytealg.IndexByteString", "internal/abi.NoEscape", "internal/bytealg.MakeNoZero"], unfollowed := true, recurses := true, apart := false }
def TapeParsesSaid : Prop := tapeParsesRow.holds Try.pinned (OpenSpec.ofChange tapeParsesSpec)

/-- ITS FALSE NEIGHBOUR: 'it returns false'. Refute it at one input. -/
def tapeParsesWrong : ChangeSpec := { name := "tapeParses", fn := fun _ => fun
  | [d] => { results := [.lit (.bool false)], args := [d] }
  | _ => none }
def TapeParsesWrongFalsely : Prop := tapeParsesRow.holds Try.pinned (OpenSpec.ofChange tapeParsesWrong)

/-- 'wagtaillaw41.TapeSteps': WHATEVER THE INPUT: true; the input reads as it did. -/
def tapeStepsSpec : ChangeSpec := { name := "tapeSteps", fn := fun _ => fun
  | [d1, d2] => { results := [.lit (.bool true)], args := [d1, d2] }
  | _ => none }
def tapeStepsRow : OpenClaim := { program := "ytefipigdkdopcaa", sum := "bd14e6a9b096532e2e90abebed24b0fa17b6f25f055a212a30562ad2caa6e68e", func := "wagtail/wagtaillaw41.TapeSteps", spec := "tapeSteps", inPlace := ["internal/bytealg.IndexByteString", "internal/abi.NoEscape", "internal/bytealg.MakeNoZero"], unfollowed := true, recurses := true, apart := false }
def TapeStepsSaid : Prop := tapeStepsRow.holds Try.pinned (OpenSpec.ofChange tapeStepsSpec)

/-- ITS FALSE NEIGHBOUR: 'it returns false'. Refute it at one input. -/
def tapeStepsWrong : ChangeSpec := { name := "tapeSteps", fn := fun _ => fun
  | [d1, d2] => { results := [.lit (.bool false)], args := [d1, d2] }
  | _ => none }
def TapeStepsWrongFalsely : Prop := tapeStepsRow.holds Try.pinned (OpenSpec.ofChange tapeStepsWrong)

/-- 'wagtaillaw41.TapeTexts': WHATEVER THE INPUT: true; the input reads as it did. -/
def tapeTextsSpec : ChangeSpec := { name := "tapeTexts", fn := fun _ => fun
  | [d1, d2] => { results := [.lit (.bool true)], args := [d1, d2] }
  | _ => none }
def tapeTextsRow : OpenClaim := { program := "ytefipigdkdopcaa", sum := "bd14e6a9b096532e2e90abebed24b0fa17b6f25f055a212a30562ad2caa6e68e", func := "wagtail/wagtaillaw41.TapeTexts", spec := "tapeTexts", inPlace := ["internal/bytealg.IndexByteString", "internal/abi.NoEscape", "internal/bytealg.MakeNoZero"], unfollowed := true, recurses := true, apart := false }
def TapeTextsSaid : Prop := tapeTextsRow.holds Try.pinned (OpenSpec.ofChange tapeTextsSpec)

/-- ITS FALSE NEIGHBOUR: 'it returns false'. Refute it at one input. -/
def tapeTextsWrong : ChangeSpec := { name := "tapeTexts", fn := fun _ => fun
  | [d1, d2] => { results := [.lit (.bool false)], args := [d1, d2] }
  | _ => none }
def TapeTextsWrongFalsely : Prop := tapeTextsRow.holds Try.pinned (OpenSpec.ofChange tapeTextsWrong)

/- THE SECOND FORM. 'bulk': how many values and letters a reading holds, each counted each time it is reached (what is shared counts as often as it is met; a slice's spare places count too). A statement '..UptoSaid' is the law's where the arguments, and the package variables that the reading takes, are together of bulk at most 1048576: NARROWER than '..Said'. Prove '..Said' where nothing that the law and all that it calls make is longer than what came in: it says more and counts as full. Else prove '..UptoSaid'. A law counts once. -/
mutual
def uptoBulk {H : Type} : DataW H → Nat
  | .lit (.string bytes) => bytes.length + 1
  | .lit _ => 1
  | .nil => 1
  | .ptr d => uptoBulk d + 1
  | .slice elems spare => uptoBulkAll elems + uptoBulkAll spare + 1
  | .agg parts => uptoBulkAll parts + 1
  | .iface _ d => uptoBulk d + 1
  | .map entries => uptoBulkEntries entries + 1
  | .held _ => 1
def uptoBulkAll {H : Type} : List (DataW H) → Nat
  | [] => 0
  | d :: r => uptoBulk d + uptoBulkAll r
def uptoBulkEntries {H : Type} : List (Lit × DataW H) → Nat
  | [] => 0
  | x :: r => uptoBulkEntry x + uptoBulkEntries r
def uptoBulkEntry {H : Type} : Lit × DataW H → Nat
  | (.string bytes, d) => bytes.length + uptoBulk d + 1
  | (_, d) => uptoBulk d + 1
 end
def uptoSmall : (H : Type) → List (DataW H) → Bool := fun _ ds => decide (uptoBulkAll ds ≤ 1048576)
def OpenSpec.upto (s : _root_.Go.ChangeSpec) : _root_.Go.OpenSpec := { _root_.Go.OpenSpec.ofChange s with cond := some uptoSmall }

/-- 'wagtaillaw35.CmdTexts', WHERE WHAT IT READS IS OF BULK AT MOST 1048576: true; the input reads as it did. -/
def cmdTextsUptoRow : OpenClaim := { program := "ytefipigdkdopcaa", sum := "bd14e6a9b096532e2e90abebed24b0fa17b6f25f055a212a30562ad2caa6e68e", func := "wagtail/wagtaillaw35.CmdTexts", spec := "cmdTexts", unfollowed := true, recurses := true, apart := false, narrowed := true }
def CmdTextsUptoSaid : Prop := cmdTextsUptoRow.holds Try.pinned (OpenSpec.upto cmdTextsSpec)

/-- 'wagtaillaw35.CmdParses', WHERE WHAT IT READS IS OF BULK AT MOST 1048576: true; the input reads as it did. -/
def cmdParsesUptoRow : OpenClaim := { program := "ytefipigdkdopcaa", sum := "bd14e6a9b096532e2e90abebed24b0fa17b6f25f055a212a30562ad2caa6e68e", func := "wagtail/wagtaillaw35.CmdParses", spec := "cmdParses", unfollowed := true, recurses := true, apart := false, narrowed := true }
def CmdParsesUptoSaid : Prop := cmdParsesUptoRow.holds Try.pinned (OpenSpec.upto cmdParsesSpec)

/-- 'wagtaillaw35.CmdAll', WHERE WHAT IT READS IS OF BULK AT MOST 1048576: true; the input reads as it did. -/
def cmdAllUptoRow : OpenClaim := { program := "ytefipigdkdopcaa", sum := "bd14e6a9b096532e2e90abebed24b0fa17b6f25f055a212a30562ad2caa6e68e", func := "wagtail/wagtaillaw35.CmdAll", spec := "cmdAll", unfollowed := true, recurses := true, apart := false, narrowed := true }
def CmdAllUptoSaid : Prop := cmdAllUptoRow.holds Try.pinned (OpenSpec.upto cmdAllSpec)

/-- 'wagtaillaw36.ReplyParses', WHERE WHAT IT READS IS OF BULK AT MOST 1048576: true; the input reads as it did. -/
def replyParsesUptoRow : OpenClaim := { program := "ytefipigdkdopcaa", sum := "bd14e6a9b096532e2e90abebed24b0fa17b6f25f055a212a30562ad2caa6e68e", func := "wagtail/wagtaillaw36.ReplyParses", spec := "replyParses", inPlace := ["internal/abi.NoEscape", "internal/bytealg.MakeNoZero", "internal/bytealg.IndexByteString"], unfollowed := true, recurses := true, apart := false, narrowed := true }
def ReplyParsesUptoSaid : Prop := replyParsesUptoRow.holds Try.pinned (OpenSpec.upto replyParsesSpec)

/-- 'wagtaillaw36.ReplyHex', WHERE WHAT IT READS IS OF BULK AT MOST 1048576: true; the input reads as it did. -/
def replyHexUptoRow : OpenClaim := { program := "ytefipigdkdopcaa", sum := "bd14e6a9b096532e2e90abebed24b0fa17b6f25f055a212a30562ad2caa6e68e", func := "wagtail/wagtaillaw36.ReplyHex", spec := "replyHex", inPlace := ["internal/abi.NoEscape", "internal/bytealg.MakeNoZero", "internal/bytealg.IndexByteString"], unfollowed := true, recurses := true, apart := false, narrowed := true }
def ReplyHexUptoSaid : Prop := replyHexUptoRow.holds Try.pinned (OpenSpec.upto replyHexSpec)

/-- 'wagtaillaw36.ReplyLogs', WHERE WHAT IT READS IS OF BULK AT MOST 1048576: true; the input reads as it did. -/
def replyLogsUptoRow : OpenClaim := { program := "ytefipigdkdopcaa", sum := "bd14e6a9b096532e2e90abebed24b0fa17b6f25f055a212a30562ad2caa6e68e", func := "wagtail/wagtaillaw36.ReplyLogs", spec := "replyLogs", inPlace := ["internal/abi.NoEscape", "internal/bytealg.MakeNoZero", "internal/bytealg.IndexByteString"], unfollowed := true, recurses := true, apart := false, narrowed := true }
def ReplyLogsUptoSaid : Prop := replyLogsUptoRow.holds Try.pinned (OpenSpec.upto replyLogsSpec)

/-- 'wagtaillaw36.ReplyTexts', WHERE WHAT IT READS IS OF BULK AT MOST 1048576: true; the input reads as it did. -/
def replyTextsUptoRow : OpenClaim := { program := "ytefipigdkdopcaa", sum := "bd14e6a9b096532e2e90abebed24b0fa17b6f25f055a212a30562ad2caa6e68e", func := "wagtail/wagtaillaw36.ReplyTexts", spec := "replyTexts", inPlace := ["internal/abi.NoEscape", "internal/bytealg.MakeNoZero", "internal/bytealg.IndexByteString"], unfollowed := true, recurses := true, apart := false, narrowed := true }
def ReplyTextsUptoSaid : Prop := replyTextsUptoRow.holds Try.pinned (OpenSpec.upto replyTextsSpec)

/-- 'wagtaillaw41.TapeParses', WHERE WHAT IT READS IS OF BULK AT MOST 1048576: true; the input reads as it did. -/
def tapeParsesUptoRow : OpenClaim := { program := "ytefipigdkdopcaa", sum := "bd14e6a9b096532e2e90abebed24b0fa17b6f25f055a212a30562ad2caa6e68e", func := "wagtail/wagtaillaw41.TapeParses", spec := "tapeParses", inPlace := ["internal/bytealg.IndexByteString", "internal/abi.NoEscape", "internal/bytealg.MakeNoZero"], unfollowed := true, recurses := true, apart := false, narrowed := true }
def TapeParsesUptoSaid : Prop := tapeParsesUptoRow.holds Try.pinned (OpenSpec.upto tapeParsesSpec)

/-- 'wagtaillaw41.TapeSteps', WHERE WHAT IT READS IS OF BULK AT MOST 1048576: true; the input reads as it did. -/
def tapeStepsUptoRow : OpenClaim := { program := "ytefipigdkdopcaa", sum := "bd14e6a9b096532e2e90abebed24b0fa17b6f25f055a212a30562ad2caa6e68e", func := "wagtail/wagtaillaw41.TapeSteps", spec := "tapeSteps", inPlace := ["internal/bytealg.IndexByteString", "internal/abi.NoEscape", "internal/bytealg.MakeNoZero"], unfollowed := true, recurses := true, apart := false, narrowed := true }
def TapeStepsUptoSaid : Prop := tapeStepsUptoRow.holds Try.pinned (OpenSpec.upto tapeStepsSpec)

/-- 'wagtaillaw41.TapeTexts', WHERE WHAT IT READS IS OF BULK AT MOST 1048576: true; the input reads as it did. -/
def tapeTextsUptoRow : OpenClaim := { program := "ytefipigdkdopcaa", sum := "bd14e6a9b096532e2e90abebed24b0fa17b6f25f055a212a30562ad2caa6e68e", func := "wagtail/wagtaillaw41.TapeTexts", spec := "tapeTexts", inPlace := ["internal/bytealg.IndexByteString", "internal/abi.NoEscape", "internal/bytealg.MakeNoZero"], unfollowed := true, recurses := true, apart := false, narrowed := true }
def TapeTextsUptoSaid : Prop := tapeTextsUptoRow.holds Try.pinned (OpenSpec.upto tapeTextsSpec)

end Rows
end Go.Proofs.Ytefipigdkdopcaa
