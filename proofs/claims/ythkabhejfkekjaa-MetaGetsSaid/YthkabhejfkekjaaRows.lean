/-
  No cell of these rows narrows 'for every input' (looked for: loops, veiled, ifaces, maps, wideKeys, modest, calm, conditions, laid).
  DERIVED. THE GIVEN ROWS OF THIS SEAT. 16 by the template 'for every input the law returns true; each argument reads behind the call as it read before'; 0 by the template 'total and deterministic' (their statements: YthkabhejfkekjaaTotals.lean).
  GIVEN WITH THE SEED: the statements are not yours to turn. If you find one false, say at which input.
  Laid BY PROGRAM, IN A SANDBOX (cutbox-rows.mjs): the forced cells as the released guide's own fill.sh prints them over the translation f799a4f04ccd9884… (all of the seat's roots in one cut). By AI agents, Wed Nov 11 2026. No macro, syntax, notation, axiom, sorry.
-/
import Derived.Test.YthkabhejfkekjaaChecked
import GoSem.Claim
import GoSem.ClaimJoined
import GoSem.ClaimMapViews
import Derived.JoinedTies
import Derived.KernelRfl
namespace Go.Proofs.Ythkabhejfkekjaa
/- THE CELL 'sum', in the pinned program and in every row, IS THE sha256 OF THE DUMP (.gsa) THAT YthkabhejfkekjaaProg.lean LOADS. Nothing in Lean hashes anything: it is a label: what it is worth is what the hold of that sum in a sandbox is worth. -/
noncomputable def Try.pinned : Pinned := { name := "ythkabhejfkekjaa", sum := "f799a4f04ccd9884dd0bb8bc17a6a3a113f6b4a106218ad02801641a4fe63694", checked := Try.checked }
namespace Rows
def none {H : Type} : Left H := { results := [], args := [] }

/-- 'wagtaillaw03.CrcSums': WHATEVER THE INPUT: true; the input reads as it did. -/
def crcSumsSpec : ChangeSpec := { name := "crcSums", fn := fun _ => fun
  | [d1, d2] => { results := [.lit (.bool true)], args := [d1, d2] }
  | _ => none }
def crcSumsRow : OpenClaim := { program := "ythkabhejfkekjaa", sum := "f799a4f04ccd9884dd0bb8bc17a6a3a113f6b4a106218ad02801641a4fe63694", func := "wagtail/wagtaillaw03.CrcSums", spec := "crcSums", unfollowed := true, recurses := true, apart := false }
def CrcSumsSaid : Prop := crcSumsRow.holds Try.pinned (OpenSpec.ofChange crcSumsSpec)

/-- ITS FALSE NEIGHBOUR: 'it returns false'. Refute it at one input. -/
def crcSumsWrong : ChangeSpec := { name := "crcSums", fn := fun _ => fun
  | [d1, d2] => { results := [.lit (.bool false)], args := [d1, d2] }
  | _ => none }
def CrcSumsWrongFalsely : Prop := crcSumsRow.holds Try.pinned (OpenSpec.ofChange crcSumsWrong)

/-- 'wagtaillaw03.CrcGoes': WHATEVER THE INPUT: true; the input reads as it did. -/
def crcGoesSpec : ChangeSpec := { name := "crcGoes", fn := fun _ => fun
  | [d1, d2] => { results := [.lit (.bool true)], args := [d1, d2] }
  | _ => none }
def crcGoesRow : OpenClaim := { program := "ythkabhejfkekjaa", sum := "f799a4f04ccd9884dd0bb8bc17a6a3a113f6b4a106218ad02801641a4fe63694", func := "wagtail/wagtaillaw03.CrcGoes", spec := "crcGoes", unfollowed := true, recurses := true, apart := false }
def CrcGoesSaid : Prop := crcGoesRow.holds Try.pinned (OpenSpec.ofChange crcGoesSpec)

/-- ITS FALSE NEIGHBOUR: 'it returns false'. Refute it at one input. -/
def crcGoesWrong : ChangeSpec := { name := "crcGoes", fn := fun _ => fun
  | [d1, d2] => { results := [.lit (.bool false)], args := [d1, d2] }
  | _ => none }
def CrcGoesWrongFalsely : Prop := crcGoesRow.holds Try.pinned (OpenSpec.ofChange crcGoesWrong)

/-- 'wagtaillaw03.CrcTurned': WHATEVER THE INPUT: true; the input reads as it did. -/
def crcTurnedSpec : ChangeSpec := { name := "crcTurned", fn := fun _ => fun
  | [d1, d2] => { results := [.lit (.bool true)], args := [d1, d2] }
  | _ => none }
def crcTurnedRow : OpenClaim := { program := "ythkabhejfkekjaa", sum := "f799a4f04ccd9884dd0bb8bc17a6a3a113f6b4a106218ad02801641a4fe63694", func := "wagtail/wagtaillaw03.CrcTurned", spec := "crcTurned", unfollowed := true, recurses := true, apart := false }
def CrcTurnedSaid : Prop := crcTurnedRow.holds Try.pinned (OpenSpec.ofChange crcTurnedSpec)

/-- ITS FALSE NEIGHBOUR: 'it returns false'. Refute it at one input. -/
def crcTurnedWrong : ChangeSpec := { name := "crcTurned", fn := fun _ => fun
  | [d1, d2] => { results := [.lit (.bool false)], args := [d1, d2] }
  | _ => none }
def CrcTurnedWrongFalsely : Prop := crcTurnedRow.holds Try.pinned (OpenSpec.ofChange crcTurnedWrong)

/-- 'wagtaillaw01.BeLays': WHATEVER THE INPUT: true; the input reads as it did. -/
def beLaysSpec : ChangeSpec := { name := "beLays", fn := fun _ => fun
  | [d] => { results := [.lit (.bool true)], args := [d] }
  | _ => none }
def beLaysRow : OpenClaim := { program := "ythkabhejfkekjaa", sum := "f799a4f04ccd9884dd0bb8bc17a6a3a113f6b4a106218ad02801641a4fe63694", func := "wagtail/wagtaillaw01.BeLays", spec := "beLays", unfollowed := true, recurses := true, apart := false }
def BeLaysSaid : Prop := beLaysRow.holds Try.pinned (OpenSpec.ofChange beLaysSpec)

/-- ITS FALSE NEIGHBOUR: 'it returns false'. Refute it at one input. -/
def beLaysWrong : ChangeSpec := { name := "beLays", fn := fun _ => fun
  | [d] => { results := [.lit (.bool false)], args := [d] }
  | _ => none }
def BeLaysWrongFalsely : Prop := beLaysRow.holds Try.pinned (OpenSpec.ofChange beLaysWrong)

/-- 'wagtaillaw01.BeRows': WHATEVER THE INPUT: true; the input reads as it did. -/
def beRowsSpec : ChangeSpec := { name := "beRows", fn := fun _ => fun
  | [d] => { results := [.lit (.bool true)], args := [d] }
  | _ => none }
def beRowsRow : OpenClaim := { program := "ythkabhejfkekjaa", sum := "f799a4f04ccd9884dd0bb8bc17a6a3a113f6b4a106218ad02801641a4fe63694", func := "wagtail/wagtaillaw01.BeRows", spec := "beRows", unfollowed := true, recurses := true, apart := false }
def BeRowsSaid : Prop := beRowsRow.holds Try.pinned (OpenSpec.ofChange beRowsSpec)

/-- ITS FALSE NEIGHBOUR: 'it returns false'. Refute it at one input. -/
def beRowsWrong : ChangeSpec := { name := "beRows", fn := fun _ => fun
  | [d] => { results := [.lit (.bool false)], args := [d] }
  | _ => none }
def BeRowsWrongFalsely : Prop := beRowsRow.holds Try.pinned (OpenSpec.ofChange beRowsWrong)

/-- 'wagtaillaw01.BeReads': WHATEVER THE INPUT: true; the input reads as it did. -/
def beReadsSpec : ChangeSpec := { name := "beReads", fn := fun _ => fun
  | [d1, d2] => { results := [.lit (.bool true)], args := [d1, d2] }
  | _ => none }
def beReadsRow : OpenClaim := { program := "ythkabhejfkekjaa", sum := "f799a4f04ccd9884dd0bb8bc17a6a3a113f6b4a106218ad02801641a4fe63694", func := "wagtail/wagtaillaw01.BeReads", spec := "beReads", unfollowed := true, recurses := true, apart := false }
def BeReadsSaid : Prop := beReadsRow.holds Try.pinned (OpenSpec.ofChange beReadsSpec)

/-- ITS FALSE NEIGHBOUR: 'it returns false'. Refute it at one input. -/
def beReadsWrong : ChangeSpec := { name := "beReads", fn := fun _ => fun
  | [d1, d2] => { results := [.lit (.bool false)], args := [d1, d2] }
  | _ => none }
def BeReadsWrongFalsely : Prop := beReadsRow.holds Try.pinned (OpenSpec.ofChange beReadsWrong)

/-- 'wagtaillaw05.HeadPuts': WHATEVER THE INPUT: true; the input reads as it did. -/
def headPutsSpec : ChangeSpec := { name := "headPuts", fn := fun _ => fun
  | [d1, d2, d3] => { results := [.lit (.bool true)], args := [d1, d2, d3] }
  | _ => none }
def headPutsRow : OpenClaim := { program := "ythkabhejfkekjaa", sum := "f799a4f04ccd9884dd0bb8bc17a6a3a113f6b4a106218ad02801641a4fe63694", func := "wagtail/wagtaillaw05.HeadPuts", spec := "headPuts", unfollowed := true, recurses := true, apart := false }
def HeadPutsSaid : Prop := headPutsRow.holds Try.pinned (OpenSpec.ofChange headPutsSpec)

/-- ITS FALSE NEIGHBOUR: 'it returns false'. Refute it at one input. -/
def headPutsWrong : ChangeSpec := { name := "headPuts", fn := fun _ => fun
  | [d1, d2, d3] => { results := [.lit (.bool false)], args := [d1, d2, d3] }
  | _ => none }
def HeadPutsWrongFalsely : Prop := headPutsRow.holds Try.pinned (OpenSpec.ofChange headPutsWrong)

/-- 'wagtaillaw05.HeadGets': WHATEVER THE INPUT: true; the input reads as it did. -/
def headGetsSpec : ChangeSpec := { name := "headGets", fn := fun _ => fun
  | [d] => { results := [.lit (.bool true)], args := [d] }
  | _ => none }
def headGetsRow : OpenClaim := { program := "ythkabhejfkekjaa", sum := "f799a4f04ccd9884dd0bb8bc17a6a3a113f6b4a106218ad02801641a4fe63694", func := "wagtail/wagtaillaw05.HeadGets", spec := "headGets", unfollowed := true, recurses := true, apart := false }
def HeadGetsSaid : Prop := headGetsRow.holds Try.pinned (OpenSpec.ofChange headGetsSpec)

/-- ITS FALSE NEIGHBOUR: 'it returns false'. Refute it at one input. -/
def headGetsWrong : ChangeSpec := { name := "headGets", fn := fun _ => fun
  | [d] => { results := [.lit (.bool false)], args := [d] }
  | _ => none }
def HeadGetsWrongFalsely : Prop := headGetsRow.holds Try.pinned (OpenSpec.ofChange headGetsWrong)

/-- 'wagtaillaw05.HeadBegins': WHATEVER THE INPUT: true; the input reads as it did. -/
def headBeginsSpec : ChangeSpec := { name := "headBegins", fn := fun _ => fun
  | [d1, d2] => { results := [.lit (.bool true)], args := [d1, d2] }
  | _ => none }
def headBeginsRow : OpenClaim := { program := "ythkabhejfkekjaa", sum := "f799a4f04ccd9884dd0bb8bc17a6a3a113f6b4a106218ad02801641a4fe63694", func := "wagtail/wagtaillaw05.HeadBegins", spec := "headBegins", unfollowed := true, recurses := true, apart := false }
def HeadBeginsSaid : Prop := headBeginsRow.holds Try.pinned (OpenSpec.ofChange headBeginsSpec)

/-- ITS FALSE NEIGHBOUR: 'it returns false'. Refute it at one input. -/
def headBeginsWrong : ChangeSpec := { name := "headBegins", fn := fun _ => fun
  | [d1, d2] => { results := [.lit (.bool false)], args := [d1, d2] }
  | _ => none }
def HeadBeginsWrongFalsely : Prop := headBeginsRow.holds Try.pinned (OpenSpec.ofChange headBeginsWrong)

/-- 'wagtaillaw32.FramePuts': WHATEVER THE INPUT: true; the input reads as it did. -/
def framePutsSpec : ChangeSpec := { name := "framePuts", fn := fun _ => fun
  | [d1, d2] => { results := [.lit (.bool true)], args := [d1, d2] }
  | _ => none }
def framePutsRow : OpenClaim := { program := "ythkabhejfkekjaa", sum := "f799a4f04ccd9884dd0bb8bc17a6a3a113f6b4a106218ad02801641a4fe63694", func := "wagtail/wagtaillaw32.FramePuts", spec := "framePuts", unfollowed := true, recurses := true, apart := false }
def FramePutsSaid : Prop := framePutsRow.holds Try.pinned (OpenSpec.ofChange framePutsSpec)

/-- ITS FALSE NEIGHBOUR: 'it returns false'. Refute it at one input. -/
def framePutsWrong : ChangeSpec := { name := "framePuts", fn := fun _ => fun
  | [d1, d2] => { results := [.lit (.bool false)], args := [d1, d2] }
  | _ => none }
def FramePutsWrongFalsely : Prop := framePutsRow.holds Try.pinned (OpenSpec.ofChange framePutsWrong)

/-- 'wagtaillaw32.FrameOf': WHATEVER THE INPUT: true; the input reads as it did. -/
def frameOfSpec : ChangeSpec := { name := "frameOf", fn := fun _ => fun
  | [d] => { results := [.lit (.bool true)], args := [d] }
  | _ => none }
def frameOfRow : OpenClaim := { program := "ythkabhejfkekjaa", sum := "f799a4f04ccd9884dd0bb8bc17a6a3a113f6b4a106218ad02801641a4fe63694", func := "wagtail/wagtaillaw32.FrameOf", spec := "frameOf", unfollowed := true, recurses := true, apart := false }
def FrameOfSaid : Prop := frameOfRow.holds Try.pinned (OpenSpec.ofChange frameOfSpec)

/-- ITS FALSE NEIGHBOUR: 'it returns false'. Refute it at one input. -/
def frameOfWrong : ChangeSpec := { name := "frameOf", fn := fun _ => fun
  | [d] => { results := [.lit (.bool false)], args := [d] }
  | _ => none }
def FrameOfWrongFalsely : Prop := frameOfRow.holds Try.pinned (OpenSpec.ofChange frameOfWrong)

/-- 'wagtaillaw32.FrameGets': WHATEVER THE INPUT: true; the input reads as it did. -/
def frameGetsSpec : ChangeSpec := { name := "frameGets", fn := fun _ => fun
  | [d] => { results := [.lit (.bool true)], args := [d] }
  | _ => none }
def frameGetsRow : OpenClaim := { program := "ythkabhejfkekjaa", sum := "f799a4f04ccd9884dd0bb8bc17a6a3a113f6b4a106218ad02801641a4fe63694", func := "wagtail/wagtaillaw32.FrameGets", spec := "frameGets", unfollowed := true, recurses := true, apart := false }
def FrameGetsSaid : Prop := frameGetsRow.holds Try.pinned (OpenSpec.ofChange frameGetsSpec)

/-- ITS FALSE NEIGHBOUR: 'it returns false'. Refute it at one input. -/
def frameGetsWrong : ChangeSpec := { name := "frameGets", fn := fun _ => fun
  | [d] => { results := [.lit (.bool false)], args := [d] }
  | _ => none }
def FrameGetsWrongFalsely : Prop := frameGetsRow.holds Try.pinned (OpenSpec.ofChange frameGetsWrong)

/-- 'wagtaillaw32.FrameTurned': WHATEVER THE INPUT: true; the input reads as it did. -/
def frameTurnedSpec : ChangeSpec := { name := "frameTurned", fn := fun _ => fun
  | [d] => { results := [.lit (.bool true)], args := [d] }
  | _ => none }
def frameTurnedRow : OpenClaim := { program := "ythkabhejfkekjaa", sum := "f799a4f04ccd9884dd0bb8bc17a6a3a113f6b4a106218ad02801641a4fe63694", func := "wagtail/wagtaillaw32.FrameTurned", spec := "frameTurned", unfollowed := true, recurses := true, apart := false }
def FrameTurnedSaid : Prop := frameTurnedRow.holds Try.pinned (OpenSpec.ofChange frameTurnedSpec)

/-- ITS FALSE NEIGHBOUR: 'it returns false'. Refute it at one input. -/
def frameTurnedWrong : ChangeSpec := { name := "frameTurned", fn := fun _ => fun
  | [d] => { results := [.lit (.bool false)], args := [d] }
  | _ => none }
def FrameTurnedWrongFalsely : Prop := frameTurnedRow.holds Try.pinned (OpenSpec.ofChange frameTurnedWrong)

/-- 'wagtaillaw26.MetaPuts': WHATEVER THE INPUT: true; the input reads as it did. -/
def metaPutsSpec : ChangeSpec := { name := "metaPuts", fn := fun _ => fun
  | [d1, d2] => { results := [.lit (.bool true)], args := [d1, d2] }
  | _ => none }
def metaPutsRow : OpenClaim := { program := "ythkabhejfkekjaa", sum := "f799a4f04ccd9884dd0bb8bc17a6a3a113f6b4a106218ad02801641a4fe63694", func := "wagtail/wagtaillaw26.MetaPuts", spec := "metaPuts", unfollowed := true, recurses := true, apart := false }
def MetaPutsSaid : Prop := metaPutsRow.holds Try.pinned (OpenSpec.ofChange metaPutsSpec)

/-- ITS FALSE NEIGHBOUR: 'it returns false'. Refute it at one input. -/
def metaPutsWrong : ChangeSpec := { name := "metaPuts", fn := fun _ => fun
  | [d1, d2] => { results := [.lit (.bool false)], args := [d1, d2] }
  | _ => none }
def MetaPutsWrongFalsely : Prop := metaPutsRow.holds Try.pinned (OpenSpec.ofChange metaPutsWrong)

/-- 'wagtaillaw26.MetaGets': WHATEVER THE INPUT: true; the input reads as it did. -/
def metaGetsSpec : ChangeSpec := { name := "metaGets", fn := fun _ => fun
  | [d1, d2] => { results := [.lit (.bool true)], args := [d1, d2] }
  | _ => none }
def metaGetsRow : OpenClaim := { program := "ythkabhejfkekjaa", sum := "f799a4f04ccd9884dd0bb8bc17a6a3a113f6b4a106218ad02801641a4fe63694", func := "wagtail/wagtaillaw26.MetaGets", spec := "metaGets", unfollowed := true, recurses := true, apart := false }
def MetaGetsSaid : Prop := metaGetsRow.holds Try.pinned (OpenSpec.ofChange metaGetsSpec)

/-- ITS FALSE NEIGHBOUR: 'it returns false'. Refute it at one input. -/
def metaGetsWrong : ChangeSpec := { name := "metaGets", fn := fun _ => fun
  | [d1, d2] => { results := [.lit (.bool false)], args := [d1, d2] }
  | _ => none }
def MetaGetsWrongFalsely : Prop := metaGetsRow.holds Try.pinned (OpenSpec.ofChange metaGetsWrong)

/-- 'wagtaillaw26.MetaCounts': WHATEVER THE INPUT: true; the input reads as it did. -/
def metaCountsSpec : ChangeSpec := { name := "metaCounts", fn := fun _ => fun
  | [d1, d2, d3] => { results := [.lit (.bool true)], args := [d1, d2, d3] }
  | _ => none }
def metaCountsRow : OpenClaim := { program := "ythkabhejfkekjaa", sum := "f799a4f04ccd9884dd0bb8bc17a6a3a113f6b4a106218ad02801641a4fe63694", func := "wagtail/wagtaillaw26.MetaCounts", spec := "metaCounts", unfollowed := true, recurses := true, apart := false }
def MetaCountsSaid : Prop := metaCountsRow.holds Try.pinned (OpenSpec.ofChange metaCountsSpec)

/-- ITS FALSE NEIGHBOUR: 'it returns false'. Refute it at one input. -/
def metaCountsWrong : ChangeSpec := { name := "metaCounts", fn := fun _ => fun
  | [d1, d2, d3] => { results := [.lit (.bool false)], args := [d1, d2, d3] }
  | _ => none }
def MetaCountsWrongFalsely : Prop := metaCountsRow.holds Try.pinned (OpenSpec.ofChange metaCountsWrong)

/- THE SECOND FORM. 'bulk': how many values and letters a reading holds, each counted each time it is reached (what is shared counts as often as it is met; a slice's spare places count too). A statement '..UptoSaid' is the law's where the arguments, and the package variables that the reading takes, are together of bulk at most 1048576: NARROWER than '..Said'. Prove '..Said' where nothing that the law and all that it calls make is longer than what came in: it says more and counts as full. Else prove '..UptoSaid'. A law counts once. -/
mutual
def uptoBulk {H : Type} : DataW H → Nat
  | .lit (.string bytes) => bytes.length + 1
  | .lit _ => 1
  | .nil => 1
  | .ptr d => uptoBulk d + 1
  | .slice elems spare => uptoBulkAll elems + uptoBulkAll spare + 1
  | .agg parts => uptoBulkAll parts + 1
  | .iface _ d => uptoBulk d + 1
  | .map entries => uptoBulkEntries entries + 1
  | .held _ => 1
def uptoBulkAll {H : Type} : List (DataW H) → Nat
  | [] => 0
  | d :: r => uptoBulk d + uptoBulkAll r
def uptoBulkEntries {H : Type} : List (Lit × DataW H) → Nat
  | [] => 0
  | x :: r => uptoBulkEntry x + uptoBulkEntries r
def uptoBulkEntry {H : Type} : Lit × DataW H → Nat
  | (.string bytes, d) => bytes.length + uptoBulk d + 1
  | (_, d) => uptoBulk d + 1
 end
def uptoSmall : (H : Type) → List (DataW H) → Bool := fun _ ds => decide (uptoBulkAll ds ≤ 1048576)
def OpenSpec.upto (s : _root_.Go.ChangeSpec) : _root_.Go.OpenSpec := { _root_.Go.OpenSpec.ofChange s with cond := some uptoSmall }

/-- 'wagtaillaw03.CrcSums', WHERE WHAT IT READS IS OF BULK AT MOST 1048576: true; the input reads as it did. -/
def crcSumsUptoRow : OpenClaim := { program := "ythkabhejfkekjaa", sum := "f799a4f04ccd9884dd0bb8bc17a6a3a113f6b4a106218ad02801641a4fe63694", func := "wagtail/wagtaillaw03.CrcSums", spec := "crcSums", unfollowed := true, recurses := true, apart := false, narrowed := true }
def CrcSumsUptoSaid : Prop := crcSumsUptoRow.holds Try.pinned (OpenSpec.upto crcSumsSpec)

/-- 'wagtaillaw03.CrcGoes', WHERE WHAT IT READS IS OF BULK AT MOST 1048576: true; the input reads as it did. -/
def crcGoesUptoRow : OpenClaim := { program := "ythkabhejfkekjaa", sum := "f799a4f04ccd9884dd0bb8bc17a6a3a113f6b4a106218ad02801641a4fe63694", func := "wagtail/wagtaillaw03.CrcGoes", spec := "crcGoes", unfollowed := true, recurses := true, apart := false, narrowed := true }
def CrcGoesUptoSaid : Prop := crcGoesUptoRow.holds Try.pinned (OpenSpec.upto crcGoesSpec)

/-- 'wagtaillaw03.CrcTurned', WHERE WHAT IT READS IS OF BULK AT MOST 1048576: true; the input reads as it did. -/
def crcTurnedUptoRow : OpenClaim := { program := "ythkabhejfkekjaa", sum := "f799a4f04ccd9884dd0bb8bc17a6a3a113f6b4a106218ad02801641a4fe63694", func := "wagtail/wagtaillaw03.CrcTurned", spec := "crcTurned", unfollowed := true, recurses := true, apart := false, narrowed := true }
def CrcTurnedUptoSaid : Prop := crcTurnedUptoRow.holds Try.pinned (OpenSpec.upto crcTurnedSpec)

/-- 'wagtaillaw01.BeLays', WHERE WHAT IT READS IS OF BULK AT MOST 1048576: true; the input reads as it did. -/
def beLaysUptoRow : OpenClaim := { program := "ythkabhejfkekjaa", sum := "f799a4f04ccd9884dd0bb8bc17a6a3a113f6b4a106218ad02801641a4fe63694", func := "wagtail/wagtaillaw01.BeLays", spec := "beLays", unfollowed := true, recurses := true, apart := false, narrowed := true }
def BeLaysUptoSaid : Prop := beLaysUptoRow.holds Try.pinned (OpenSpec.upto beLaysSpec)

/-- 'wagtaillaw01.BeRows', WHERE WHAT IT READS IS OF BULK AT MOST 1048576: true; the input reads as it did. -/
def beRowsUptoRow : OpenClaim := { program := "ythkabhejfkekjaa", sum := "f799a4f04ccd9884dd0bb8bc17a6a3a113f6b4a106218ad02801641a4fe63694", func := "wagtail/wagtaillaw01.BeRows", spec := "beRows", unfollowed := true, recurses := true, apart := false, narrowed := true }
def BeRowsUptoSaid : Prop := beRowsUptoRow.holds Try.pinned (OpenSpec.upto beRowsSpec)

/-- 'wagtaillaw01.BeReads', WHERE WHAT IT READS IS OF BULK AT MOST 1048576: true; the input reads as it did. -/
def beReadsUptoRow : OpenClaim := { program := "ythkabhejfkekjaa", sum := "f799a4f04ccd9884dd0bb8bc17a6a3a113f6b4a106218ad02801641a4fe63694", func := "wagtail/wagtaillaw01.BeReads", spec := "beReads", unfollowed := true, recurses := true, apart := false, narrowed := true }
def BeReadsUptoSaid : Prop := beReadsUptoRow.holds Try.pinned (OpenSpec.upto beReadsSpec)

/-- 'wagtaillaw05.HeadPuts', WHERE WHAT IT READS IS OF BULK AT MOST 1048576: true; the input reads as it did. -/
def headPutsUptoRow : OpenClaim := { program := "ythkabhejfkekjaa", sum := "f799a4f04ccd9884dd0bb8bc17a6a3a113f6b4a106218ad02801641a4fe63694", func := "wagtail/wagtaillaw05.HeadPuts", spec := "headPuts", unfollowed := true, recurses := true, apart := false, narrowed := true }
def HeadPutsUptoSaid : Prop := headPutsUptoRow.holds Try.pinned (OpenSpec.upto headPutsSpec)

/-- 'wagtaillaw05.HeadGets', WHERE WHAT IT READS IS OF BULK AT MOST 1048576: true; the input reads as it did. -/
def headGetsUptoRow : OpenClaim := { program := "ythkabhejfkekjaa", sum := "f799a4f04ccd9884dd0bb8bc17a6a3a113f6b4a106218ad02801641a4fe63694", func := "wagtail/wagtaillaw05.HeadGets", spec := "headGets", unfollowed := true, recurses := true, apart := false, narrowed := true }
def HeadGetsUptoSaid : Prop := headGetsUptoRow.holds Try.pinned (OpenSpec.upto headGetsSpec)

/-- 'wagtaillaw05.HeadBegins', WHERE WHAT IT READS IS OF BULK AT MOST 1048576: true; the input reads as it did. -/
def headBeginsUptoRow : OpenClaim := { program := "ythkabhejfkekjaa", sum := "f799a4f04ccd9884dd0bb8bc17a6a3a113f6b4a106218ad02801641a4fe63694", func := "wagtail/wagtaillaw05.HeadBegins", spec := "headBegins", unfollowed := true, recurses := true, apart := false, narrowed := true }
def HeadBeginsUptoSaid : Prop := headBeginsUptoRow.holds Try.pinned (OpenSpec.upto headBeginsSpec)

/-- 'wagtaillaw32.FramePuts', WHERE WHAT IT READS IS OF BULK AT MOST 1048576: true; the input reads as it did. -/
def framePutsUptoRow : OpenClaim := { program := "ythkabhejfkekjaa", sum := "f799a4f04ccd9884dd0bb8bc17a6a3a113f6b4a106218ad02801641a4fe63694", func := "wagtail/wagtaillaw32.FramePuts", spec := "framePuts", unfollowed := true, recurses := true, apart := false, narrowed := true }
def FramePutsUptoSaid : Prop := framePutsUptoRow.holds Try.pinned (OpenSpec.upto framePutsSpec)

/-- 'wagtaillaw32.FrameOf', WHERE WHAT IT READS IS OF BULK AT MOST 1048576: true; the input reads as it did. -/
def frameOfUptoRow : OpenClaim := { program := "ythkabhejfkekjaa", sum := "f799a4f04ccd9884dd0bb8bc17a6a3a113f6b4a106218ad02801641a4fe63694", func := "wagtail/wagtaillaw32.FrameOf", spec := "frameOf", unfollowed := true, recurses := true, apart := false, narrowed := true }
def FrameOfUptoSaid : Prop := frameOfUptoRow.holds Try.pinned (OpenSpec.upto frameOfSpec)

/-- 'wagtaillaw32.FrameGets', WHERE WHAT IT READS IS OF BULK AT MOST 1048576: true; the input reads as it did. -/
def frameGetsUptoRow : OpenClaim := { program := "ythkabhejfkekjaa", sum := "f799a4f04ccd9884dd0bb8bc17a6a3a113f6b4a106218ad02801641a4fe63694", func := "wagtail/wagtaillaw32.FrameGets", spec := "frameGets", unfollowed := true, recurses := true, apart := false, narrowed := true }
def FrameGetsUptoSaid : Prop := frameGetsUptoRow.holds Try.pinned (OpenSpec.upto frameGetsSpec)

/-- 'wagtaillaw32.FrameTurned', WHERE WHAT IT READS IS OF BULK AT MOST 1048576: true; the input reads as it did. -/
def frameTurnedUptoRow : OpenClaim := { program := "ythkabhejfkekjaa", sum := "f799a4f04ccd9884dd0bb8bc17a6a3a113f6b4a106218ad02801641a4fe63694", func := "wagtail/wagtaillaw32.FrameTurned", spec := "frameTurned", unfollowed := true, recurses := true, apart := false, narrowed := true }
def FrameTurnedUptoSaid : Prop := frameTurnedUptoRow.holds Try.pinned (OpenSpec.upto frameTurnedSpec)

/-- 'wagtaillaw26.MetaPuts', WHERE WHAT IT READS IS OF BULK AT MOST 1048576: true; the input reads as it did. -/
def metaPutsUptoRow : OpenClaim := { program := "ythkabhejfkekjaa", sum := "f799a4f04ccd9884dd0bb8bc17a6a3a113f6b4a106218ad02801641a4fe63694", func := "wagtail/wagtaillaw26.MetaPuts", spec := "metaPuts", unfollowed := true, recurses := true, apart := false, narrowed := true }
def MetaPutsUptoSaid : Prop := metaPutsUptoRow.holds Try.pinned (OpenSpec.upto metaPutsSpec)

/-- 'wagtaillaw26.MetaGets', WHERE WHAT IT READS IS OF BULK AT MOST 1048576: true; the input reads as it did. -/
def metaGetsUptoRow : OpenClaim := { program := "ythkabhejfkekjaa", sum := "f799a4f04ccd9884dd0bb8bc17a6a3a113f6b4a106218ad02801641a4fe63694", func := "wagtail/wagtaillaw26.MetaGets", spec := "metaGets", unfollowed := true, recurses := true, apart := false, narrowed := true }
def MetaGetsUptoSaid : Prop := metaGetsUptoRow.holds Try.pinned (OpenSpec.upto metaGetsSpec)

/-- 'wagtaillaw26.MetaCounts', WHERE WHAT IT READS IS OF BULK AT MOST 1048576: true; the input reads as it did. -/
def metaCountsUptoRow : OpenClaim := { program := "ythkabhejfkekjaa", sum := "f799a4f04ccd9884dd0bb8bc17a6a3a113f6b4a106218ad02801641a4fe63694", func := "wagtail/wagtaillaw26.MetaCounts", spec := "metaCounts", unfollowed := true, recurses := true, apart := false, narrowed := true }
def MetaCountsUptoSaid : Prop := metaCountsUptoRow.holds Try.pinned (OpenSpec.upto metaCountsSpec)

end Rows
end Go.Proofs.Ythkabhejfkekjaa
