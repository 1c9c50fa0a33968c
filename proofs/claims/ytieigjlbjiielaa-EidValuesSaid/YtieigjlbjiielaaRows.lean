/-
  NARROWER THAN 'FOR EVERY INPUT', by the rows' own cells (each row's printed sentence says how): EidValues: loops.
  DERIVED. THE GIVEN ROWS OF THIS SEAT. 6 by the template 'for every input the law returns true; each argument reads behind the call as it read before'; 0 by the template 'total and deterministic' (their statements: YtieigjlbjiielaaTotals.lean).
  GIVEN WITH THE SEED: the statements are not yours to turn. If you find one false, say at which input.
  Laid BY PROGRAM, IN A SANDBOX (cutbox-rows.mjs): the forced cells as the released guide's own fill.sh prints them over the translation bd61c92211e72f17… (all of the seat's roots in one cut). By AI agents, Wed Nov 11 2026. No macro, syntax, notation, axiom, sorry.
-/
import Derived.Test.YtieigjlbjiielaaChecked
import GoSem.Claim
import GoSem.ClaimJoined
import GoSem.ClaimMapViews
import Derived.JoinedTies
import Derived.KernelRfl
namespace Go.Proofs.Ytieigjlbjiielaa
/- THE CELL 'sum', in the pinned program and in every row, IS THE sha256 OF THE DUMP (.gsa) THAT YtieigjlbjiielaaProg.lean LOADS. Nothing in Lean hashes anything: it is a label: what it is worth is what the hold of that sum in a sandbox is worth. -/
noncomputable def Try.pinned : Pinned := { name := "ytieigjlbjiielaa", sum := "bd61c92211e72f17afdf36aff071794b66123aa529c5814e06d1cc399e0feef8", checked := Try.checked }
namespace Rows
def none {H : Type} : Left H := { results := [], args := [] }

/-- 'wagtaillaw08.StampEnds': WHATEVER THE INPUT: true; the input reads as it did. -/
def stampEndsSpec : ChangeSpec := { name := "stampEnds", fn := fun _ => fun
  | [d1, d2, d3] => { results := [.lit (.bool true)], args := [d1, d2, d3] }
  | _ => none }
def stampEndsRow : OpenClaim := { program := "ytieigjlbjiielaa", sum := "bd61c92211e72f17afdf36aff071794b66123aa529c5814e06d1cc399e0feef8", func := "wagtail/wagtaillaw08.StampEnds", spec := "stampEnds", unfollowed := true, recurses := true, apart := false }
def StampEndsSaid : Prop := stampEndsRow.holds Try.pinned (OpenSpec.ofChange stampEndsSpec)

/-- ITS FALSE NEIGHBOUR: 'it returns false'. Refute it at one input. -/
def stampEndsWrong : ChangeSpec := { name := "stampEnds", fn := fun _ => fun
  | [d1, d2, d3] => { results := [.lit (.bool false)], args := [d1, d2, d3] }
  | _ => none }
def StampEndsWrongFalsely : Prop := stampEndsRow.holds Try.pinned (OpenSpec.ofChange stampEndsWrong)

/-- 'wagtaillaw08.StampKeys': WHATEVER THE INPUT: true; the input reads as it did. -/
def stampKeysSpec : ChangeSpec := { name := "stampKeys", fn := fun _ => fun
  | [d] => { results := [.lit (.bool true)], args := [d] }
  | _ => none }
def stampKeysRow : OpenClaim := { program := "ytieigjlbjiielaa", sum := "bd61c92211e72f17afdf36aff071794b66123aa529c5814e06d1cc399e0feef8", func := "wagtail/wagtaillaw08.StampKeys", spec := "stampKeys", unfollowed := true, recurses := true, apart := false }
def StampKeysSaid : Prop := stampKeysRow.holds Try.pinned (OpenSpec.ofChange stampKeysSpec)

/-- ITS FALSE NEIGHBOUR: 'it returns false'. Refute it at one input. -/
def stampKeysWrong : ChangeSpec := { name := "stampKeys", fn := fun _ => fun
  | [d] => { results := [.lit (.bool false)], args := [d] }
  | _ => none }
def StampKeysWrongFalsely : Prop := stampKeysRow.holds Try.pinned (OpenSpec.ofChange stampKeysWrong)

/-- 'wagtaillaw08.StampOrders': WHATEVER THE INPUT: true; the input reads as it did. -/
def stampOrdersSpec : ChangeSpec := { name := "stampOrders", fn := fun _ => fun
  | [d1, d2, d3] => { results := [.lit (.bool true)], args := [d1, d2, d3] }
  | _ => none }
def stampOrdersRow : OpenClaim := { program := "ytieigjlbjiielaa", sum := "bd61c92211e72f17afdf36aff071794b66123aa529c5814e06d1cc399e0feef8", func := "wagtail/wagtaillaw08.StampOrders", spec := "stampOrders", unfollowed := true, recurses := true, apart := false }
def StampOrdersSaid : Prop := stampOrdersRow.holds Try.pinned (OpenSpec.ofChange stampOrdersSpec)

/-- ITS FALSE NEIGHBOUR: 'it returns false'. Refute it at one input. -/
def stampOrdersWrong : ChangeSpec := { name := "stampOrders", fn := fun _ => fun
  | [d1, d2, d3] => { results := [.lit (.bool false)], args := [d1, d2, d3] }
  | _ => none }
def StampOrdersWrongFalsely : Prop := stampOrdersRow.holds Try.pinned (OpenSpec.ofChange stampOrdersWrong)

/-- 'wagtaillaw07.EidParses': WHATEVER THE INPUT: true; the input reads as it did. -/
def eidParsesSpec : ChangeSpec := { name := "eidParses", fn := fun _ => fun
  | [d] => { results := [.lit (.bool true)], args := [d] }
  | _ => none }
def eidParsesRow : OpenClaim := { program := "ytieigjlbjiielaa", sum := "bd61c92211e72f17afdf36aff071794b66123aa529c5814e06d1cc399e0feef8", func := "wagtail/wagtaillaw07.EidParses", spec := "eidParses", inPlace := ["internal/bytealg.IndexByteString", "internal/bytealg.IndexString"], unfollowed := true, recurses := true, named := ["internal/bytealg.MaxLen"], apart := false }
def EidParsesSaid : Prop := eidParsesRow.holds Try.pinned (OpenSpec.ofChange eidParsesSpec)

/-- ITS FALSE NEIGHBOUR: 'it returns false'. Refute it at one input. -/
def eidParsesWrong : ChangeSpec := { name := "eidParses", fn := fun _ => fun
  | [d] => { results := [.lit (.bool false)], args := [d] }
  | _ => none }
def EidParsesWrongFalsely : Prop := eidParsesRow.holds Try.pinned (OpenSpec.ofChange eidParsesWrong)

/-- 'wagtaillaw07.EidValues': WHATEVER THE INPUT: true; the input reads as it did. -/
def eidValuesSpec : ChangeSpec := { name := "eidValues", fn := fun _ => fun
  | [d] => { results := [.lit (.bool true)], args := [d] }
  | _ => none }
def eidValuesRow : OpenClaim := { program := "ytieigjlbjiielaa", sum := "bd61c92211e72f17afdf36aff071794b66123aa529c5814e06d1cc399e0feef8", func := "wagtail/wagtaillaw07.EidValues", spec := "eidValues", inPlace := ["internal/bytealg.IndexByteString", "internal/bytealg.IndexString"], unfollowed := true, recurses := true, named := ["internal/bytealg.MaxLen"], loops := true, apart := false }
def EidValuesSaid : Prop := eidValuesRow.holds Try.pinned (OpenSpec.ofChange eidValuesSpec)

/-- ITS FALSE NEIGHBOUR: 'it returns false'. Refute it at one input. -/
def eidValuesWrong : ChangeSpec := { name := "eidValues", fn := fun _ => fun
  | [d] => { results := [.lit (.bool false)], args := [d] }
  | _ => none }
def EidValuesWrongFalsely : Prop := eidValuesRow.holds Try.pinned (OpenSpec.ofChange eidValuesWrong)

/-- 'wagtaillaw07.EidHosts': WHATEVER THE INPUT: true; the input reads as it did. -/
def eidHostsSpec : ChangeSpec := { name := "eidHosts", fn := fun _ => fun
  | [d] => { results := [.lit (.bool true)], args := [d] }
  | _ => none }
def eidHostsRow : OpenClaim := { program := "ytieigjlbjiielaa", sum := "bd61c92211e72f17afdf36aff071794b66123aa529c5814e06d1cc399e0feef8", func := "wagtail/wagtaillaw07.EidHosts", spec := "eidHosts", inPlace := ["internal/bytealg.IndexByteString", "internal/bytealg.IndexString"], unfollowed := true, recurses := true, named := ["internal/bytealg.MaxLen"], apart := false }
def EidHostsSaid : Prop := eidHostsRow.holds Try.pinned (OpenSpec.ofChange eidHostsSpec)

/-- ITS FALSE NEIGHBOUR: 'it returns false'. Refute it at one input. -/
def eidHostsWrong : ChangeSpec := { name := "eidHosts", fn := fun _ => fun
  | [d] => { results := [.lit (.bool false)], args := [d] }
  | _ => none }
def EidHostsWrongFalsely : Prop := eidHostsRow.holds Try.pinned (OpenSpec.ofChange eidHostsWrong)

/- THE SECOND FORM. 'bulk': how many values and letters a reading holds, each counted each time it is reached (what is shared counts as often as it is met; a slice's spare places count too). A statement '..UptoSaid' is the law's where the arguments, and the package variables that the reading takes, are together of bulk at most 1048576: NARROWER than '..Said'. Prove '..Said' where nothing that the law and all that it calls make is longer than what came in: it says more and counts as full. Else prove '..UptoSaid'. A law counts once. -/
mutual
def uptoBulk {H : Type} : DataW H → Nat
  | .lit (.string bytes) => bytes.length + 1
  | .lit _ => 1
  | .nil => 1
  | .ptr d => uptoBulk d + 1
  | .slice elems spare => uptoBulkAll elems + uptoBulkAll spare + 1
  | .agg parts => uptoBulkAll parts + 1
  | .iface _ d => uptoBulk d + 1
  | .map entries => uptoBulkEntries entries + 1
  | .held _ => 1
def uptoBulkAll {H : Type} : List (DataW H) → Nat
  | [] => 0
  | d :: r => uptoBulk d + uptoBulkAll r
def uptoBulkEntries {H : Type} : List (Lit × DataW H) → Nat
  | [] => 0
  | x :: r => uptoBulkEntry x + uptoBulkEntries r
def uptoBulkEntry {H : Type} : Lit × DataW H → Nat
  | (.string bytes, d) => bytes.length + uptoBulk d + 1
  | (_, d) => uptoBulk d + 1
 end
def uptoSmall : (H : Type) → List (DataW H) → Bool := fun _ ds => decide (uptoBulkAll ds ≤ 1048576)
def OpenSpec.upto (s : _root_.Go.ChangeSpec) : _root_.Go.OpenSpec := { _root_.Go.OpenSpec.ofChange s with cond := some uptoSmall }

/-- 'wagtaillaw08.StampEnds', WHERE WHAT IT READS IS OF BULK AT MOST 1048576: true; the input reads as it did. -/
def stampEndsUptoRow : OpenClaim := { program := "ytieigjlbjiielaa", sum := "bd61c92211e72f17afdf36aff071794b66123aa529c5814e06d1cc399e0feef8", func := "wagtail/wagtaillaw08.StampEnds", spec := "stampEnds", unfollowed := true, recurses := true, apart := false, narrowed := true }
def StampEndsUptoSaid : Prop := stampEndsUptoRow.holds Try.pinned (OpenSpec.upto stampEndsSpec)

/-- 'wagtaillaw08.StampKeys', WHERE WHAT IT READS IS OF BULK AT MOST 1048576: true; the input reads as it did. -/
def stampKeysUptoRow : OpenClaim := { program := "ytieigjlbjiielaa", sum := "bd61c92211e72f17afdf36aff071794b66123aa529c5814e06d1cc399e0feef8", func := "wagtail/wagtaillaw08.StampKeys", spec := "stampKeys", unfollowed := true, recurses := true, apart := false, narrowed := true }
def StampKeysUptoSaid : Prop := stampKeysUptoRow.holds Try.pinned (OpenSpec.upto stampKeysSpec)

/-- 'wagtaillaw08.StampOrders', WHERE WHAT IT READS IS OF BULK AT MOST 1048576: true; the input reads as it did. -/
def stampOrdersUptoRow : OpenClaim := { program := "ytieigjlbjiielaa", sum := "bd61c92211e72f17afdf36aff071794b66123aa529c5814e06d1cc399e0feef8", func := "wagtail/wagtaillaw08.StampOrders", spec := "stampOrders", unfollowed := true, recurses := true, apart := false, narrowed := true }
def StampOrdersUptoSaid : Prop := stampOrdersUptoRow.holds Try.pinned (OpenSpec.upto stampOrdersSpec)

/-- 'wagtaillaw07.EidParses', WHERE WHAT IT READS IS OF BULK AT MOST 1048576: true; the input reads as it did. -/
def eidParsesUptoRow : OpenClaim := { program := "ytieigjlbjiielaa", sum := "bd61c92211e72f17afdf36aff071794b66123aa529c5814e06d1cc399e0feef8", func := "wagtail/wagtaillaw07.EidParses", spec := "eidParses", inPlace := ["internal/bytealg.IndexByteString", "internal/bytealg.IndexString"], unfollowed := true, recurses := true, named := ["internal/bytealg.MaxLen"], apart := false, narrowed := true }
def EidParsesUptoSaid : Prop := eidParsesUptoRow.holds Try.pinned (OpenSpec.upto eidParsesSpec)

/-- 'wagtaillaw07.EidValues', WHERE WHAT IT READS IS OF BULK AT MOST 1048576: true; the input reads as it did. -/
def eidValuesUptoRow : OpenClaim := { program := "ytieigjlbjiielaa", sum := "bd61c92211e72f17afdf36aff071794b66123aa529c5814e06d1cc399e0feef8", func := "wagtail/wagtaillaw07.EidValues", spec := "eidValues", inPlace := ["internal/bytealg.IndexByteString", "internal/bytealg.IndexString"], unfollowed := true, recurses := true, named := ["internal/bytealg.MaxLen"], loops := true, apart := false, narrowed := true }
def EidValuesUptoSaid : Prop := eidValuesUptoRow.holds Try.pinned (OpenSpec.upto eidValuesSpec)

/-- 'wagtaillaw07.EidHosts', WHERE WHAT IT READS IS OF BULK AT MOST 1048576: true; the input reads as it did. -/
def eidHostsUptoRow : OpenClaim := { program := "ytieigjlbjiielaa", sum := "bd61c92211e72f17afdf36aff071794b66123aa529c5814e06d1cc399e0feef8", func := "wagtail/wagtaillaw07.EidHosts", spec := "eidHosts", inPlace := ["internal/bytealg.IndexByteString", "internal/bytealg.IndexString"], unfollowed := true, recurses := true, named := ["internal/bytealg.MaxLen"], apart := false, narrowed := true }
def EidHostsUptoSaid : Prop := eidHostsUptoRow.holds Try.pinned (OpenSpec.upto eidHostsSpec)

end Rows
end Go.Proofs.Ytieigjlbjiielaa
