/-
  No cell of these rows narrows 'for every input' (looked for: loops, veiled, ifaces, maps, wideKeys, modest, calm, conditions, laid).
  DERIVED. THE GIVEN ROWS OF THIS SEAT. 12 by the template 'for every input the law returns true; each argument reads behind the call as it read before'; 0 by the template 'total and deterministic' (their statements: YtmlkhgekacjidaeTotals.lean).
  GIVEN WITH THE SEED: the statements are not yours to turn. If you find one false, say at which input.
  Laid BY PROGRAM, IN A SANDBOX (cutbox-rows.mjs): the forced cells as the released guide's own fill.sh prints them over the translation 30375e9a588382db… (all of the seat's roots in one cut). By AI agents, Wed Nov 11 2026. No macro, syntax, notation, axiom, sorry.
-/
import Derived.Test.YtmlkhgekacjidaeChecked
import GoSem.Claim
import GoSem.ClaimJoined
import GoSem.ClaimMapViews
import Derived.JoinedTies
import Derived.KernelRfl
namespace Go.Proofs.Ytmlkhgekacjidae
/- THE CELL 'sum', in the pinned program and in every row, IS THE sha256 OF THE DUMP (.gsa) THAT YtmlkhgekacjidaeProg.lean LOADS. Nothing in Lean hashes anything: it is a label: what it is worth is what the hold of that sum in a sandbox is worth. -/
noncomputable def Try.pinned : Pinned := { name := "ytmlkhgekacjidae", sum := "30375e9a588382dbc400825da756497584c66dd6ff19415b5e72ad3d11154e6e", checked := Try.checked }
namespace Rows
def none {H : Type} : Left H := { results := [], args := [] }

/-- 'laws.FnIntegers': WHATEVER THE INPUT: true; the input reads as it did. -/
def fnIntegersSpec : ChangeSpec := { name := "fnIntegers", fn := fun _ => fun
  | [d] => { results := [.lit (.bool true)], args := [d] }
  | _ => none }
def fnIntegersRow : OpenClaim := { program := "ytmlkhgekacjidae", sum := "30375e9a588382dbc400825da756497584c66dd6ff19415b5e72ad3d11154e6e", func := "loop.example/g00597/laws.FnIntegers", spec := "fnIntegers", apart := false }
def FnIntegersSaid : Prop := fnIntegersRow.holds Try.pinned (OpenSpec.ofChange fnIntegersSpec)

/-- ITS FALSE NEIGHBOUR: 'it returns false'. Refute it at one input. -/
def fnIntegersWrong : ChangeSpec := { name := "fnIntegers", fn := fun _ => fun
  | [d] => { results := [.lit (.bool false)], args := [d] }
  | _ => none }
def FnIntegersWrongFalsely : Prop := fnIntegersRow.holds Try.pinned (OpenSpec.ofChange fnIntegersWrong)

/-- 'laws.FnVarints': WHATEVER THE INPUT: true; the input reads as it did. -/
def fnVarintsSpec : ChangeSpec := { name := "fnVarints", fn := fun _ => fun
  | [d] => { results := [.lit (.bool true)], args := [d] }
  | _ => none }
def fnVarintsRow : OpenClaim := { program := "ytmlkhgekacjidae", sum := "30375e9a588382dbc400825da756497584c66dd6ff19415b5e72ad3d11154e6e", func := "loop.example/g00597/laws.FnVarints", spec := "fnVarints", apart := false }
def FnVarintsSaid : Prop := fnVarintsRow.holds Try.pinned (OpenSpec.ofChange fnVarintsSpec)

/-- ITS FALSE NEIGHBOUR: 'it returns false'. Refute it at one input. -/
def fnVarintsWrong : ChangeSpec := { name := "fnVarints", fn := fun _ => fun
  | [d] => { results := [.lit (.bool false)], args := [d] }
  | _ => none }
def FnVarintsWrongFalsely : Prop := fnVarintsRow.holds Try.pinned (OpenSpec.ofChange fnVarintsWrong)

/-- 'laws.FnMethods': WHATEVER THE INPUT: true; the input reads as it did. -/
def fnMethodsSpec : ChangeSpec := { name := "fnMethods", fn := fun _ => fun
  | [d] => { results := [.lit (.bool true)], args := [d] }
  | _ => none }
def fnMethodsRow : OpenClaim := { program := "ytmlkhgekacjidae", sum := "30375e9a588382dbc400825da756497584c66dd6ff19415b5e72ad3d11154e6e", func := "loop.example/g00597/laws.FnMethods", spec := "fnMethods", apart := false }
def FnMethodsSaid : Prop := fnMethodsRow.holds Try.pinned (OpenSpec.ofChange fnMethodsSpec)

/-- ITS FALSE NEIGHBOUR: 'it returns false'. Refute it at one input. -/
def fnMethodsWrong : ChangeSpec := { name := "fnMethods", fn := fun _ => fun
  | [d] => { results := [.lit (.bool false)], args := [d] }
  | _ => none }
def FnMethodsWrongFalsely : Prop := fnMethodsRow.holds Try.pinned (OpenSpec.ofChange fnMethodsWrong)

/-- 'laws.FnExactMeetAll': WHATEVER THE INPUT: true; the input reads as it did. -/
def fnExactMeetAllSpec : ChangeSpec := { name := "fnExactMeetAll", fn := fun _ => fun
  | [d1, d2] => { results := [.lit (.bool true)], args := [d1, d2] }
  | _ => none }
def fnExactMeetAllRow : OpenClaim := { program := "ytmlkhgekacjidae", sum := "30375e9a588382dbc400825da756497584c66dd6ff19415b5e72ad3d11154e6e", func := "loop.example/g00597/laws.FnExactMeetAll", spec := "fnExactMeetAll", apart := false }
def FnExactMeetAllSaid : Prop := fnExactMeetAllRow.holds Try.pinned (OpenSpec.ofChange fnExactMeetAllSpec)

/-- ITS FALSE NEIGHBOUR: 'it returns false'. Refute it at one input. -/
def fnExactMeetAllWrong : ChangeSpec := { name := "fnExactMeetAll", fn := fun _ => fun
  | [d1, d2] => { results := [.lit (.bool false)], args := [d1, d2] }
  | _ => none }
def FnExactMeetAllWrongFalsely : Prop := fnExactMeetAllRow.holds Try.pinned (OpenSpec.ofChange fnExactMeetAllWrong)

/-- 'laws.FnExactDocDigest': WHATEVER THE INPUT: true; the input reads as it did. -/
def fnExactDocDigestSpec : ChangeSpec := { name := "fnExactDocDigest", fn := fun _ => fun
  | [d1, d2] => { results := [.lit (.bool true)], args := [d1, d2] }
  | _ => none }
def fnExactDocDigestRow : OpenClaim := { program := "ytmlkhgekacjidae", sum := "30375e9a588382dbc400825da756497584c66dd6ff19415b5e72ad3d11154e6e", func := "loop.example/g00597/laws.FnExactDocDigest", spec := "fnExactDocDigest", apart := false }
def FnExactDocDigestSaid : Prop := fnExactDocDigestRow.holds Try.pinned (OpenSpec.ofChange fnExactDocDigestSpec)

/-- ITS FALSE NEIGHBOUR: 'it returns false'. Refute it at one input. -/
def fnExactDocDigestWrong : ChangeSpec := { name := "fnExactDocDigest", fn := fun _ => fun
  | [d1, d2] => { results := [.lit (.bool false)], args := [d1, d2] }
  | _ => none }
def FnExactDocDigestWrongFalsely : Prop := fnExactDocDigestRow.holds Try.pinned (OpenSpec.ofChange fnExactDocDigestWrong)

/-- 'laws.FnExactCountShown': WHATEVER THE INPUT: true; the input reads as it did. -/
def fnExactCountShownSpec : ChangeSpec := { name := "fnExactCountShown", fn := fun _ => fun
  | [d] => { results := [.lit (.bool true)], args := [d] }
  | _ => none }
def fnExactCountShownRow : OpenClaim := { program := "ytmlkhgekacjidae", sum := "30375e9a588382dbc400825da756497584c66dd6ff19415b5e72ad3d11154e6e", func := "loop.example/g00597/laws.FnExactCountShown", spec := "fnExactCountShown", apart := false }
def FnExactCountShownSaid : Prop := fnExactCountShownRow.holds Try.pinned (OpenSpec.ofChange fnExactCountShownSpec)

/-- ITS FALSE NEIGHBOUR: 'it returns false'. Refute it at one input. -/
def fnExactCountShownWrong : ChangeSpec := { name := "fnExactCountShown", fn := fun _ => fun
  | [d] => { results := [.lit (.bool false)], args := [d] }
  | _ => none }
def FnExactCountShownWrongFalsely : Prop := fnExactCountShownRow.holds Try.pinned (OpenSpec.ofChange fnExactCountShownWrong)

/-- 'laws.FnSpans': WHATEVER THE INPUT: true; the input reads as it did. -/
def fnSpansSpec : ChangeSpec := { name := "fnSpans", fn := fun _ => fun
  | [d] => { results := [.lit (.bool true)], args := [d] }
  | _ => none }
def fnSpansRow : OpenClaim := { program := "ytmlkhgekacjidae", sum := "30375e9a588382dbc400825da756497584c66dd6ff19415b5e72ad3d11154e6e", func := "loop.example/g00597/laws.FnSpans", spec := "fnSpans", apart := false }
def FnSpansSaid : Prop := fnSpansRow.holds Try.pinned (OpenSpec.ofChange fnSpansSpec)

/-- ITS FALSE NEIGHBOUR: 'it returns false'. Refute it at one input. -/
def fnSpansWrong : ChangeSpec := { name := "fnSpans", fn := fun _ => fun
  | [d] => { results := [.lit (.bool false)], args := [d] }
  | _ => none }
def FnSpansWrongFalsely : Prop := fnSpansRow.holds Try.pinned (OpenSpec.ofChange fnSpansWrong)

/-- 'laws.FnExactReplacePart': WHATEVER THE INPUT: true; the input reads as it did. -/
def fnExactReplacePartSpec : ChangeSpec := { name := "fnExactReplacePart", fn := fun _ => fun
  | [d1, d2, d3] => { results := [.lit (.bool true)], args := [d1, d2, d3] }
  | _ => none }
def fnExactReplacePartRow : OpenClaim := { program := "ytmlkhgekacjidae", sum := "30375e9a588382dbc400825da756497584c66dd6ff19415b5e72ad3d11154e6e", func := "loop.example/g00597/laws.FnExactReplacePart", spec := "fnExactReplacePart", apart := false }
def FnExactReplacePartSaid : Prop := fnExactReplacePartRow.holds Try.pinned (OpenSpec.ofChange fnExactReplacePartSpec)

/-- ITS FALSE NEIGHBOUR: 'it returns false'. Refute it at one input. -/
def fnExactReplacePartWrong : ChangeSpec := { name := "fnExactReplacePart", fn := fun _ => fun
  | [d1, d2, d3] => { results := [.lit (.bool false)], args := [d1, d2, d3] }
  | _ => none }
def FnExactReplacePartWrongFalsely : Prop := fnExactReplacePartRow.holds Try.pinned (OpenSpec.ofChange fnExactReplacePartWrong)

/-- 'laws.FnExactMakeDocument': WHATEVER THE INPUT: true; the input reads as it did. -/
def fnExactMakeDocumentSpec : ChangeSpec := { name := "fnExactMakeDocument", fn := fun _ => fun
  | [d1, d2, d3] => { results := [.lit (.bool true)], args := [d1, d2, d3] }
  | _ => none }
def fnExactMakeDocumentRow : OpenClaim := { program := "ytmlkhgekacjidae", sum := "30375e9a588382dbc400825da756497584c66dd6ff19415b5e72ad3d11154e6e", func := "loop.example/g00597/laws.FnExactMakeDocument", spec := "fnExactMakeDocument", apart := false }
def FnExactMakeDocumentSaid : Prop := fnExactMakeDocumentRow.holds Try.pinned (OpenSpec.ofChange fnExactMakeDocumentSpec)

/-- ITS FALSE NEIGHBOUR: 'it returns false'. Refute it at one input. -/
def fnExactMakeDocumentWrong : ChangeSpec := { name := "fnExactMakeDocument", fn := fun _ => fun
  | [d1, d2, d3] => { results := [.lit (.bool false)], args := [d1, d2, d3] }
  | _ => none }
def FnExactMakeDocumentWrongFalsely : Prop := fnExactMakeDocumentRow.holds Try.pinned (OpenSpec.ofChange fnExactMakeDocumentWrong)

/-- 'laws.FnDocuments': WHATEVER THE INPUT: true; the input reads as it did. -/
def fnDocumentsSpec : ChangeSpec := { name := "fnDocuments", fn := fun _ => fun
  | [d] => { results := [.lit (.bool true)], args := [d] }
  | _ => none }
def fnDocumentsRow : OpenClaim := { program := "ytmlkhgekacjidae", sum := "30375e9a588382dbc400825da756497584c66dd6ff19415b5e72ad3d11154e6e", func := "loop.example/g00597/laws.FnDocuments", spec := "fnDocuments", apart := false }
def FnDocumentsSaid : Prop := fnDocumentsRow.holds Try.pinned (OpenSpec.ofChange fnDocumentsSpec)

/-- ITS FALSE NEIGHBOUR: 'it returns false'. Refute it at one input. -/
def fnDocumentsWrong : ChangeSpec := { name := "fnDocuments", fn := fun _ => fun
  | [d] => { results := [.lit (.bool false)], args := [d] }
  | _ => none }
def FnDocumentsWrongFalsely : Prop := fnDocumentsRow.holds Try.pinned (OpenSpec.ofChange fnDocumentsWrong)

/-- 'laws.FnExactIsRedacted': WHATEVER THE INPUT: true; the input reads as it did. -/
def fnExactIsRedactedSpec : ChangeSpec := { name := "fnExactIsRedacted", fn := fun _ => fun
  | [d] => { results := [.lit (.bool true)], args := [d] }
  | _ => none }
def fnExactIsRedactedRow : OpenClaim := { program := "ytmlkhgekacjidae", sum := "30375e9a588382dbc400825da756497584c66dd6ff19415b5e72ad3d11154e6e", func := "loop.example/g00597/laws.FnExactIsRedacted", spec := "fnExactIsRedacted", apart := false }
def FnExactIsRedactedSaid : Prop := fnExactIsRedactedRow.holds Try.pinned (OpenSpec.ofChange fnExactIsRedactedSpec)

/-- ITS FALSE NEIGHBOUR: 'it returns false'. Refute it at one input. -/
def fnExactIsRedactedWrong : ChangeSpec := { name := "fnExactIsRedacted", fn := fun _ => fun
  | [d] => { results := [.lit (.bool false)], args := [d] }
  | _ => none }
def FnExactIsRedactedWrongFalsely : Prop := fnExactIsRedactedRow.holds Try.pinned (OpenSpec.ofChange fnExactIsRedactedWrong)

/-- 'laws.FnExactRedactedDigest': WHATEVER THE INPUT: true; the input reads as it did. -/
def fnExactRedactedDigestSpec : ChangeSpec := { name := "fnExactRedactedDigest", fn := fun _ => fun
  | [d1, d2] => { results := [.lit (.bool true)], args := [d1, d2] }
  | _ => none }
def fnExactRedactedDigestRow : OpenClaim := { program := "ytmlkhgekacjidae", sum := "30375e9a588382dbc400825da756497584c66dd6ff19415b5e72ad3d11154e6e", func := "loop.example/g00597/laws.FnExactRedactedDigest", spec := "fnExactRedactedDigest", apart := false }
def FnExactRedactedDigestSaid : Prop := fnExactRedactedDigestRow.holds Try.pinned (OpenSpec.ofChange fnExactRedactedDigestSpec)

/-- ITS FALSE NEIGHBOUR: 'it returns false'. Refute it at one input. -/
def fnExactRedactedDigestWrong : ChangeSpec := { name := "fnExactRedactedDigest", fn := fun _ => fun
  | [d1, d2] => { results := [.lit (.bool false)], args := [d1, d2] }
  | _ => none }
def FnExactRedactedDigestWrongFalsely : Prop := fnExactRedactedDigestRow.holds Try.pinned (OpenSpec.ofChange fnExactRedactedDigestWrong)

/- THE SECOND FORM. 'bulk': how many values and letters a reading holds, each counted each time it is reached (what is shared counts as often as it is met; a slice's spare places count too). A statement '..UptoSaid' is the law's where the arguments, and the package variables that the reading takes, are together of bulk at most 1048576: NARROWER than '..Said'. Prove '..Said' where nothing that the law and all that it calls make is longer than what came in: it says more and counts as full. Else prove '..UptoSaid'. A law counts once. -/
mutual
def uptoBulk {H : Type} : DataW H → Nat
  | .lit (.string bytes) => bytes.length + 1
  | .lit _ => 1
  | .nil => 1
  | .ptr d => uptoBulk d + 1
  | .slice elems spare => uptoBulkAll elems + uptoBulkAll spare + 1
  | .agg parts => uptoBulkAll parts + 1
  | .iface _ d => uptoBulk d + 1
  | .map entries => uptoBulkEntries entries + 1
  | .held _ => 1
def uptoBulkAll {H : Type} : List (DataW H) → Nat
  | [] => 0
  | d :: r => uptoBulk d + uptoBulkAll r
def uptoBulkEntries {H : Type} : List (Lit × DataW H) → Nat
  | [] => 0
  | x :: r => uptoBulkEntry x + uptoBulkEntries r
def uptoBulkEntry {H : Type} : Lit × DataW H → Nat
  | (.string bytes, d) => bytes.length + uptoBulk d + 1
  | (_, d) => uptoBulk d + 1
 end
def uptoSmall : (H : Type) → List (DataW H) → Bool := fun _ ds => decide (uptoBulkAll ds ≤ 1048576)
def OpenSpec.upto (s : _root_.Go.ChangeSpec) : _root_.Go.OpenSpec := { _root_.Go.OpenSpec.ofChange s with cond := some uptoSmall }

/-- 'laws.FnIntegers', WHERE WHAT IT READS IS OF BULK AT MOST 1048576: true; the input reads as it did. -/
def fnIntegersUptoRow : OpenClaim := { program := "ytmlkhgekacjidae", sum := "30375e9a588382dbc400825da756497584c66dd6ff19415b5e72ad3d11154e6e", func := "loop.example/g00597/laws.FnIntegers", spec := "fnIntegers", apart := false, narrowed := true }
def FnIntegersUptoSaid : Prop := fnIntegersUptoRow.holds Try.pinned (OpenSpec.upto fnIntegersSpec)

/-- 'laws.FnVarints', WHERE WHAT IT READS IS OF BULK AT MOST 1048576: true; the input reads as it did. -/
def fnVarintsUptoRow : OpenClaim := { program := "ytmlkhgekacjidae", sum := "30375e9a588382dbc400825da756497584c66dd6ff19415b5e72ad3d11154e6e", func := "loop.example/g00597/laws.FnVarints", spec := "fnVarints", apart := false, narrowed := true }
def FnVarintsUptoSaid : Prop := fnVarintsUptoRow.holds Try.pinned (OpenSpec.upto fnVarintsSpec)

/-- 'laws.FnMethods', WHERE WHAT IT READS IS OF BULK AT MOST 1048576: true; the input reads as it did. -/
def fnMethodsUptoRow : OpenClaim := { program := "ytmlkhgekacjidae", sum := "30375e9a588382dbc400825da756497584c66dd6ff19415b5e72ad3d11154e6e", func := "loop.example/g00597/laws.FnMethods", spec := "fnMethods", apart := false, narrowed := true }
def FnMethodsUptoSaid : Prop := fnMethodsUptoRow.holds Try.pinned (OpenSpec.upto fnMethodsSpec)

/-- 'laws.FnExactMeetAll', WHERE WHAT IT READS IS OF BULK AT MOST 1048576: true; the input reads as it did. -/
def fnExactMeetAllUptoRow : OpenClaim := { program := "ytmlkhgekacjidae", sum := "30375e9a588382dbc400825da756497584c66dd6ff19415b5e72ad3d11154e6e", func := "loop.example/g00597/laws.FnExactMeetAll", spec := "fnExactMeetAll", apart := false, narrowed := true }
def FnExactMeetAllUptoSaid : Prop := fnExactMeetAllUptoRow.holds Try.pinned (OpenSpec.upto fnExactMeetAllSpec)

/-- 'laws.FnExactDocDigest', WHERE WHAT IT READS IS OF BULK AT MOST 1048576: true; the input reads as it did. -/
def fnExactDocDigestUptoRow : OpenClaim := { program := "ytmlkhgekacjidae", sum := "30375e9a588382dbc400825da756497584c66dd6ff19415b5e72ad3d11154e6e", func := "loop.example/g00597/laws.FnExactDocDigest", spec := "fnExactDocDigest", apart := false, narrowed := true }
def FnExactDocDigestUptoSaid : Prop := fnExactDocDigestUptoRow.holds Try.pinned (OpenSpec.upto fnExactDocDigestSpec)

/-- 'laws.FnExactCountShown', WHERE WHAT IT READS IS OF BULK AT MOST 1048576: true; the input reads as it did. -/
def fnExactCountShownUptoRow : OpenClaim := { program := "ytmlkhgekacjidae", sum := "30375e9a588382dbc400825da756497584c66dd6ff19415b5e72ad3d11154e6e", func := "loop.example/g00597/laws.FnExactCountShown", spec := "fnExactCountShown", apart := false, narrowed := true }
def FnExactCountShownUptoSaid : Prop := fnExactCountShownUptoRow.holds Try.pinned (OpenSpec.upto fnExactCountShownSpec)

/-- 'laws.FnSpans', WHERE WHAT IT READS IS OF BULK AT MOST 1048576: true; the input reads as it did. -/
def fnSpansUptoRow : OpenClaim := { program := "ytmlkhgekacjidae", sum := "30375e9a588382dbc400825da756497584c66dd6ff19415b5e72ad3d11154e6e", func := "loop.example/g00597/laws.FnSpans", spec := "fnSpans", apart := false, narrowed := true }
def FnSpansUptoSaid : Prop := fnSpansUptoRow.holds Try.pinned (OpenSpec.upto fnSpansSpec)

/-- 'laws.FnExactReplacePart', WHERE WHAT IT READS IS OF BULK AT MOST 1048576: true; the input reads as it did. -/
def fnExactReplacePartUptoRow : OpenClaim := { program := "ytmlkhgekacjidae", sum := "30375e9a588382dbc400825da756497584c66dd6ff19415b5e72ad3d11154e6e", func := "loop.example/g00597/laws.FnExactReplacePart", spec := "fnExactReplacePart", apart := false, narrowed := true }
def FnExactReplacePartUptoSaid : Prop := fnExactReplacePartUptoRow.holds Try.pinned (OpenSpec.upto fnExactReplacePartSpec)

/-- 'laws.FnExactMakeDocument', WHERE WHAT IT READS IS OF BULK AT MOST 1048576: true; the input reads as it did. -/
def fnExactMakeDocumentUptoRow : OpenClaim := { program := "ytmlkhgekacjidae", sum := "30375e9a588382dbc400825da756497584c66dd6ff19415b5e72ad3d11154e6e", func := "loop.example/g00597/laws.FnExactMakeDocument", spec := "fnExactMakeDocument", apart := false, narrowed := true }
def FnExactMakeDocumentUptoSaid : Prop := fnExactMakeDocumentUptoRow.holds Try.pinned (OpenSpec.upto fnExactMakeDocumentSpec)

/-- 'laws.FnDocuments', WHERE WHAT IT READS IS OF BULK AT MOST 1048576: true; the input reads as it did. -/
def fnDocumentsUptoRow : OpenClaim := { program := "ytmlkhgekacjidae", sum := "30375e9a588382dbc400825da756497584c66dd6ff19415b5e72ad3d11154e6e", func := "loop.example/g00597/laws.FnDocuments", spec := "fnDocuments", apart := false, narrowed := true }
def FnDocumentsUptoSaid : Prop := fnDocumentsUptoRow.holds Try.pinned (OpenSpec.upto fnDocumentsSpec)

/-- 'laws.FnExactIsRedacted', WHERE WHAT IT READS IS OF BULK AT MOST 1048576: true; the input reads as it did. -/
def fnExactIsRedactedUptoRow : OpenClaim := { program := "ytmlkhgekacjidae", sum := "30375e9a588382dbc400825da756497584c66dd6ff19415b5e72ad3d11154e6e", func := "loop.example/g00597/laws.FnExactIsRedacted", spec := "fnExactIsRedacted", apart := false, narrowed := true }
def FnExactIsRedactedUptoSaid : Prop := fnExactIsRedactedUptoRow.holds Try.pinned (OpenSpec.upto fnExactIsRedactedSpec)

/-- 'laws.FnExactRedactedDigest', WHERE WHAT IT READS IS OF BULK AT MOST 1048576: true; the input reads as it did. -/
def fnExactRedactedDigestUptoRow : OpenClaim := { program := "ytmlkhgekacjidae", sum := "30375e9a588382dbc400825da756497584c66dd6ff19415b5e72ad3d11154e6e", func := "loop.example/g00597/laws.FnExactRedactedDigest", spec := "fnExactRedactedDigest", apart := false, narrowed := true }
def FnExactRedactedDigestUptoSaid : Prop := fnExactRedactedDigestUptoRow.holds Try.pinned (OpenSpec.upto fnExactRedactedDigestSpec)

end Rows
end Go.Proofs.Ytmlkhgekacjidae
