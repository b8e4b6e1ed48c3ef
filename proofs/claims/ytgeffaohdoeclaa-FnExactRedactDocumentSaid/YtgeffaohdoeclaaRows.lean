/-
  No cell of these rows narrows 'for every input' (looked for: loops, veiled, ifaces, maps, wideKeys, modest, calm, conditions, laid).
  DERIVED. THE GIVEN ROWS OF THIS SEAT. 10 by the template 'for every input the law returns true; each argument reads behind the call as it read before'; 0 by the template 'total and deterministic' (their statements: YtgeffaohdoeclaaTotals.lean).
  GIVEN WITH THE SEED: the statements are not yours to turn. If you find one false, say at which input.
  Laid BY PROGRAM, IN A SANDBOX (cutbox-rows.mjs): the forced cells as the released guide's own fill.sh prints them over the translation d9cb1b1b141fabea… (all of the seat's roots in one cut). By AI agents, Wed Nov 11 2026. No macro, syntax, notation, axiom, sorry.
-/
import Derived.Test.YtgeffaohdoeclaaChecked
import GoSem.Claim
import GoSem.ClaimJoined
import GoSem.ClaimMapViews
import Derived.JoinedTies
import Derived.KernelRfl
namespace Go.Proofs.Ytgeffaohdoeclaa
/- THE CELL 'sum', in the pinned program and in every row, IS THE sha256 OF THE DUMP (.gsa) THAT YtgeffaohdoeclaaProg.lean LOADS. Nothing in Lean hashes anything: it is a label: what it is worth is what the hold of that sum in a sandbox is worth. -/
noncomputable def Try.pinned : Pinned := { name := "ytgeffaohdoeclaa", sum := "d9cb1b1b141fabea0b98ac148374f392380d0cfc71b57c0900e506ca23cb68bd", checked := Try.checked }
namespace Rows
def none {H : Type} : Left H := { results := [], args := [] }

/-- 'laws.FnRedactions': WHATEVER THE INPUT: true; the input reads as it did. -/
def fnRedactionsSpec : ChangeSpec := { name := "fnRedactions", fn := fun _ => fun
  | [d] => { results := [.lit (.bool true)], args := [d] }
  | _ => none }
def fnRedactionsRow : OpenClaim := { program := "ytgeffaohdoeclaa", sum := "d9cb1b1b141fabea0b98ac148374f392380d0cfc71b57c0900e506ca23cb68bd", func := "loop.example/g00597/laws.FnRedactions", spec := "fnRedactions", apart := false }
def FnRedactionsSaid : Prop := fnRedactionsRow.holds Try.pinned (OpenSpec.ofChange fnRedactionsSpec)

/-- ITS FALSE NEIGHBOUR: 'it returns false'. Refute it at one input. -/
def fnRedactionsWrong : ChangeSpec := { name := "fnRedactions", fn := fun _ => fun
  | [d] => { results := [.lit (.bool false)], args := [d] }
  | _ => none }
def FnRedactionsWrongFalsely : Prop := fnRedactionsRow.holds Try.pinned (OpenSpec.ofChange fnRedactionsWrong)

/-- 'laws.FnExactRedactDocument': WHATEVER THE INPUT: true; the input reads as it did. -/
def fnExactRedactDocumentSpec : ChangeSpec := { name := "fnExactRedactDocument", fn := fun _ => fun
  | [d1, d2, d3] => { results := [.lit (.bool true)], args := [d1, d2, d3] }
  | _ => none }
def fnExactRedactDocumentRow : OpenClaim := { program := "ytgeffaohdoeclaa", sum := "d9cb1b1b141fabea0b98ac148374f392380d0cfc71b57c0900e506ca23cb68bd", func := "loop.example/g00597/laws.FnExactRedactDocument", spec := "fnExactRedactDocument", apart := false }
def FnExactRedactDocumentSaid : Prop := fnExactRedactDocumentRow.holds Try.pinned (OpenSpec.ofChange fnExactRedactDocumentSpec)

/-- ITS FALSE NEIGHBOUR: 'it returns false'. Refute it at one input. -/
def fnExactRedactDocumentWrong : ChangeSpec := { name := "fnExactRedactDocument", fn := fun _ => fun
  | [d1, d2, d3] => { results := [.lit (.bool false)], args := [d1, d2, d3] }
  | _ => none }
def FnExactRedactDocumentWrongFalsely : Prop := fnExactRedactDocumentRow.holds Try.pinned (OpenSpec.ofChange fnExactRedactDocumentWrong)

/-- 'laws.FnExactIsRedactionOf': WHATEVER THE INPUT: true; the input reads as it did. -/
def fnExactIsRedactionOfSpec : ChangeSpec := { name := "fnExactIsRedactionOf", fn := fun _ => fun
  | [d1, d2] => { results := [.lit (.bool true)], args := [d1, d2] }
  | _ => none }
def fnExactIsRedactionOfRow : OpenClaim := { program := "ytgeffaohdoeclaa", sum := "d9cb1b1b141fabea0b98ac148374f392380d0cfc71b57c0900e506ca23cb68bd", func := "loop.example/g00597/laws.FnExactIsRedactionOf", spec := "fnExactIsRedactionOf", apart := false }
def FnExactIsRedactionOfSaid : Prop := fnExactIsRedactionOfRow.holds Try.pinned (OpenSpec.ofChange fnExactIsRedactionOfSpec)

/-- ITS FALSE NEIGHBOUR: 'it returns false'. Refute it at one input. -/
def fnExactIsRedactionOfWrong : ChangeSpec := { name := "fnExactIsRedactionOf", fn := fun _ => fun
  | [d1, d2] => { results := [.lit (.bool false)], args := [d1, d2] }
  | _ => none }
def FnExactIsRedactionOfWrongFalsely : Prop := fnExactIsRedactionOfRow.holds Try.pinned (OpenSpec.ofChange fnExactIsRedactionOfWrong)

/-- 'laws.FnExactCountShown': WHATEVER THE INPUT: true; the input reads as it did. -/
def fnExactCountShownSpec : ChangeSpec := { name := "fnExactCountShown", fn := fun _ => fun
  | [d] => { results := [.lit (.bool true)], args := [d] }
  | _ => none }
def fnExactCountShownRow : OpenClaim := { program := "ytgeffaohdoeclaa", sum := "d9cb1b1b141fabea0b98ac148374f392380d0cfc71b57c0900e506ca23cb68bd", func := "loop.example/g00597/laws.FnExactCountShown", spec := "fnExactCountShown", apart := false }
def FnExactCountShownSaid : Prop := fnExactCountShownRow.holds Try.pinned (OpenSpec.ofChange fnExactCountShownSpec)

/-- ITS FALSE NEIGHBOUR: 'it returns false'. Refute it at one input. -/
def fnExactCountShownWrong : ChangeSpec := { name := "fnExactCountShown", fn := fun _ => fun
  | [d] => { results := [.lit (.bool false)], args := [d] }
  | _ => none }
def FnExactCountShownWrongFalsely : Prop := fnExactCountShownRow.holds Try.pinned (OpenSpec.ofChange fnExactCountShownWrong)

/-- 'laws.FnSpans': WHATEVER THE INPUT: true; the input reads as it did. -/
def fnSpansSpec : ChangeSpec := { name := "fnSpans", fn := fun _ => fun
  | [d] => { results := [.lit (.bool true)], args := [d] }
  | _ => none }
def fnSpansRow : OpenClaim := { program := "ytgeffaohdoeclaa", sum := "d9cb1b1b141fabea0b98ac148374f392380d0cfc71b57c0900e506ca23cb68bd", func := "loop.example/g00597/laws.FnSpans", spec := "fnSpans", apart := false }
def FnSpansSaid : Prop := fnSpansRow.holds Try.pinned (OpenSpec.ofChange fnSpansSpec)

/-- ITS FALSE NEIGHBOUR: 'it returns false'. Refute it at one input. -/
def fnSpansWrong : ChangeSpec := { name := "fnSpans", fn := fun _ => fun
  | [d] => { results := [.lit (.bool false)], args := [d] }
  | _ => none }
def FnSpansWrongFalsely : Prop := fnSpansRow.holds Try.pinned (OpenSpec.ofChange fnSpansWrong)

/-- 'laws.FnExactReplacePart': WHATEVER THE INPUT: true; the input reads as it did. -/
def fnExactReplacePartSpec : ChangeSpec := { name := "fnExactReplacePart", fn := fun _ => fun
  | [d1, d2, d3] => { results := [.lit (.bool true)], args := [d1, d2, d3] }
  | _ => none }
def fnExactReplacePartRow : OpenClaim := { program := "ytgeffaohdoeclaa", sum := "d9cb1b1b141fabea0b98ac148374f392380d0cfc71b57c0900e506ca23cb68bd", func := "loop.example/g00597/laws.FnExactReplacePart", spec := "fnExactReplacePart", apart := false }
def FnExactReplacePartSaid : Prop := fnExactReplacePartRow.holds Try.pinned (OpenSpec.ofChange fnExactReplacePartSpec)

/-- ITS FALSE NEIGHBOUR: 'it returns false'. Refute it at one input. -/
def fnExactReplacePartWrong : ChangeSpec := { name := "fnExactReplacePart", fn := fun _ => fun
  | [d1, d2, d3] => { results := [.lit (.bool false)], args := [d1, d2, d3] }
  | _ => none }
def FnExactReplacePartWrongFalsely : Prop := fnExactReplacePartRow.holds Try.pinned (OpenSpec.ofChange fnExactReplacePartWrong)

/-- 'laws.FnExactMakeDocument': WHATEVER THE INPUT: true; the input reads as it did. -/
def fnExactMakeDocumentSpec : ChangeSpec := { name := "fnExactMakeDocument", fn := fun _ => fun
  | [d1, d2, d3] => { results := [.lit (.bool true)], args := [d1, d2, d3] }
  | _ => none }
def fnExactMakeDocumentRow : OpenClaim := { program := "ytgeffaohdoeclaa", sum := "d9cb1b1b141fabea0b98ac148374f392380d0cfc71b57c0900e506ca23cb68bd", func := "loop.example/g00597/laws.FnExactMakeDocument", spec := "fnExactMakeDocument", apart := false }
def FnExactMakeDocumentSaid : Prop := fnExactMakeDocumentRow.holds Try.pinned (OpenSpec.ofChange fnExactMakeDocumentSpec)

/-- ITS FALSE NEIGHBOUR: 'it returns false'. Refute it at one input. -/
def fnExactMakeDocumentWrong : ChangeSpec := { name := "fnExactMakeDocument", fn := fun _ => fun
  | [d1, d2, d3] => { results := [.lit (.bool false)], args := [d1, d2, d3] }
  | _ => none }
def FnExactMakeDocumentWrongFalsely : Prop := fnExactMakeDocumentRow.holds Try.pinned (OpenSpec.ofChange fnExactMakeDocumentWrong)

/-- 'laws.FnDocuments': WHATEVER THE INPUT: true; the input reads as it did. -/
def fnDocumentsSpec : ChangeSpec := { name := "fnDocuments", fn := fun _ => fun
  | [d] => { results := [.lit (.bool true)], args := [d] }
  | _ => none }
def fnDocumentsRow : OpenClaim := { program := "ytgeffaohdoeclaa", sum := "d9cb1b1b141fabea0b98ac148374f392380d0cfc71b57c0900e506ca23cb68bd", func := "loop.example/g00597/laws.FnDocuments", spec := "fnDocuments", apart := false }
def FnDocumentsSaid : Prop := fnDocumentsRow.holds Try.pinned (OpenSpec.ofChange fnDocumentsSpec)

/-- ITS FALSE NEIGHBOUR: 'it returns false'. Refute it at one input. -/
def fnDocumentsWrong : ChangeSpec := { name := "fnDocuments", fn := fun _ => fun
  | [d] => { results := [.lit (.bool false)], args := [d] }
  | _ => none }
def FnDocumentsWrongFalsely : Prop := fnDocumentsRow.holds Try.pinned (OpenSpec.ofChange fnDocumentsWrong)

/-- 'laws.FnExactIsRedacted': WHATEVER THE INPUT: true; the input reads as it did. -/
def fnExactIsRedactedSpec : ChangeSpec := { name := "fnExactIsRedacted", fn := fun _ => fun
  | [d] => { results := [.lit (.bool true)], args := [d] }
  | _ => none }
def fnExactIsRedactedRow : OpenClaim := { program := "ytgeffaohdoeclaa", sum := "d9cb1b1b141fabea0b98ac148374f392380d0cfc71b57c0900e506ca23cb68bd", func := "loop.example/g00597/laws.FnExactIsRedacted", spec := "fnExactIsRedacted", apart := false }
def FnExactIsRedactedSaid : Prop := fnExactIsRedactedRow.holds Try.pinned (OpenSpec.ofChange fnExactIsRedactedSpec)

/-- ITS FALSE NEIGHBOUR: 'it returns false'. Refute it at one input. -/
def fnExactIsRedactedWrong : ChangeSpec := { name := "fnExactIsRedacted", fn := fun _ => fun
  | [d] => { results := [.lit (.bool false)], args := [d] }
  | _ => none }
def FnExactIsRedactedWrongFalsely : Prop := fnExactIsRedactedRow.holds Try.pinned (OpenSpec.ofChange fnExactIsRedactedWrong)

/-- 'laws.FnExactRedactedDigest': WHATEVER THE INPUT: true; the input reads as it did. -/
def fnExactRedactedDigestSpec : ChangeSpec := { name := "fnExactRedactedDigest", fn := fun _ => fun
  | [d1, d2] => { results := [.lit (.bool true)], args := [d1, d2] }
  | _ => none }
def fnExactRedactedDigestRow : OpenClaim := { program := "ytgeffaohdoeclaa", sum := "d9cb1b1b141fabea0b98ac148374f392380d0cfc71b57c0900e506ca23cb68bd", func := "loop.example/g00597/laws.FnExactRedactedDigest", spec := "fnExactRedactedDigest", apart := false }
def FnExactRedactedDigestSaid : Prop := fnExactRedactedDigestRow.holds Try.pinned (OpenSpec.ofChange fnExactRedactedDigestSpec)

/-- ITS FALSE NEIGHBOUR: 'it returns false'. Refute it at one input. -/
def fnExactRedactedDigestWrong : ChangeSpec := { name := "fnExactRedactedDigest", fn := fun _ => fun
  | [d1, d2] => { results := [.lit (.bool false)], args := [d1, d2] }
  | _ => none }
def FnExactRedactedDigestWrongFalsely : Prop := fnExactRedactedDigestRow.holds Try.pinned (OpenSpec.ofChange fnExactRedactedDigestWrong)

/- THE SECOND FORM. 'bulk': how many values and letters a reading holds, each counted each time it is reached (what is shared counts as often as it is met; a slice's spare places count too). A statement '..UptoSaid' is the law's where the arguments, and the package variables that the reading takes, are together of bulk at most 1048576: NARROWER than '..Said'. Prove '..Said' where nothing that the law and all that it calls make is longer than what came in: it says more and counts as full. Else prove '..UptoSaid'. A law counts once. -/
mutual
def uptoBulk {H : Type} : DataW H → Nat
  | .lit (.string bytes) => bytes.length + 1
  | .lit _ => 1
  | .nil => 1
  | .ptr d => uptoBulk d + 1
  | .slice elems spare => uptoBulkAll elems + uptoBulkAll spare + 1
  | .agg parts => uptoBulkAll parts + 1
  | .iface _ d => uptoBulk d + 1
  | .map entries => uptoBulkEntries entries + 1
  | .held _ => 1
def uptoBulkAll {H : Type} : List (DataW H) → Nat
  | [] => 0
  | d :: r => uptoBulk d + uptoBulkAll r
def uptoBulkEntries {H : Type} : List (Lit × DataW H) → Nat
  | [] => 0
  | x :: r => uptoBulkEntry x + uptoBulkEntries r
def uptoBulkEntry {H : Type} : Lit × DataW H → Nat
  | (.string bytes, d) => bytes.length + uptoBulk d + 1
  | (_, d) => uptoBulk d + 1
 end
def uptoSmall : (H : Type) → List (DataW H) → Bool := fun _ ds => decide (uptoBulkAll ds ≤ 1048576)
def OpenSpec.upto (s : _root_.Go.ChangeSpec) : _root_.Go.OpenSpec := { _root_.Go.OpenSpec.ofChange s with cond := some uptoSmall }

/-- 'laws.FnRedactions', WHERE WHAT IT READS IS OF BULK AT MOST 1048576: true; the input reads as it did. -/
def fnRedactionsUptoRow : OpenClaim := { program := "ytgeffaohdoeclaa", sum := "d9cb1b1b141fabea0b98ac148374f392380d0cfc71b57c0900e506ca23cb68bd", func := "loop.example/g00597/laws.FnRedactions", spec := "fnRedactions", apart := false, narrowed := true }
def FnRedactionsUptoSaid : Prop := fnRedactionsUptoRow.holds Try.pinned (OpenSpec.upto fnRedactionsSpec)

/-- 'laws.FnExactRedactDocument', WHERE WHAT IT READS IS OF BULK AT MOST 1048576: true; the input reads as it did. -/
def fnExactRedactDocumentUptoRow : OpenClaim := { program := "ytgeffaohdoeclaa", sum := "d9cb1b1b141fabea0b98ac148374f392380d0cfc71b57c0900e506ca23cb68bd", func := "loop.example/g00597/laws.FnExactRedactDocument", spec := "fnExactRedactDocument", apart := false, narrowed := true }
def FnExactRedactDocumentUptoSaid : Prop := fnExactRedactDocumentUptoRow.holds Try.pinned (OpenSpec.upto fnExactRedactDocumentSpec)

/-- 'laws.FnExactIsRedactionOf', WHERE WHAT IT READS IS OF BULK AT MOST 1048576: true; the input reads as it did. -/
def fnExactIsRedactionOfUptoRow : OpenClaim := { program := "ytgeffaohdoeclaa", sum := "d9cb1b1b141fabea0b98ac148374f392380d0cfc71b57c0900e506ca23cb68bd", func := "loop.example/g00597/laws.FnExactIsRedactionOf", spec := "fnExactIsRedactionOf", apart := false, narrowed := true }
def FnExactIsRedactionOfUptoSaid : Prop := fnExactIsRedactionOfUptoRow.holds Try.pinned (OpenSpec.upto fnExactIsRedactionOfSpec)

/-- 'laws.FnExactCountShown', WHERE WHAT IT READS IS OF BULK AT MOST 1048576: true; the input reads as it did. -/
def fnExactCountShownUptoRow : OpenClaim := { program := "ytgeffaohdoeclaa", sum := "d9cb1b1b141fabea0b98ac148374f392380d0cfc71b57c0900e506ca23cb68bd", func := "loop.example/g00597/laws.FnExactCountShown", spec := "fnExactCountShown", apart := false, narrowed := true }
def FnExactCountShownUptoSaid : Prop := fnExactCountShownUptoRow.holds Try.pinned (OpenSpec.upto fnExactCountShownSpec)

/-- 'laws.FnSpans', WHERE WHAT IT READS IS OF BULK AT MOST 1048576: true; the input reads as it did. -/
def fnSpansUptoRow : OpenClaim := { program := "ytgeffaohdoeclaa", sum := "d9cb1b1b141fabea0b98ac148374f392380d0cfc71b57c0900e506ca23cb68bd", func := "loop.example/g00597/laws.FnSpans", spec := "fnSpans", apart := false, narrowed := true }
def FnSpansUptoSaid : Prop := fnSpansUptoRow.holds Try.pinned (OpenSpec.upto fnSpansSpec)

/-- 'laws.FnExactReplacePart', WHERE WHAT IT READS IS OF BULK AT MOST 1048576: true; the input reads as it did. -/
def fnExactReplacePartUptoRow : OpenClaim := { program := "ytgeffaohdoeclaa", sum := "d9cb1b1b141fabea0b98ac148374f392380d0cfc71b57c0900e506ca23cb68bd", func := "loop.example/g00597/laws.FnExactReplacePart", spec := "fnExactReplacePart", apart := false, narrowed := true }
def FnExactReplacePartUptoSaid : Prop := fnExactReplacePartUptoRow.holds Try.pinned (OpenSpec.upto fnExactReplacePartSpec)

/-- 'laws.FnExactMakeDocument', WHERE WHAT IT READS IS OF BULK AT MOST 1048576: true; the input reads as it did. -/
def fnExactMakeDocumentUptoRow : OpenClaim := { program := "ytgeffaohdoeclaa", sum := "d9cb1b1b141fabea0b98ac148374f392380d0cfc71b57c0900e506ca23cb68bd", func := "loop.example/g00597/laws.FnExactMakeDocument", spec := "fnExactMakeDocument", apart := false, narrowed := true }
def FnExactMakeDocumentUptoSaid : Prop := fnExactMakeDocumentUptoRow.holds Try.pinned (OpenSpec.upto fnExactMakeDocumentSpec)

/-- 'laws.FnDocuments', WHERE WHAT IT READS IS OF BULK AT MOST 1048576: true; the input reads as it did. -/
def fnDocumentsUptoRow : OpenClaim := { program := "ytgeffaohdoeclaa", sum := "d9cb1b1b141fabea0b98ac148374f392380d0cfc71b57c0900e506ca23cb68bd", func := "loop.example/g00597/laws.FnDocuments", spec := "fnDocuments", apart := false, narrowed := true }
def FnDocumentsUptoSaid : Prop := fnDocumentsUptoRow.holds Try.pinned (OpenSpec.upto fnDocumentsSpec)

/-- 'laws.FnExactIsRedacted', WHERE WHAT IT READS IS OF BULK AT MOST 1048576: true; the input reads as it did. -/
def fnExactIsRedactedUptoRow : OpenClaim := { program := "ytgeffaohdoeclaa", sum := "d9cb1b1b141fabea0b98ac148374f392380d0cfc71b57c0900e506ca23cb68bd", func := "loop.example/g00597/laws.FnExactIsRedacted", spec := "fnExactIsRedacted", apart := false, narrowed := true }
def FnExactIsRedactedUptoSaid : Prop := fnExactIsRedactedUptoRow.holds Try.pinned (OpenSpec.upto fnExactIsRedactedSpec)

/-- 'laws.FnExactRedactedDigest', WHERE WHAT IT READS IS OF BULK AT MOST 1048576: true; the input reads as it did. -/
def fnExactRedactedDigestUptoRow : OpenClaim := { program := "ytgeffaohdoeclaa", sum := "d9cb1b1b141fabea0b98ac148374f392380d0cfc71b57c0900e506ca23cb68bd", func := "loop.example/g00597/laws.FnExactRedactedDigest", spec := "fnExactRedactedDigest", apart := false, narrowed := true }
def FnExactRedactedDigestUptoSaid : Prop := fnExactRedactedDigestUptoRow.holds Try.pinned (OpenSpec.upto fnExactRedactedDigestSpec)

end Rows
end Go.Proofs.Ytgeffaohdoeclaa
