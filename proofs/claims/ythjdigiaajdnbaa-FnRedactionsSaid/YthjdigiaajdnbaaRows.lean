/-
  No cell of these rows narrows 'for every input' (looked for: loops, veiled, ifaces, maps, wideKeys, modest, calm, conditions, laid).
  DERIVED. THE GIVEN ROWS OF THIS SEAT. 3 by the template 'for every input the law returns true; each argument reads behind the call as it read before'; 0 by the template 'total and deterministic' (their statements: YthjdigiaajdnbaaTotals.lean).
  GIVEN WITH THE SEED: the statements are not yours to turn. If you find one false, say at which input.
  Laid BY PROGRAM, IN A SANDBOX (cutbox-rows.mjs): the forced cells as the released guide's own fill.sh prints them over the translation 5fbd8c8d4de4ce62… (all of the seat's roots in one cut). By AI agents, Wed Nov 11 2026. No macro, syntax, notation, axiom, sorry.
-/
import Derived.Test.YthjdigiaajdnbaaChecked
import GoSem.Claim
import GoSem.ClaimJoined
import GoSem.ClaimMapViews
import Derived.JoinedTies
import Derived.KernelRfl
namespace Go.Proofs.Ythjdigiaajdnbaa
/- THE CELL 'sum', in the pinned program and in every row, IS THE sha256 OF THE DUMP (.gsa) THAT YthjdigiaajdnbaaProg.lean LOADS. Nothing in Lean hashes anything: it is a label: what it is worth is what the hold of that sum in a sandbox is worth. -/
noncomputable def Try.pinned : Pinned := { name := "ythjdigiaajdnbaa", sum := "5fbd8c8d4de4ce628c64647f2b896ecf5efad3ed4f2b0ef523aa24bcced257a9", checked := Try.checked }
namespace Rows
def none {H : Type} : Left H := { results := [], args := [] }

/-- 'laws.FnRedactions': WHATEVER THE INPUT: true; the input reads as it did. -/
def fnRedactionsSpec : ChangeSpec := { name := "fnRedactions", fn := fun _ => fun
  | [d] => { results := [.lit (.bool true)], args := [d] }
  | _ => none }
def fnRedactionsRow : OpenClaim := { program := "ythjdigiaajdnbaa", sum := "5fbd8c8d4de4ce628c64647f2b896ecf5efad3ed4f2b0ef523aa24bcced257a9", func := "loop.example/g00597/laws.FnRedactions", spec := "fnRedactions", apart := false }
def FnRedactionsSaid : Prop := fnRedactionsRow.holds Try.pinned (OpenSpec.ofChange fnRedactionsSpec)

/-- ITS FALSE NEIGHBOUR: 'it returns false'. Refute it at one input. -/
def fnRedactionsWrong : ChangeSpec := { name := "fnRedactions", fn := fun _ => fun
  | [d] => { results := [.lit (.bool false)], args := [d] }
  | _ => none }
def FnRedactionsWrongFalsely : Prop := fnRedactionsRow.holds Try.pinned (OpenSpec.ofChange fnRedactionsWrong)

/-- 'laws.FnExactIsRedactionOf': WHATEVER THE INPUT: true; the input reads as it did. -/
def fnExactIsRedactionOfSpec : ChangeSpec := { name := "fnExactIsRedactionOf", fn := fun _ => fun
  | [d1, d2] => { results := [.lit (.bool true)], args := [d1, d2] }
  | _ => none }
def fnExactIsRedactionOfRow : OpenClaim := { program := "ythjdigiaajdnbaa", sum := "5fbd8c8d4de4ce628c64647f2b896ecf5efad3ed4f2b0ef523aa24bcced257a9", func := "loop.example/g00597/laws.FnExactIsRedactionOf", spec := "fnExactIsRedactionOf", apart := false }
def FnExactIsRedactionOfSaid : Prop := fnExactIsRedactionOfRow.holds Try.pinned (OpenSpec.ofChange fnExactIsRedactionOfSpec)

/-- ITS FALSE NEIGHBOUR: 'it returns false'. Refute it at one input. -/
def fnExactIsRedactionOfWrong : ChangeSpec := { name := "fnExactIsRedactionOf", fn := fun _ => fun
  | [d1, d2] => { results := [.lit (.bool false)], args := [d1, d2] }
  | _ => none }
def FnExactIsRedactionOfWrongFalsely : Prop := fnExactIsRedactionOfRow.holds Try.pinned (OpenSpec.ofChange fnExactIsRedactionOfWrong)

/-- 'laws.FnDocuments': WHATEVER THE INPUT: true; the input reads as it did. -/
def fnDocumentsSpec : ChangeSpec := { name := "fnDocuments", fn := fun _ => fun
  | [d] => { results := [.lit (.bool true)], args := [d] }
  | _ => none }
def fnDocumentsRow : OpenClaim := { program := "ythjdigiaajdnbaa", sum := "5fbd8c8d4de4ce628c64647f2b896ecf5efad3ed4f2b0ef523aa24bcced257a9", func := "loop.example/g00597/laws.FnDocuments", spec := "fnDocuments", apart := false }
def FnDocumentsSaid : Prop := fnDocumentsRow.holds Try.pinned (OpenSpec.ofChange fnDocumentsSpec)

/-- ITS FALSE NEIGHBOUR: 'it returns false'. Refute it at one input. -/
def fnDocumentsWrong : ChangeSpec := { name := "fnDocuments", fn := fun _ => fun
  | [d] => { results := [.lit (.bool false)], args := [d] }
  | _ => none }
def FnDocumentsWrongFalsely : Prop := fnDocumentsRow.holds Try.pinned (OpenSpec.ofChange fnDocumentsWrong)

/- THE SECOND FORM. 'bulk': how many values and letters a reading holds, each counted each time it is reached (what is shared counts as often as it is met; a slice's spare places count too). A statement '..UptoSaid' is the law's where the arguments, and the package variables that the reading takes, are together of bulk at most 1048576: NARROWER than '..Said'. Prove '..Said' where nothing that the law and all that it calls make is longer than what came in: it says more and counts as full. Else prove '..UptoSaid'. A law counts once. -/
mutual
def uptoBulk {H : Type} : DataW H → Nat
  | .lit (.string bytes) => bytes.length + 1
  | .lit _ => 1
  | .nil => 1
  | .ptr d => uptoBulk d + 1
  | .slice elems spare => uptoBulkAll elems + uptoBulkAll spare + 1
  | .agg parts => uptoBulkAll parts + 1
  | .iface _ d => uptoBulk d + 1
  | .map entries => uptoBulkEntries entries + 1
  | .held _ => 1
def uptoBulkAll {H : Type} : List (DataW H) → Nat
  | [] => 0
  | d :: r => uptoBulk d + uptoBulkAll r
def uptoBulkEntries {H : Type} : List (Lit × DataW H) → Nat
  | [] => 0
  | x :: r => uptoBulkEntry x + uptoBulkEntries r
def uptoBulkEntry {H : Type} : Lit × DataW H → Nat
  | (.string bytes, d) => bytes.length + uptoBulk d + 1
  | (_, d) => uptoBulk d + 1
 end
def uptoSmall : (H : Type) → List (DataW H) → Bool := fun _ ds => decide (uptoBulkAll ds ≤ 1048576)
def OpenSpec.upto (s : _root_.Go.ChangeSpec) : _root_.Go.OpenSpec := { _root_.Go.OpenSpec.ofChange s with cond := some uptoSmall }

/-- 'laws.FnRedactions', WHERE WHAT IT READS IS OF BULK AT MOST 1048576: true; the input reads as it did. -/
def fnRedactionsUptoRow : OpenClaim := { program := "ythjdigiaajdnbaa", sum := "5fbd8c8d4de4ce628c64647f2b896ecf5efad3ed4f2b0ef523aa24bcced257a9", func := "loop.example/g00597/laws.FnRedactions", spec := "fnRedactions", apart := false, narrowed := true }
def FnRedactionsUptoSaid : Prop := fnRedactionsUptoRow.holds Try.pinned (OpenSpec.upto fnRedactionsSpec)

/-- 'laws.FnExactIsRedactionOf', WHERE WHAT IT READS IS OF BULK AT MOST 1048576: true; the input reads as it did. -/
def fnExactIsRedactionOfUptoRow : OpenClaim := { program := "ythjdigiaajdnbaa", sum := "5fbd8c8d4de4ce628c64647f2b896ecf5efad3ed4f2b0ef523aa24bcced257a9", func := "loop.example/g00597/laws.FnExactIsRedactionOf", spec := "fnExactIsRedactionOf", apart := false, narrowed := true }
def FnExactIsRedactionOfUptoSaid : Prop := fnExactIsRedactionOfUptoRow.holds Try.pinned (OpenSpec.upto fnExactIsRedactionOfSpec)

/-- 'laws.FnDocuments', WHERE WHAT IT READS IS OF BULK AT MOST 1048576: true; the input reads as it did. -/
def fnDocumentsUptoRow : OpenClaim := { program := "ythjdigiaajdnbaa", sum := "5fbd8c8d4de4ce628c64647f2b896ecf5efad3ed4f2b0ef523aa24bcced257a9", func := "loop.example/g00597/laws.FnDocuments", spec := "fnDocuments", apart := false, narrowed := true }
def FnDocumentsUptoSaid : Prop := fnDocumentsUptoRow.holds Try.pinned (OpenSpec.upto fnDocumentsSpec)

end Rows
end Go.Proofs.Ythjdigiaajdnbaa
