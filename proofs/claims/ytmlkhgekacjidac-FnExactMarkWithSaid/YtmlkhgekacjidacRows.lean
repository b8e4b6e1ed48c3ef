/-
  No cell of these rows narrows 'for every input' (looked for: loops, veiled, ifaces, maps, wideKeys, modest, calm, conditions, laid).
  DERIVED. THE GIVEN ROWS OF THIS SEAT. 12 by the template 'for every input the law returns true; each argument reads behind the call as it read before'; 0 by the template 'total and deterministic' (their statements: YtmlkhgekacjidacTotals.lean).
  GIVEN WITH THE SEED: the statements are not yours to turn. If you find one false, say at which input.
  Laid BY PROGRAM, IN A SANDBOX (cutbox-rows.mjs): the forced cells as the released guide's own fill.sh prints them over the translation 8d8f245fd8eeeed0… (all of the seat's roots in one cut). By AI agents, Wed Nov 11 2026. No macro, syntax, notation, axiom, sorry.
-/
import Derived.Test.YtmlkhgekacjidacChecked
import GoSem.Claim
import GoSem.ClaimJoined
import GoSem.ClaimMapViews
import Derived.JoinedTies
import Derived.KernelRfl
namespace Go.Proofs.Ytmlkhgekacjidac
/- THE CELL 'sum', in the pinned program and in every row, IS THE sha256 OF THE DUMP (.gsa) THAT YtmlkhgekacjidacProg.lean LOADS. Nothing in Lean hashes anything: it is a label: what it is worth is what the hold of that sum in a sandbox is worth. -/
noncomputable def Try.pinned : Pinned := { name := "ytmlkhgekacjidac", sum := "8d8f245fd8eeeed076f557bff4e91ec3fdc5c50073a4f13964188b8cb842100c", checked := Try.checked }
namespace Rows
def none {H : Type} : Left H := { results := [], args := [] }

/-- 'laws.FnExactAppendUvarint': WHATEVER THE INPUT: true; the input reads as it did. -/
def fnExactAppendUvarintSpec : ChangeSpec := { name := "fnExactAppendUvarint", fn := fun _ => fun
  | [d1, d2] => { results := [.lit (.bool true)], args := [d1, d2] }
  | _ => none }
def fnExactAppendUvarintRow : OpenClaim := { program := "ytmlkhgekacjidac", sum := "8d8f245fd8eeeed076f557bff4e91ec3fdc5c50073a4f13964188b8cb842100c", func := "loop.example/g00597/laws.FnExactAppendUvarint", spec := "fnExactAppendUvarint", apart := false }
def FnExactAppendUvarintSaid : Prop := fnExactAppendUvarintRow.holds Try.pinned (OpenSpec.ofChange fnExactAppendUvarintSpec)

/-- ITS FALSE NEIGHBOUR: 'it returns false'. Refute it at one input. -/
def fnExactAppendUvarintWrong : ChangeSpec := { name := "fnExactAppendUvarint", fn := fun _ => fun
  | [d1, d2] => { results := [.lit (.bool false)], args := [d1, d2] }
  | _ => none }
def FnExactAppendUvarintWrongFalsely : Prop := fnExactAppendUvarintRow.holds Try.pinned (OpenSpec.ofChange fnExactAppendUvarintWrong)

/-- 'laws.FnExactAppendBytes': WHATEVER THE INPUT: true; the input reads as it did. -/
def fnExactAppendBytesSpec : ChangeSpec := { name := "fnExactAppendBytes", fn := fun _ => fun
  | [d1, d2] => { results := [.lit (.bool true)], args := [d1, d2] }
  | _ => none }
def fnExactAppendBytesRow : OpenClaim := { program := "ytmlkhgekacjidac", sum := "8d8f245fd8eeeed076f557bff4e91ec3fdc5c50073a4f13964188b8cb842100c", func := "loop.example/g00597/laws.FnExactAppendBytes", spec := "fnExactAppendBytes", apart := false }
def FnExactAppendBytesSaid : Prop := fnExactAppendBytesRow.holds Try.pinned (OpenSpec.ofChange fnExactAppendBytesSpec)

/-- ITS FALSE NEIGHBOUR: 'it returns false'. Refute it at one input. -/
def fnExactAppendBytesWrong : ChangeSpec := { name := "fnExactAppendBytes", fn := fun _ => fun
  | [d1, d2] => { results := [.lit (.bool false)], args := [d1, d2] }
  | _ => none }
def FnExactAppendBytesWrongFalsely : Prop := fnExactAppendBytesRow.holds Try.pinned (OpenSpec.ofChange fnExactAppendBytesWrong)

/-- 'laws.FnExactMarkWith': WHATEVER THE INPUT: true; the input reads as it did. -/
def fnExactMarkWithSpec : ChangeSpec := { name := "fnExactMarkWith", fn := fun _ => fun
  | [d1, d2] => { results := [.lit (.bool true)], args := [d1, d2] }
  | _ => none }
def fnExactMarkWithRow : OpenClaim := { program := "ytmlkhgekacjidac", sum := "8d8f245fd8eeeed076f557bff4e91ec3fdc5c50073a4f13964188b8cb842100c", func := "loop.example/g00597/laws.FnExactMarkWith", spec := "fnExactMarkWith", apart := false }
def FnExactMarkWithSaid : Prop := fnExactMarkWithRow.holds Try.pinned (OpenSpec.ofChange fnExactMarkWithSpec)

/-- ITS FALSE NEIGHBOUR: 'it returns false'. Refute it at one input. -/
def fnExactMarkWithWrong : ChangeSpec := { name := "fnExactMarkWith", fn := fun _ => fun
  | [d1, d2] => { results := [.lit (.bool false)], args := [d1, d2] }
  | _ => none }
def FnExactMarkWithWrongFalsely : Prop := fnExactMarkWithRow.holds Try.pinned (OpenSpec.ofChange fnExactMarkWithWrong)

/-- 'laws.FnExactDeriveFromString': WHATEVER THE INPUT: true; the input reads as it did. -/
def fnExactDeriveFromStringSpec : ChangeSpec := { name := "fnExactDeriveFromString", fn := fun _ => fun
  | [d1, d2] => { results := [.lit (.bool true)], args := [d1, d2] }
  | _ => none }
def fnExactDeriveFromStringRow : OpenClaim := { program := "ytmlkhgekacjidac", sum := "8d8f245fd8eeeed076f557bff4e91ec3fdc5c50073a4f13964188b8cb842100c", func := "loop.example/g00597/laws.FnExactDeriveFromString", spec := "fnExactDeriveFromString", apart := false }
def FnExactDeriveFromStringSaid : Prop := fnExactDeriveFromStringRow.holds Try.pinned (OpenSpec.ofChange fnExactDeriveFromStringSpec)

/-- ITS FALSE NEIGHBOUR: 'it returns false'. Refute it at one input. -/
def fnExactDeriveFromStringWrong : ChangeSpec := { name := "fnExactDeriveFromString", fn := fun _ => fun
  | [d1, d2] => { results := [.lit (.bool false)], args := [d1, d2] }
  | _ => none }
def FnExactDeriveFromStringWrongFalsely : Prop := fnExactDeriveFromStringRow.holds Try.pinned (OpenSpec.ofChange fnExactDeriveFromStringWrong)

/-- 'laws.FnExactFindMethod': WHATEVER THE INPUT: true; the input reads as it did. -/
def fnExactFindMethodSpec : ChangeSpec := { name := "fnExactFindMethod", fn := fun _ => fun
  | [d1, d2] => { results := [.lit (.bool true)], args := [d1, d2] }
  | _ => none }
def fnExactFindMethodRow : OpenClaim := { program := "ytmlkhgekacjidac", sum := "8d8f245fd8eeeed076f557bff4e91ec3fdc5c50073a4f13964188b8cb842100c", func := "loop.example/g00597/laws.FnExactFindMethod", spec := "fnExactFindMethod", apart := false }
def FnExactFindMethodSaid : Prop := fnExactFindMethodRow.holds Try.pinned (OpenSpec.ofChange fnExactFindMethodSpec)

/-- ITS FALSE NEIGHBOUR: 'it returns false'. Refute it at one input. -/
def fnExactFindMethodWrong : ChangeSpec := { name := "fnExactFindMethod", fn := fun _ => fun
  | [d1, d2] => { results := [.lit (.bool false)], args := [d1, d2] }
  | _ => none }
def FnExactFindMethodWrongFalsely : Prop := fnExactFindMethodRow.holds Try.pinned (OpenSpec.ofChange fnExactFindMethodWrong)

/-- 'laws.FnExactBytesToInts': WHATEVER THE INPUT: true; the input reads as it did. -/
def fnExactBytesToIntsSpec : ChangeSpec := { name := "fnExactBytesToInts", fn := fun _ => fun
  | [d] => { results := [.lit (.bool true)], args := [d] }
  | _ => none }
def fnExactBytesToIntsRow : OpenClaim := { program := "ytmlkhgekacjidac", sum := "8d8f245fd8eeeed076f557bff4e91ec3fdc5c50073a4f13964188b8cb842100c", func := "loop.example/g00597/laws.FnExactBytesToInts", spec := "fnExactBytesToInts", apart := false }
def FnExactBytesToIntsSaid : Prop := fnExactBytesToIntsRow.holds Try.pinned (OpenSpec.ofChange fnExactBytesToIntsSpec)

/-- ITS FALSE NEIGHBOUR: 'it returns false'. Refute it at one input. -/
def fnExactBytesToIntsWrong : ChangeSpec := { name := "fnExactBytesToInts", fn := fun _ => fun
  | [d] => { results := [.lit (.bool false)], args := [d] }
  | _ => none }
def FnExactBytesToIntsWrongFalsely : Prop := fnExactBytesToIntsRow.holds Try.pinned (OpenSpec.ofChange fnExactBytesToIntsWrong)

/-- 'laws.FnExactParseInt': WHATEVER THE INPUT: true; the input reads as it did. -/
def fnExactParseIntSpec : ChangeSpec := { name := "fnExactParseInt", fn := fun _ => fun
  | [d] => { results := [.lit (.bool true)], args := [d] }
  | _ => none }
def fnExactParseIntRow : OpenClaim := { program := "ytmlkhgekacjidac", sum := "8d8f245fd8eeeed076f557bff4e91ec3fdc5c50073a4f13964188b8cb842100c", func := "loop.example/g00597/laws.FnExactParseInt", spec := "fnExactParseInt", apart := false }
def FnExactParseIntSaid : Prop := fnExactParseIntRow.holds Try.pinned (OpenSpec.ofChange fnExactParseIntSpec)

/-- ITS FALSE NEIGHBOUR: 'it returns false'. Refute it at one input. -/
def fnExactParseIntWrong : ChangeSpec := { name := "fnExactParseInt", fn := fun _ => fun
  | [d] => { results := [.lit (.bool false)], args := [d] }
  | _ => none }
def FnExactParseIntWrongFalsely : Prop := fnExactParseIntRow.holds Try.pinned (OpenSpec.ofChange fnExactParseIntWrong)

/-- 'laws.FnExactBestMethod': WHATEVER THE INPUT: true; the input reads as it did. -/
def fnExactBestMethodSpec : ChangeSpec := { name := "fnExactBestMethod", fn := fun _ => fun
  | [d1, d2] => { results := [.lit (.bool true)], args := [d1, d2] }
  | _ => none }
def fnExactBestMethodRow : OpenClaim := { program := "ytmlkhgekacjidac", sum := "8d8f245fd8eeeed076f557bff4e91ec3fdc5c50073a4f13964188b8cb842100c", func := "loop.example/g00597/laws.FnExactBestMethod", spec := "fnExactBestMethod", apart := false }
def FnExactBestMethodSaid : Prop := fnExactBestMethodRow.holds Try.pinned (OpenSpec.ofChange fnExactBestMethodSpec)

/-- ITS FALSE NEIGHBOUR: 'it returns false'. Refute it at one input. -/
def fnExactBestMethodWrong : ChangeSpec := { name := "fnExactBestMethod", fn := fun _ => fun
  | [d1, d2] => { results := [.lit (.bool false)], args := [d1, d2] }
  | _ => none }
def FnExactBestMethodWrongFalsely : Prop := fnExactBestMethodRow.holds Try.pinned (OpenSpec.ofChange fnExactBestMethodWrong)

/-- 'laws.FnExactIsAlive': WHATEVER THE INPUT: true; the input reads as it did. -/
def fnExactIsAliveSpec : ChangeSpec := { name := "fnExactIsAlive", fn := fun _ => fun
  | [d1, d2, d3] => { results := [.lit (.bool true)], args := [d1, d2, d3] }
  | _ => none }
def fnExactIsAliveRow : OpenClaim := { program := "ytmlkhgekacjidac", sum := "8d8f245fd8eeeed076f557bff4e91ec3fdc5c50073a4f13964188b8cb842100c", func := "loop.example/g00597/laws.FnExactIsAlive", spec := "fnExactIsAlive", apart := false }
def FnExactIsAliveSaid : Prop := fnExactIsAliveRow.holds Try.pinned (OpenSpec.ofChange fnExactIsAliveSpec)

/-- ITS FALSE NEIGHBOUR: 'it returns false'. Refute it at one input. -/
def fnExactIsAliveWrong : ChangeSpec := { name := "fnExactIsAlive", fn := fun _ => fun
  | [d1, d2, d3] => { results := [.lit (.bool false)], args := [d1, d2, d3] }
  | _ => none }
def FnExactIsAliveWrongFalsely : Prop := fnExactIsAliveRow.holds Try.pinned (OpenSpec.ofChange fnExactIsAliveWrong)

/-- 'laws.FnExactAreMethods': WHATEVER THE INPUT: true; the input reads as it did. -/
def fnExactAreMethodsSpec : ChangeSpec := { name := "fnExactAreMethods", fn := fun _ => fun
  | [d] => { results := [.lit (.bool true)], args := [d] }
  | _ => none }
def fnExactAreMethodsRow : OpenClaim := { program := "ytmlkhgekacjidac", sum := "8d8f245fd8eeeed076f557bff4e91ec3fdc5c50073a4f13964188b8cb842100c", func := "loop.example/g00597/laws.FnExactAreMethods", spec := "fnExactAreMethods", apart := false }
def FnExactAreMethodsSaid : Prop := fnExactAreMethodsRow.holds Try.pinned (OpenSpec.ofChange fnExactAreMethodsSpec)

/-- ITS FALSE NEIGHBOUR: 'it returns false'. Refute it at one input. -/
def fnExactAreMethodsWrong : ChangeSpec := { name := "fnExactAreMethods", fn := fun _ => fun
  | [d] => { results := [.lit (.bool false)], args := [d] }
  | _ => none }
def FnExactAreMethodsWrongFalsely : Prop := fnExactAreMethodsRow.holds Try.pinned (OpenSpec.ofChange fnExactAreMethodsWrong)

/-- 'laws.FnExactBreakOf': WHATEVER THE INPUT: true; the input reads as it did. -/
def fnExactBreakOfSpec : ChangeSpec := { name := "fnExactBreakOf", fn := fun _ => fun
  | [d1, d2] => { results := [.lit (.bool true)], args := [d1, d2] }
  | _ => none }
def fnExactBreakOfRow : OpenClaim := { program := "ytmlkhgekacjidac", sum := "8d8f245fd8eeeed076f557bff4e91ec3fdc5c50073a4f13964188b8cb842100c", func := "loop.example/g00597/laws.FnExactBreakOf", spec := "fnExactBreakOf", apart := false }
def FnExactBreakOfSaid : Prop := fnExactBreakOfRow.holds Try.pinned (OpenSpec.ofChange fnExactBreakOfSpec)

/-- ITS FALSE NEIGHBOUR: 'it returns false'. Refute it at one input. -/
def fnExactBreakOfWrong : ChangeSpec := { name := "fnExactBreakOf", fn := fun _ => fun
  | [d1, d2] => { results := [.lit (.bool false)], args := [d1, d2] }
  | _ => none }
def FnExactBreakOfWrongFalsely : Prop := fnExactBreakOfRow.holds Try.pinned (OpenSpec.ofChange fnExactBreakOfWrong)

/-- 'laws.FnExactDecrypt': WHATEVER THE INPUT: true; the input reads as it did. -/
def fnExactDecryptSpec : ChangeSpec := { name := "fnExactDecrypt", fn := fun _ => fun
  | [d1, d2] => { results := [.lit (.bool true)], args := [d1, d2] }
  | _ => none }
def fnExactDecryptRow : OpenClaim := { program := "ytmlkhgekacjidac", sum := "8d8f245fd8eeeed076f557bff4e91ec3fdc5c50073a4f13964188b8cb842100c", func := "loop.example/g00597/laws.FnExactDecrypt", spec := "fnExactDecrypt", apart := false }
def FnExactDecryptSaid : Prop := fnExactDecryptRow.holds Try.pinned (OpenSpec.ofChange fnExactDecryptSpec)

/-- ITS FALSE NEIGHBOUR: 'it returns false'. Refute it at one input. -/
def fnExactDecryptWrong : ChangeSpec := { name := "fnExactDecrypt", fn := fun _ => fun
  | [d1, d2] => { results := [.lit (.bool false)], args := [d1, d2] }
  | _ => none }
def FnExactDecryptWrongFalsely : Prop := fnExactDecryptRow.holds Try.pinned (OpenSpec.ofChange fnExactDecryptWrong)

/- THE SECOND FORM. 'bulk': how many values and letters a reading holds, each counted each time it is reached (what is shared counts as often as it is met; a slice's spare places count too). A statement '..UptoSaid' is the law's where the arguments, and the package variables that the reading takes, are together of bulk at most 1048576: NARROWER than '..Said'. Prove '..Said' where nothing that the law and all that it calls make is longer than what came in: it says more and counts as full. Else prove '..UptoSaid'. A law counts once. -/
mutual
def uptoBulk {H : Type} : DataW H → Nat
  | .lit (.string bytes) => bytes.length + 1
  | .lit _ => 1
  | .nil => 1
  | .ptr d => uptoBulk d + 1
  | .slice elems spare => uptoBulkAll elems + uptoBulkAll spare + 1
  | .agg parts => uptoBulkAll parts + 1
  | .iface _ d => uptoBulk d + 1
  | .map entries => uptoBulkEntries entries + 1
  | .held _ => 1
def uptoBulkAll {H : Type} : List (DataW H) → Nat
  | [] => 0
  | d :: r => uptoBulk d + uptoBulkAll r
def uptoBulkEntries {H : Type} : List (Lit × DataW H) → Nat
  | [] => 0
  | x :: r => uptoBulkEntry x + uptoBulkEntries r
def uptoBulkEntry {H : Type} : Lit × DataW H → Nat
  | (.string bytes, d) => bytes.length + uptoBulk d + 1
  | (_, d) => uptoBulk d + 1
 end
def uptoSmall : (H : Type) → List (DataW H) → Bool := fun _ ds => decide (uptoBulkAll ds ≤ 1048576)
def OpenSpec.upto (s : _root_.Go.ChangeSpec) : _root_.Go.OpenSpec := { _root_.Go.OpenSpec.ofChange s with cond := some uptoSmall }

/-- 'laws.FnExactAppendUvarint', WHERE WHAT IT READS IS OF BULK AT MOST 1048576: true; the input reads as it did. -/
def fnExactAppendUvarintUptoRow : OpenClaim := { program := "ytmlkhgekacjidac", sum := "8d8f245fd8eeeed076f557bff4e91ec3fdc5c50073a4f13964188b8cb842100c", func := "loop.example/g00597/laws.FnExactAppendUvarint", spec := "fnExactAppendUvarint", apart := false, narrowed := true }
def FnExactAppendUvarintUptoSaid : Prop := fnExactAppendUvarintUptoRow.holds Try.pinned (OpenSpec.upto fnExactAppendUvarintSpec)

/-- 'laws.FnExactAppendBytes', WHERE WHAT IT READS IS OF BULK AT MOST 1048576: true; the input reads as it did. -/
def fnExactAppendBytesUptoRow : OpenClaim := { program := "ytmlkhgekacjidac", sum := "8d8f245fd8eeeed076f557bff4e91ec3fdc5c50073a4f13964188b8cb842100c", func := "loop.example/g00597/laws.FnExactAppendBytes", spec := "fnExactAppendBytes", apart := false, narrowed := true }
def FnExactAppendBytesUptoSaid : Prop := fnExactAppendBytesUptoRow.holds Try.pinned (OpenSpec.upto fnExactAppendBytesSpec)

/-- 'laws.FnExactMarkWith', WHERE WHAT IT READS IS OF BULK AT MOST 1048576: true; the input reads as it did. -/
def fnExactMarkWithUptoRow : OpenClaim := { program := "ytmlkhgekacjidac", sum := "8d8f245fd8eeeed076f557bff4e91ec3fdc5c50073a4f13964188b8cb842100c", func := "loop.example/g00597/laws.FnExactMarkWith", spec := "fnExactMarkWith", apart := false, narrowed := true }
def FnExactMarkWithUptoSaid : Prop := fnExactMarkWithUptoRow.holds Try.pinned (OpenSpec.upto fnExactMarkWithSpec)

/-- 'laws.FnExactDeriveFromString', WHERE WHAT IT READS IS OF BULK AT MOST 1048576: true; the input reads as it did. -/
def fnExactDeriveFromStringUptoRow : OpenClaim := { program := "ytmlkhgekacjidac", sum := "8d8f245fd8eeeed076f557bff4e91ec3fdc5c50073a4f13964188b8cb842100c", func := "loop.example/g00597/laws.FnExactDeriveFromString", spec := "fnExactDeriveFromString", apart := false, narrowed := true }
def FnExactDeriveFromStringUptoSaid : Prop := fnExactDeriveFromStringUptoRow.holds Try.pinned (OpenSpec.upto fnExactDeriveFromStringSpec)

/-- 'laws.FnExactFindMethod', WHERE WHAT IT READS IS OF BULK AT MOST 1048576: true; the input reads as it did. -/
def fnExactFindMethodUptoRow : OpenClaim := { program := "ytmlkhgekacjidac", sum := "8d8f245fd8eeeed076f557bff4e91ec3fdc5c50073a4f13964188b8cb842100c", func := "loop.example/g00597/laws.FnExactFindMethod", spec := "fnExactFindMethod", apart := false, narrowed := true }
def FnExactFindMethodUptoSaid : Prop := fnExactFindMethodUptoRow.holds Try.pinned (OpenSpec.upto fnExactFindMethodSpec)

/-- 'laws.FnExactBytesToInts', WHERE WHAT IT READS IS OF BULK AT MOST 1048576: true; the input reads as it did. -/
def fnExactBytesToIntsUptoRow : OpenClaim := { program := "ytmlkhgekacjidac", sum := "8d8f245fd8eeeed076f557bff4e91ec3fdc5c50073a4f13964188b8cb842100c", func := "loop.example/g00597/laws.FnExactBytesToInts", spec := "fnExactBytesToInts", apart := false, narrowed := true }
def FnExactBytesToIntsUptoSaid : Prop := fnExactBytesToIntsUptoRow.holds Try.pinned (OpenSpec.upto fnExactBytesToIntsSpec)

/-- 'laws.FnExactParseInt', WHERE WHAT IT READS IS OF BULK AT MOST 1048576: true; the input reads as it did. -/
def fnExactParseIntUptoRow : OpenClaim := { program := "ytmlkhgekacjidac", sum := "8d8f245fd8eeeed076f557bff4e91ec3fdc5c50073a4f13964188b8cb842100c", func := "loop.example/g00597/laws.FnExactParseInt", spec := "fnExactParseInt", apart := false, narrowed := true }
def FnExactParseIntUptoSaid : Prop := fnExactParseIntUptoRow.holds Try.pinned (OpenSpec.upto fnExactParseIntSpec)

/-- 'laws.FnExactBestMethod', WHERE WHAT IT READS IS OF BULK AT MOST 1048576: true; the input reads as it did. -/
def fnExactBestMethodUptoRow : OpenClaim := { program := "ytmlkhgekacjidac", sum := "8d8f245fd8eeeed076f557bff4e91ec3fdc5c50073a4f13964188b8cb842100c", func := "loop.example/g00597/laws.FnExactBestMethod", spec := "fnExactBestMethod", apart := false, narrowed := true }
def FnExactBestMethodUptoSaid : Prop := fnExactBestMethodUptoRow.holds Try.pinned (OpenSpec.upto fnExactBestMethodSpec)

/-- 'laws.FnExactIsAlive', WHERE WHAT IT READS IS OF BULK AT MOST 1048576: true; the input reads as it did. -/
def fnExactIsAliveUptoRow : OpenClaim := { program := "ytmlkhgekacjidac", sum := "8d8f245fd8eeeed076f557bff4e91ec3fdc5c50073a4f13964188b8cb842100c", func := "loop.example/g00597/laws.FnExactIsAlive", spec := "fnExactIsAlive", apart := false, narrowed := true }
def FnExactIsAliveUptoSaid : Prop := fnExactIsAliveUptoRow.holds Try.pinned (OpenSpec.upto fnExactIsAliveSpec)

/-- 'laws.FnExactAreMethods', WHERE WHAT IT READS IS OF BULK AT MOST 1048576: true; the input reads as it did. -/
def fnExactAreMethodsUptoRow : OpenClaim := { program := "ytmlkhgekacjidac", sum := "8d8f245fd8eeeed076f557bff4e91ec3fdc5c50073a4f13964188b8cb842100c", func := "loop.example/g00597/laws.FnExactAreMethods", spec := "fnExactAreMethods", apart := false, narrowed := true }
def FnExactAreMethodsUptoSaid : Prop := fnExactAreMethodsUptoRow.holds Try.pinned (OpenSpec.upto fnExactAreMethodsSpec)

/-- 'laws.FnExactBreakOf', WHERE WHAT IT READS IS OF BULK AT MOST 1048576: true; the input reads as it did. -/
def fnExactBreakOfUptoRow : OpenClaim := { program := "ytmlkhgekacjidac", sum := "8d8f245fd8eeeed076f557bff4e91ec3fdc5c50073a4f13964188b8cb842100c", func := "loop.example/g00597/laws.FnExactBreakOf", spec := "fnExactBreakOf", apart := false, narrowed := true }
def FnExactBreakOfUptoSaid : Prop := fnExactBreakOfUptoRow.holds Try.pinned (OpenSpec.upto fnExactBreakOfSpec)

/-- 'laws.FnExactDecrypt', WHERE WHAT IT READS IS OF BULK AT MOST 1048576: true; the input reads as it did. -/
def fnExactDecryptUptoRow : OpenClaim := { program := "ytmlkhgekacjidac", sum := "8d8f245fd8eeeed076f557bff4e91ec3fdc5c50073a4f13964188b8cb842100c", func := "loop.example/g00597/laws.FnExactDecrypt", spec := "fnExactDecrypt", apart := false, narrowed := true }
def FnExactDecryptUptoSaid : Prop := fnExactDecryptUptoRow.holds Try.pinned (OpenSpec.upto fnExactDecryptSpec)

end Rows
end Go.Proofs.Ytmlkhgekacjidac
