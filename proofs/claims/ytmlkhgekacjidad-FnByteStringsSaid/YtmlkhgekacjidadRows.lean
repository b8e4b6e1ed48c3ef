/-
  No cell of these rows narrows 'for every input' (looked for: loops, veiled, ifaces, maps, wideKeys, modest, calm, conditions, laid).
  DERIVED. THE GIVEN ROWS OF THIS SEAT. 12 by the template 'for every input the law returns true; each argument reads behind the call as it read before'; 0 by the template 'total and deterministic' (their statements: YtmlkhgekacjidadTotals.lean).
  GIVEN WITH THE SEED: the statements are not yours to turn. If you find one false, say at which input.
  Laid BY PROGRAM, IN A SANDBOX (cutbox-rows.mjs): the forced cells as the released guide's own fill.sh prints them over the translation 5822c6b208121f17… (all of the seat's roots in one cut). By AI agents, Wed Nov 11 2026. No macro, syntax, notation, axiom, sorry.
-/
import Derived.Test.YtmlkhgekacjidadChecked
import GoSem.Claim
import GoSem.ClaimJoined
import GoSem.ClaimMapViews
import Derived.JoinedTies
import Derived.KernelRfl
namespace Go.Proofs.Ytmlkhgekacjidad
/- THE CELL 'sum', in the pinned program and in every row, IS THE sha256 OF THE DUMP (.gsa) THAT YtmlkhgekacjidadProg.lean LOADS. Nothing in Lean hashes anything: it is a label: what it is worth is what the hold of that sum in a sandbox is worth. -/
noncomputable def Try.pinned : Pinned := { name := "ytmlkhgekacjidad", sum := "5822c6b208121f177de50ce07963a2f28a7f938b2ebaf69413d52772d71754b8", checked := Try.checked }
namespace Rows
def none {H : Type} : Left H := { results := [], args := [] }

/-- 'laws.FnExactEncrypt': WHATEVER THE INPUT: true; the input reads as it did. -/
def fnExactEncryptSpec : ChangeSpec := { name := "fnExactEncrypt", fn := fun _ => fun
  | [d1, d2] => { results := [.lit (.bool true)], args := [d1, d2] }
  | _ => none }
def fnExactEncryptRow : OpenClaim := { program := "ytmlkhgekacjidad", sum := "5822c6b208121f177de50ce07963a2f28a7f938b2ebaf69413d52772d71754b8", func := "loop.example/g00597/laws.FnExactEncrypt", spec := "fnExactEncrypt", apart := false }
def FnExactEncryptSaid : Prop := fnExactEncryptRow.holds Try.pinned (OpenSpec.ofChange fnExactEncryptSpec)

/-- ITS FALSE NEIGHBOUR: 'it returns false'. Refute it at one input. -/
def fnExactEncryptWrong : ChangeSpec := { name := "fnExactEncrypt", fn := fun _ => fun
  | [d1, d2] => { results := [.lit (.bool false)], args := [d1, d2] }
  | _ => none }
def FnExactEncryptWrongFalsely : Prop := fnExactEncryptRow.holds Try.pinned (OpenSpec.ofChange fnExactEncryptWrong)

/-- 'laws.FnExactReadBytes': WHATEVER THE INPUT: true; the input reads as it did. -/
def fnExactReadBytesSpec : ChangeSpec := { name := "fnExactReadBytes", fn := fun _ => fun
  | [d1, d2, d3] => { results := [.lit (.bool true)], args := [d1, d2, d3] }
  | _ => none }
def fnExactReadBytesRow : OpenClaim := { program := "ytmlkhgekacjidad", sum := "5822c6b208121f177de50ce07963a2f28a7f938b2ebaf69413d52772d71754b8", func := "loop.example/g00597/laws.FnExactReadBytes", spec := "fnExactReadBytes", apart := false }
def FnExactReadBytesSaid : Prop := fnExactReadBytesRow.holds Try.pinned (OpenSpec.ofChange fnExactReadBytesSpec)

/-- ITS FALSE NEIGHBOUR: 'it returns false'. Refute it at one input. -/
def fnExactReadBytesWrong : ChangeSpec := { name := "fnExactReadBytes", fn := fun _ => fun
  | [d1, d2, d3] => { results := [.lit (.bool false)], args := [d1, d2, d3] }
  | _ => none }
def FnExactReadBytesWrongFalsely : Prop := fnExactReadBytesRow.holds Try.pinned (OpenSpec.ofChange fnExactReadBytesWrong)

/-- 'laws.FnCipher': WHATEVER THE INPUT: true; the input reads as it did. -/
def fnCipherSpec : ChangeSpec := { name := "fnCipher", fn := fun _ => fun
  | [d] => { results := [.lit (.bool true)], args := [d] }
  | _ => none }
def fnCipherRow : OpenClaim := { program := "ytmlkhgekacjidad", sum := "5822c6b208121f177de50ce07963a2f28a7f938b2ebaf69413d52772d71754b8", func := "loop.example/g00597/laws.FnCipher", spec := "fnCipher", apart := false }
def FnCipherSaid : Prop := fnCipherRow.holds Try.pinned (OpenSpec.ofChange fnCipherSpec)

/-- ITS FALSE NEIGHBOUR: 'it returns false'. Refute it at one input. -/
def fnCipherWrong : ChangeSpec := { name := "fnCipher", fn := fun _ => fun
  | [d] => { results := [.lit (.bool false)], args := [d] }
  | _ => none }
def FnCipherWrongFalsely : Prop := fnCipherRow.holds Try.pinned (OpenSpec.ofChange fnCipherWrong)

/-- 'laws.FnExactEncodeInts': WHATEVER THE INPUT: true; the input reads as it did. -/
def fnExactEncodeIntsSpec : ChangeSpec := { name := "fnExactEncodeInts", fn := fun _ => fun
  | [d] => { results := [.lit (.bool true)], args := [d] }
  | _ => none }
def fnExactEncodeIntsRow : OpenClaim := { program := "ytmlkhgekacjidad", sum := "5822c6b208121f177de50ce07963a2f28a7f938b2ebaf69413d52772d71754b8", func := "loop.example/g00597/laws.FnExactEncodeInts", spec := "fnExactEncodeInts", apart := false }
def FnExactEncodeIntsSaid : Prop := fnExactEncodeIntsRow.holds Try.pinned (OpenSpec.ofChange fnExactEncodeIntsSpec)

/-- ITS FALSE NEIGHBOUR: 'it returns false'. Refute it at one input. -/
def fnExactEncodeIntsWrong : ChangeSpec := { name := "fnExactEncodeInts", fn := fun _ => fun
  | [d] => { results := [.lit (.bool false)], args := [d] }
  | _ => none }
def FnExactEncodeIntsWrongFalsely : Prop := fnExactEncodeIntsRow.holds Try.pinned (OpenSpec.ofChange fnExactEncodeIntsWrong)

/-- 'laws.FnExactTouchesSpan': WHATEVER THE INPUT: true; the input reads as it did. -/
def fnExactTouchesSpanSpec : ChangeSpec := { name := "fnExactTouchesSpan", fn := fun _ => fun
  | [d1, d2] => { results := [.lit (.bool true)], args := [d1, d2] }
  | _ => none }
def fnExactTouchesSpanRow : OpenClaim := { program := "ytmlkhgekacjidad", sum := "5822c6b208121f177de50ce07963a2f28a7f938b2ebaf69413d52772d71754b8", func := "loop.example/g00597/laws.FnExactTouchesSpan", spec := "fnExactTouchesSpan", apart := false }
def FnExactTouchesSpanSaid : Prop := fnExactTouchesSpanRow.holds Try.pinned (OpenSpec.ofChange fnExactTouchesSpanSpec)

/-- ITS FALSE NEIGHBOUR: 'it returns false'. Refute it at one input. -/
def fnExactTouchesSpanWrong : ChangeSpec := { name := "fnExactTouchesSpan", fn := fun _ => fun
  | [d1, d2] => { results := [.lit (.bool false)], args := [d1, d2] }
  | _ => none }
def FnExactTouchesSpanWrongFalsely : Prop := fnExactTouchesSpanRow.holds Try.pinned (OpenSpec.ofChange fnExactTouchesSpanWrong)

/-- 'laws.FnKeyedHash': WHATEVER THE INPUT: true; the input reads as it did. -/
def fnKeyedHashSpec : ChangeSpec := { name := "fnKeyedHash", fn := fun _ => fun
  | [d] => { results := [.lit (.bool true)], args := [d] }
  | _ => none }
def fnKeyedHashRow : OpenClaim := { program := "ytmlkhgekacjidad", sum := "5822c6b208121f177de50ce07963a2f28a7f938b2ebaf69413d52772d71754b8", func := "loop.example/g00597/laws.FnKeyedHash", spec := "fnKeyedHash", apart := false }
def FnKeyedHashSaid : Prop := fnKeyedHashRow.holds Try.pinned (OpenSpec.ofChange fnKeyedHashSpec)

/-- ITS FALSE NEIGHBOUR: 'it returns false'. Refute it at one input. -/
def fnKeyedHashWrong : ChangeSpec := { name := "fnKeyedHash", fn := fun _ => fun
  | [d] => { results := [.lit (.bool false)], args := [d] }
  | _ => none }
def FnKeyedHashWrongFalsely : Prop := fnKeyedHashRow.holds Try.pinned (OpenSpec.ofChange fnKeyedHashWrong)

/-- 'laws.FnExactIsDocument': WHATEVER THE INPUT: true; the input reads as it did. -/
def fnExactIsDocumentSpec : ChangeSpec := { name := "fnExactIsDocument", fn := fun _ => fun
  | [d] => { results := [.lit (.bool true)], args := [d] }
  | _ => none }
def fnExactIsDocumentRow : OpenClaim := { program := "ytmlkhgekacjidad", sum := "5822c6b208121f177de50ce07963a2f28a7f938b2ebaf69413d52772d71754b8", func := "loop.example/g00597/laws.FnExactIsDocument", spec := "fnExactIsDocument", apart := false }
def FnExactIsDocumentSaid : Prop := fnExactIsDocumentRow.holds Try.pinned (OpenSpec.ofChange fnExactIsDocumentSpec)

/-- ITS FALSE NEIGHBOUR: 'it returns false'. Refute it at one input. -/
def fnExactIsDocumentWrong : ChangeSpec := { name := "fnExactIsDocument", fn := fun _ => fun
  | [d] => { results := [.lit (.bool false)], args := [d] }
  | _ => none }
def FnExactIsDocumentWrongFalsely : Prop := fnExactIsDocumentRow.holds Try.pinned (OpenSpec.ofChange fnExactIsDocumentWrong)

/-- 'laws.FnExactDecodeInts': WHATEVER THE INPUT: true; the input reads as it did. -/
def fnExactDecodeIntsSpec : ChangeSpec := { name := "fnExactDecodeInts", fn := fun _ => fun
  | [d1, d2, d3] => { results := [.lit (.bool true)], args := [d1, d2, d3] }
  | _ => none }
def fnExactDecodeIntsRow : OpenClaim := { program := "ytmlkhgekacjidad", sum := "5822c6b208121f177de50ce07963a2f28a7f938b2ebaf69413d52772d71754b8", func := "loop.example/g00597/laws.FnExactDecodeInts", spec := "fnExactDecodeInts", apart := false }
def FnExactDecodeIntsSaid : Prop := fnExactDecodeIntsRow.holds Try.pinned (OpenSpec.ofChange fnExactDecodeIntsSpec)

/-- ITS FALSE NEIGHBOUR: 'it returns false'. Refute it at one input. -/
def fnExactDecodeIntsWrong : ChangeSpec := { name := "fnExactDecodeInts", fn := fun _ => fun
  | [d1, d2, d3] => { results := [.lit (.bool false)], args := [d1, d2, d3] }
  | _ => none }
def FnExactDecodeIntsWrongFalsely : Prop := fnExactDecodeIntsRow.holds Try.pinned (OpenSpec.ofChange fnExactDecodeIntsWrong)

/-- 'laws.FnExactCoversSpan': WHATEVER THE INPUT: true; the input reads as it did. -/
def fnExactCoversSpanSpec : ChangeSpec := { name := "fnExactCoversSpan", fn := fun _ => fun
  | [d1, d2] => { results := [.lit (.bool true)], args := [d1, d2] }
  | _ => none }
def fnExactCoversSpanRow : OpenClaim := { program := "ytmlkhgekacjidad", sum := "5822c6b208121f177de50ce07963a2f28a7f938b2ebaf69413d52772d71754b8", func := "loop.example/g00597/laws.FnExactCoversSpan", spec := "fnExactCoversSpan", apart := false }
def FnExactCoversSpanSaid : Prop := fnExactCoversSpanRow.holds Try.pinned (OpenSpec.ofChange fnExactCoversSpanSpec)

/-- ITS FALSE NEIGHBOUR: 'it returns false'. Refute it at one input. -/
def fnExactCoversSpanWrong : ChangeSpec := { name := "fnExactCoversSpan", fn := fun _ => fun
  | [d1, d2] => { results := [.lit (.bool false)], args := [d1, d2] }
  | _ => none }
def FnExactCoversSpanWrongFalsely : Prop := fnExactCoversSpanRow.holds Try.pinned (OpenSpec.ofChange fnExactCoversSpanWrong)

/-- 'laws.FnExactJoinAll': WHATEVER THE INPUT: true; the input reads as it did. -/
def fnExactJoinAllSpec : ChangeSpec := { name := "fnExactJoinAll", fn := fun _ => fun
  | [d] => { results := [.lit (.bool true)], args := [d] }
  | _ => none }
def fnExactJoinAllRow : OpenClaim := { program := "ytmlkhgekacjidad", sum := "5822c6b208121f177de50ce07963a2f28a7f938b2ebaf69413d52772d71754b8", func := "loop.example/g00597/laws.FnExactJoinAll", spec := "fnExactJoinAll", apart := false }
def FnExactJoinAllSaid : Prop := fnExactJoinAllRow.holds Try.pinned (OpenSpec.ofChange fnExactJoinAllSpec)

/-- ITS FALSE NEIGHBOUR: 'it returns false'. Refute it at one input. -/
def fnExactJoinAllWrong : ChangeSpec := { name := "fnExactJoinAll", fn := fun _ => fun
  | [d] => { results := [.lit (.bool false)], args := [d] }
  | _ => none }
def FnExactJoinAllWrongFalsely : Prop := fnExactJoinAllRow.holds Try.pinned (OpenSpec.ofChange fnExactJoinAllWrong)

/-- 'laws.FnByteStrings': WHATEVER THE INPUT: true; the input reads as it did. -/
def fnByteStringsSpec : ChangeSpec := { name := "fnByteStrings", fn := fun _ => fun
  | [d] => { results := [.lit (.bool true)], args := [d] }
  | _ => none }
def fnByteStringsRow : OpenClaim := { program := "ytmlkhgekacjidad", sum := "5822c6b208121f177de50ce07963a2f28a7f938b2ebaf69413d52772d71754b8", func := "loop.example/g00597/laws.FnByteStrings", spec := "fnByteStrings", apart := false }
def FnByteStringsSaid : Prop := fnByteStringsRow.holds Try.pinned (OpenSpec.ofChange fnByteStringsSpec)

/-- ITS FALSE NEIGHBOUR: 'it returns false'. Refute it at one input. -/
def fnByteStringsWrong : ChangeSpec := { name := "fnByteStrings", fn := fun _ => fun
  | [d] => { results := [.lit (.bool false)], args := [d] }
  | _ => none }
def FnByteStringsWrongFalsely : Prop := fnByteStringsRow.holds Try.pinned (OpenSpec.ofChange fnByteStringsWrong)

/-- 'laws.FnExactEqualDocuments': WHATEVER THE INPUT: true; the input reads as it did. -/
def fnExactEqualDocumentsSpec : ChangeSpec := { name := "fnExactEqualDocuments", fn := fun _ => fun
  | [d1, d2] => { results := [.lit (.bool true)], args := [d1, d2] }
  | _ => none }
def fnExactEqualDocumentsRow : OpenClaim := { program := "ytmlkhgekacjidad", sum := "5822c6b208121f177de50ce07963a2f28a7f938b2ebaf69413d52772d71754b8", func := "loop.example/g00597/laws.FnExactEqualDocuments", spec := "fnExactEqualDocuments", apart := false }
def FnExactEqualDocumentsSaid : Prop := fnExactEqualDocumentsRow.holds Try.pinned (OpenSpec.ofChange fnExactEqualDocumentsSpec)

/-- ITS FALSE NEIGHBOUR: 'it returns false'. Refute it at one input. -/
def fnExactEqualDocumentsWrong : ChangeSpec := { name := "fnExactEqualDocuments", fn := fun _ => fun
  | [d1, d2] => { results := [.lit (.bool false)], args := [d1, d2] }
  | _ => none }
def FnExactEqualDocumentsWrongFalsely : Prop := fnExactEqualDocumentsRow.holds Try.pinned (OpenSpec.ofChange fnExactEqualDocumentsWrong)

/- THE SECOND FORM. 'bulk': how many values and letters a reading holds, each counted each time it is reached (what is shared counts as often as it is met; a slice's spare places count too). A statement '..UptoSaid' is the law's where the arguments, and the package variables that the reading takes, are together of bulk at most 1048576: NARROWER than '..Said'. Prove '..Said' where nothing that the law and all that it calls make is longer than what came in: it says more and counts as full. Else prove '..UptoSaid'. A law counts once. -/
mutual
def uptoBulk {H : Type} : DataW H → Nat
  | .lit (.string bytes) => bytes.length + 1
  | .lit _ => 1
  | .nil => 1
  | .ptr d => uptoBulk d + 1
  | .slice elems spare => uptoBulkAll elems + uptoBulkAll spare + 1
  | .agg parts => uptoBulkAll parts + 1
  | .iface _ d => uptoBulk d + 1
  | .map entries => uptoBulkEntries entries + 1
  | .held _ => 1
def uptoBulkAll {H : Type} : List (DataW H) → Nat
  | [] => 0
  | d :: r => uptoBulk d + uptoBulkAll r
def uptoBulkEntries {H : Type} : List (Lit × DataW H) → Nat
  | [] => 0
  | x :: r => uptoBulkEntry x + uptoBulkEntries r
def uptoBulkEntry {H : Type} : Lit × DataW H → Nat
  | (.string bytes, d) => bytes.length + uptoBulk d + 1
  | (_, d) => uptoBulk d + 1
 end
def uptoSmall : (H : Type) → List (DataW H) → Bool := fun _ ds => decide (uptoBulkAll ds ≤ 1048576)
def OpenSpec.upto (s : _root_.Go.ChangeSpec) : _root_.Go.OpenSpec := { _root_.Go.OpenSpec.ofChange s with cond := some uptoSmall }

/-- 'laws.FnExactEncrypt', WHERE WHAT IT READS IS OF BULK AT MOST 1048576: true; the input reads as it did. -/
def fnExactEncryptUptoRow : OpenClaim := { program := "ytmlkhgekacjidad", sum := "5822c6b208121f177de50ce07963a2f28a7f938b2ebaf69413d52772d71754b8", func := "loop.example/g00597/laws.FnExactEncrypt", spec := "fnExactEncrypt", apart := false, narrowed := true }
def FnExactEncryptUptoSaid : Prop := fnExactEncryptUptoRow.holds Try.pinned (OpenSpec.upto fnExactEncryptSpec)

/-- 'laws.FnExactReadBytes', WHERE WHAT IT READS IS OF BULK AT MOST 1048576: true; the input reads as it did. -/
def fnExactReadBytesUptoRow : OpenClaim := { program := "ytmlkhgekacjidad", sum := "5822c6b208121f177de50ce07963a2f28a7f938b2ebaf69413d52772d71754b8", func := "loop.example/g00597/laws.FnExactReadBytes", spec := "fnExactReadBytes", apart := false, narrowed := true }
def FnExactReadBytesUptoSaid : Prop := fnExactReadBytesUptoRow.holds Try.pinned (OpenSpec.upto fnExactReadBytesSpec)

/-- 'laws.FnCipher', WHERE WHAT IT READS IS OF BULK AT MOST 1048576: true; the input reads as it did. -/
def fnCipherUptoRow : OpenClaim := { program := "ytmlkhgekacjidad", sum := "5822c6b208121f177de50ce07963a2f28a7f938b2ebaf69413d52772d71754b8", func := "loop.example/g00597/laws.FnCipher", spec := "fnCipher", apart := false, narrowed := true }
def FnCipherUptoSaid : Prop := fnCipherUptoRow.holds Try.pinned (OpenSpec.upto fnCipherSpec)

/-- 'laws.FnExactEncodeInts', WHERE WHAT IT READS IS OF BULK AT MOST 1048576: true; the input reads as it did. -/
def fnExactEncodeIntsUptoRow : OpenClaim := { program := "ytmlkhgekacjidad", sum := "5822c6b208121f177de50ce07963a2f28a7f938b2ebaf69413d52772d71754b8", func := "loop.example/g00597/laws.FnExactEncodeInts", spec := "fnExactEncodeInts", apart := false, narrowed := true }
def FnExactEncodeIntsUptoSaid : Prop := fnExactEncodeIntsUptoRow.holds Try.pinned (OpenSpec.upto fnExactEncodeIntsSpec)

/-- 'laws.FnExactTouchesSpan', WHERE WHAT IT READS IS OF BULK AT MOST 1048576: true; the input reads as it did. -/
def fnExactTouchesSpanUptoRow : OpenClaim := { program := "ytmlkhgekacjidad", sum := "5822c6b208121f177de50ce07963a2f28a7f938b2ebaf69413d52772d71754b8", func := "loop.example/g00597/laws.FnExactTouchesSpan", spec := "fnExactTouchesSpan", apart := false, narrowed := true }
def FnExactTouchesSpanUptoSaid : Prop := fnExactTouchesSpanUptoRow.holds Try.pinned (OpenSpec.upto fnExactTouchesSpanSpec)

/-- 'laws.FnKeyedHash', WHERE WHAT IT READS IS OF BULK AT MOST 1048576: true; the input reads as it did. -/
def fnKeyedHashUptoRow : OpenClaim := { program := "ytmlkhgekacjidad", sum := "5822c6b208121f177de50ce07963a2f28a7f938b2ebaf69413d52772d71754b8", func := "loop.example/g00597/laws.FnKeyedHash", spec := "fnKeyedHash", apart := false, narrowed := true }
def FnKeyedHashUptoSaid : Prop := fnKeyedHashUptoRow.holds Try.pinned (OpenSpec.upto fnKeyedHashSpec)

/-- 'laws.FnExactIsDocument', WHERE WHAT IT READS IS OF BULK AT MOST 1048576: true; the input reads as it did. -/
def fnExactIsDocumentUptoRow : OpenClaim := { program := "ytmlkhgekacjidad", sum := "5822c6b208121f177de50ce07963a2f28a7f938b2ebaf69413d52772d71754b8", func := "loop.example/g00597/laws.FnExactIsDocument", spec := "fnExactIsDocument", apart := false, narrowed := true }
def FnExactIsDocumentUptoSaid : Prop := fnExactIsDocumentUptoRow.holds Try.pinned (OpenSpec.upto fnExactIsDocumentSpec)

/-- 'laws.FnExactDecodeInts', WHERE WHAT IT READS IS OF BULK AT MOST 1048576: true; the input reads as it did. -/
def fnExactDecodeIntsUptoRow : OpenClaim := { program := "ytmlkhgekacjidad", sum := "5822c6b208121f177de50ce07963a2f28a7f938b2ebaf69413d52772d71754b8", func := "loop.example/g00597/laws.FnExactDecodeInts", spec := "fnExactDecodeInts", apart := false, narrowed := true }
def FnExactDecodeIntsUptoSaid : Prop := fnExactDecodeIntsUptoRow.holds Try.pinned (OpenSpec.upto fnExactDecodeIntsSpec)

/-- 'laws.FnExactCoversSpan', WHERE WHAT IT READS IS OF BULK AT MOST 1048576: true; the input reads as it did. -/
def fnExactCoversSpanUptoRow : OpenClaim := { program := "ytmlkhgekacjidad", sum := "5822c6b208121f177de50ce07963a2f28a7f938b2ebaf69413d52772d71754b8", func := "loop.example/g00597/laws.FnExactCoversSpan", spec := "fnExactCoversSpan", apart := false, narrowed := true }
def FnExactCoversSpanUptoSaid : Prop := fnExactCoversSpanUptoRow.holds Try.pinned (OpenSpec.upto fnExactCoversSpanSpec)

/-- 'laws.FnExactJoinAll', WHERE WHAT IT READS IS OF BULK AT MOST 1048576: true; the input reads as it did. -/
def fnExactJoinAllUptoRow : OpenClaim := { program := "ytmlkhgekacjidad", sum := "5822c6b208121f177de50ce07963a2f28a7f938b2ebaf69413d52772d71754b8", func := "loop.example/g00597/laws.FnExactJoinAll", spec := "fnExactJoinAll", apart := false, narrowed := true }
def FnExactJoinAllUptoSaid : Prop := fnExactJoinAllUptoRow.holds Try.pinned (OpenSpec.upto fnExactJoinAllSpec)

/-- 'laws.FnByteStrings', WHERE WHAT IT READS IS OF BULK AT MOST 1048576: true; the input reads as it did. -/
def fnByteStringsUptoRow : OpenClaim := { program := "ytmlkhgekacjidad", sum := "5822c6b208121f177de50ce07963a2f28a7f938b2ebaf69413d52772d71754b8", func := "loop.example/g00597/laws.FnByteStrings", spec := "fnByteStrings", apart := false, narrowed := true }
def FnByteStringsUptoSaid : Prop := fnByteStringsUptoRow.holds Try.pinned (OpenSpec.upto fnByteStringsSpec)

/-- 'laws.FnExactEqualDocuments', WHERE WHAT IT READS IS OF BULK AT MOST 1048576: true; the input reads as it did. -/
def fnExactEqualDocumentsUptoRow : OpenClaim := { program := "ytmlkhgekacjidad", sum := "5822c6b208121f177de50ce07963a2f28a7f938b2ebaf69413d52772d71754b8", func := "loop.example/g00597/laws.FnExactEqualDocuments", spec := "fnExactEqualDocuments", apart := false, narrowed := true }
def FnExactEqualDocumentsUptoSaid : Prop := fnExactEqualDocumentsUptoRow.holds Try.pinned (OpenSpec.upto fnExactEqualDocumentsSpec)

end Rows
end Go.Proofs.Ytmlkhgekacjidad
