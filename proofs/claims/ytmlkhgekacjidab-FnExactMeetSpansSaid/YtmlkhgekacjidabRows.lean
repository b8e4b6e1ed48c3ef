/-
  No cell of these rows narrows 'for every input' (looked for: loops, veiled, ifaces, maps, wideKeys, modest, calm, conditions, laid).
  DERIVED. THE GIVEN ROWS OF THIS SEAT. 12 by the template 'for every input the law returns true; each argument reads behind the call as it read before'; 0 by the template 'total and deterministic' (their statements: YtmlkhgekacjidabTotals.lean).
  GIVEN WITH THE SEED: the statements are not yours to turn. If you find one false, say at which input.
  Laid BY PROGRAM, IN A SANDBOX (cutbox-rows.mjs): the forced cells as the released guide's own fill.sh prints them over the translation 328d0bcbbe5b448e… (all of the seat's roots in one cut). By AI agents, Wed Nov 11 2026. No macro, syntax, notation, axiom, sorry.
-/
import Derived.Test.YtmlkhgekacjidabChecked
import GoSem.Claim
import GoSem.ClaimJoined
import GoSem.ClaimMapViews
import Derived.JoinedTies
import Derived.KernelRfl
namespace Go.Proofs.Ytmlkhgekacjidab
/- THE CELL 'sum', in the pinned program and in every row, IS THE sha256 OF THE DUMP (.gsa) THAT YtmlkhgekacjidabProg.lean LOADS. Nothing in Lean hashes anything: it is a label: what it is worth is what the hold of that sum in a sandbox is worth. -/
noncomputable def Try.pinned : Pinned := { name := "ytmlkhgekacjidab", sum := "328d0bcbbe5b448e079a00198df7d8c3574b8dc46213fcc975675eb9299234dd", checked := Try.checked }
namespace Rows
def none {H : Type} : Left H := { results := [], args := [] }

/-- 'laws.FnExactIsKey': WHATEVER THE INPUT: true; the input reads as it did. -/
def fnExactIsKeySpec : ChangeSpec := { name := "fnExactIsKey", fn := fun _ => fun
  | [d] => { results := [.lit (.bool true)], args := [d] }
  | _ => none }
def fnExactIsKeyRow : OpenClaim := { program := "ytmlkhgekacjidab", sum := "328d0bcbbe5b448e079a00198df7d8c3574b8dc46213fcc975675eb9299234dd", func := "loop.example/g00597/laws.FnExactIsKey", spec := "fnExactIsKey", apart := false }
def FnExactIsKeySaid : Prop := fnExactIsKeyRow.holds Try.pinned (OpenSpec.ofChange fnExactIsKeySpec)

/-- ITS FALSE NEIGHBOUR: 'it returns false'. Refute it at one input. -/
def fnExactIsKeyWrong : ChangeSpec := { name := "fnExactIsKey", fn := fun _ => fun
  | [d] => { results := [.lit (.bool false)], args := [d] }
  | _ => none }
def FnExactIsKeyWrongFalsely : Prop := fnExactIsKeyRow.holds Try.pinned (OpenSpec.ofChange fnExactIsKeyWrong)

/-- 'laws.FnExactFormatInt': WHATEVER THE INPUT: true; the input reads as it did. -/
def fnExactFormatIntSpec : ChangeSpec := { name := "fnExactFormatInt", fn := fun _ => fun
  | [d] => { results := [.lit (.bool true)], args := [d] }
  | _ => none }
def fnExactFormatIntRow : OpenClaim := { program := "ytmlkhgekacjidab", sum := "328d0bcbbe5b448e079a00198df7d8c3574b8dc46213fcc975675eb9299234dd", func := "loop.example/g00597/laws.FnExactFormatInt", spec := "fnExactFormatInt", apart := false }
def FnExactFormatIntSaid : Prop := fnExactFormatIntRow.holds Try.pinned (OpenSpec.ofChange fnExactFormatIntSpec)

/-- ITS FALSE NEIGHBOUR: 'it returns false'. Refute it at one input. -/
def fnExactFormatIntWrong : ChangeSpec := { name := "fnExactFormatInt", fn := fun _ => fun
  | [d] => { results := [.lit (.bool false)], args := [d] }
  | _ => none }
def FnExactFormatIntWrongFalsely : Prop := fnExactFormatIntRow.holds Try.pinned (OpenSpec.ofChange fnExactFormatIntWrong)

/-- 'laws.FnExactRedactDocument': WHATEVER THE INPUT: true; the input reads as it did. -/
def fnExactRedactDocumentSpec : ChangeSpec := { name := "fnExactRedactDocument", fn := fun _ => fun
  | [d1, d2, d3] => { results := [.lit (.bool true)], args := [d1, d2, d3] }
  | _ => none }
def fnExactRedactDocumentRow : OpenClaim := { program := "ytmlkhgekacjidab", sum := "328d0bcbbe5b448e079a00198df7d8c3574b8dc46213fcc975675eb9299234dd", func := "loop.example/g00597/laws.FnExactRedactDocument", spec := "fnExactRedactDocument", apart := false }
def FnExactRedactDocumentSaid : Prop := fnExactRedactDocumentRow.holds Try.pinned (OpenSpec.ofChange fnExactRedactDocumentSpec)

/-- ITS FALSE NEIGHBOUR: 'it returns false'. Refute it at one input. -/
def fnExactRedactDocumentWrong : ChangeSpec := { name := "fnExactRedactDocument", fn := fun _ => fun
  | [d1, d2, d3] => { results := [.lit (.bool false)], args := [d1, d2, d3] }
  | _ => none }
def FnExactRedactDocumentWrongFalsely : Prop := fnExactRedactDocumentRow.holds Try.pinned (OpenSpec.ofChange fnExactRedactDocumentWrong)

/-- 'laws.FnExactMakeSpan': WHATEVER THE INPUT: true; the input reads as it did. -/
def fnExactMakeSpanSpec : ChangeSpec := { name := "fnExactMakeSpan", fn := fun _ => fun
  | [d1, d2] => { results := [.lit (.bool true)], args := [d1, d2] }
  | _ => none }
def fnExactMakeSpanRow : OpenClaim := { program := "ytmlkhgekacjidab", sum := "328d0bcbbe5b448e079a00198df7d8c3574b8dc46213fcc975675eb9299234dd", func := "loop.example/g00597/laws.FnExactMakeSpan", spec := "fnExactMakeSpan", apart := false }
def FnExactMakeSpanSaid : Prop := fnExactMakeSpanRow.holds Try.pinned (OpenSpec.ofChange fnExactMakeSpanSpec)

/-- ITS FALSE NEIGHBOUR: 'it returns false'. Refute it at one input. -/
def fnExactMakeSpanWrong : ChangeSpec := { name := "fnExactMakeSpan", fn := fun _ => fun
  | [d1, d2] => { results := [.lit (.bool false)], args := [d1, d2] }
  | _ => none }
def FnExactMakeSpanWrongFalsely : Prop := fnExactMakeSpanRow.holds Try.pinned (OpenSpec.ofChange fnExactMakeSpanWrong)

/-- 'laws.FnExactEqualInts': WHATEVER THE INPUT: true; the input reads as it did. -/
def fnExactEqualIntsSpec : ChangeSpec := { name := "fnExactEqualInts", fn := fun _ => fun
  | [d1, d2] => { results := [.lit (.bool true)], args := [d1, d2] }
  | _ => none }
def fnExactEqualIntsRow : OpenClaim := { program := "ytmlkhgekacjidab", sum := "328d0bcbbe5b448e079a00198df7d8c3574b8dc46213fcc975675eb9299234dd", func := "loop.example/g00597/laws.FnExactEqualInts", spec := "fnExactEqualInts", apart := false }
def FnExactEqualIntsSaid : Prop := fnExactEqualIntsRow.holds Try.pinned (OpenSpec.ofChange fnExactEqualIntsSpec)

/-- ITS FALSE NEIGHBOUR: 'it returns false'. Refute it at one input. -/
def fnExactEqualIntsWrong : ChangeSpec := { name := "fnExactEqualInts", fn := fun _ => fun
  | [d1, d2] => { results := [.lit (.bool false)], args := [d1, d2] }
  | _ => none }
def FnExactEqualIntsWrongFalsely : Prop := fnExactEqualIntsRow.holds Try.pinned (OpenSpec.ofChange fnExactEqualIntsWrong)

/-- 'laws.FnExactHash': WHATEVER THE INPUT: true; the input reads as it did. -/
def fnExactHashSpec : ChangeSpec := { name := "fnExactHash", fn := fun _ => fun
  | [d] => { results := [.lit (.bool true)], args := [d] }
  | _ => none }
def fnExactHashRow : OpenClaim := { program := "ytmlkhgekacjidab", sum := "328d0bcbbe5b448e079a00198df7d8c3574b8dc46213fcc975675eb9299234dd", func := "loop.example/g00597/laws.FnExactHash", spec := "fnExactHash", apart := false }
def FnExactHashSaid : Prop := fnExactHashRow.holds Try.pinned (OpenSpec.ofChange fnExactHashSpec)

/-- ITS FALSE NEIGHBOUR: 'it returns false'. Refute it at one input. -/
def fnExactHashWrong : ChangeSpec := { name := "fnExactHash", fn := fun _ => fun
  | [d] => { results := [.lit (.bool false)], args := [d] }
  | _ => none }
def FnExactHashWrongFalsely : Prop := fnExactHashRow.holds Try.pinned (OpenSpec.ofChange fnExactHashWrong)

/-- 'laws.FnExactPartDigest': WHATEVER THE INPUT: true; the input reads as it did. -/
def fnExactPartDigestSpec : ChangeSpec := { name := "fnExactPartDigest", fn := fun _ => fun
  | [d1, d2, d3] => { results := [.lit (.bool true)], args := [d1, d2, d3] }
  | _ => none }
def fnExactPartDigestRow : OpenClaim := { program := "ytmlkhgekacjidab", sum := "328d0bcbbe5b448e079a00198df7d8c3574b8dc46213fcc975675eb9299234dd", func := "loop.example/g00597/laws.FnExactPartDigest", spec := "fnExactPartDigest", apart := false }
def FnExactPartDigestSaid : Prop := fnExactPartDigestRow.holds Try.pinned (OpenSpec.ofChange fnExactPartDigestSpec)

/-- ITS FALSE NEIGHBOUR: 'it returns false'. Refute it at one input. -/
def fnExactPartDigestWrong : ChangeSpec := { name := "fnExactPartDigest", fn := fun _ => fun
  | [d1, d2, d3] => { results := [.lit (.bool false)], args := [d1, d2, d3] }
  | _ => none }
def FnExactPartDigestWrongFalsely : Prop := fnExactPartDigestRow.holds Try.pinned (OpenSpec.ofChange fnExactPartDigestWrong)

/-- 'laws.FnExactDigestOf': WHATEVER THE INPUT: true; the input reads as it did. -/
def fnExactDigestOfSpec : ChangeSpec := { name := "fnExactDigestOf", fn := fun _ => fun
  | [d1, d2] => { results := [.lit (.bool true)], args := [d1, d2] }
  | _ => none }
def fnExactDigestOfRow : OpenClaim := { program := "ytmlkhgekacjidab", sum := "328d0bcbbe5b448e079a00198df7d8c3574b8dc46213fcc975675eb9299234dd", func := "loop.example/g00597/laws.FnExactDigestOf", spec := "fnExactDigestOf", apart := false }
def FnExactDigestOfSaid : Prop := fnExactDigestOfRow.holds Try.pinned (OpenSpec.ofChange fnExactDigestOfSpec)

/-- ITS FALSE NEIGHBOUR: 'it returns false'. Refute it at one input. -/
def fnExactDigestOfWrong : ChangeSpec := { name := "fnExactDigestOf", fn := fun _ => fun
  | [d1, d2] => { results := [.lit (.bool false)], args := [d1, d2] }
  | _ => none }
def FnExactDigestOfWrongFalsely : Prop := fnExactDigestOfRow.holds Try.pinned (OpenSpec.ofChange fnExactDigestOfWrong)

/-- 'laws.FnExactKeyedHash': WHATEVER THE INPUT: true; the input reads as it did. -/
def fnExactKeyedHashSpec : ChangeSpec := { name := "fnExactKeyedHash", fn := fun _ => fun
  | [d1, d2] => { results := [.lit (.bool true)], args := [d1, d2] }
  | _ => none }
def fnExactKeyedHashRow : OpenClaim := { program := "ytmlkhgekacjidab", sum := "328d0bcbbe5b448e079a00198df7d8c3574b8dc46213fcc975675eb9299234dd", func := "loop.example/g00597/laws.FnExactKeyedHash", spec := "fnExactKeyedHash", apart := false }
def FnExactKeyedHashSaid : Prop := fnExactKeyedHashRow.holds Try.pinned (OpenSpec.ofChange fnExactKeyedHashSpec)

/-- ITS FALSE NEIGHBOUR: 'it returns false'. Refute it at one input. -/
def fnExactKeyedHashWrong : ChangeSpec := { name := "fnExactKeyedHash", fn := fun _ => fun
  | [d1, d2] => { results := [.lit (.bool false)], args := [d1, d2] }
  | _ => none }
def FnExactKeyedHashWrongFalsely : Prop := fnExactKeyedHashRow.holds Try.pinned (OpenSpec.ofChange fnExactKeyedHashWrong)

/-- 'laws.FnExactReadUvarint': WHATEVER THE INPUT: true; the input reads as it did. -/
def fnExactReadUvarintSpec : ChangeSpec := { name := "fnExactReadUvarint", fn := fun _ => fun
  | [d1, d2] => { results := [.lit (.bool true)], args := [d1, d2] }
  | _ => none }
def fnExactReadUvarintRow : OpenClaim := { program := "ytmlkhgekacjidab", sum := "328d0bcbbe5b448e079a00198df7d8c3574b8dc46213fcc975675eb9299234dd", func := "loop.example/g00597/laws.FnExactReadUvarint", spec := "fnExactReadUvarint", apart := false }
def FnExactReadUvarintSaid : Prop := fnExactReadUvarintRow.holds Try.pinned (OpenSpec.ofChange fnExactReadUvarintSpec)

/-- ITS FALSE NEIGHBOUR: 'it returns false'. Refute it at one input. -/
def fnExactReadUvarintWrong : ChangeSpec := { name := "fnExactReadUvarint", fn := fun _ => fun
  | [d1, d2] => { results := [.lit (.bool false)], args := [d1, d2] }
  | _ => none }
def FnExactReadUvarintWrongFalsely : Prop := fnExactReadUvarintRow.holds Try.pinned (OpenSpec.ofChange fnExactReadUvarintWrong)

/-- 'laws.FnExactIsRedactionOf': WHATEVER THE INPUT: true; the input reads as it did. -/
def fnExactIsRedactionOfSpec : ChangeSpec := { name := "fnExactIsRedactionOf", fn := fun _ => fun
  | [d1, d2] => { results := [.lit (.bool true)], args := [d1, d2] }
  | _ => none }
def fnExactIsRedactionOfRow : OpenClaim := { program := "ytmlkhgekacjidab", sum := "328d0bcbbe5b448e079a00198df7d8c3574b8dc46213fcc975675eb9299234dd", func := "loop.example/g00597/laws.FnExactIsRedactionOf", spec := "fnExactIsRedactionOf", apart := false }
def FnExactIsRedactionOfSaid : Prop := fnExactIsRedactionOfRow.holds Try.pinned (OpenSpec.ofChange fnExactIsRedactionOfSpec)

/-- ITS FALSE NEIGHBOUR: 'it returns false'. Refute it at one input. -/
def fnExactIsRedactionOfWrong : ChangeSpec := { name := "fnExactIsRedactionOf", fn := fun _ => fun
  | [d1, d2] => { results := [.lit (.bool false)], args := [d1, d2] }
  | _ => none }
def FnExactIsRedactionOfWrongFalsely : Prop := fnExactIsRedactionOfRow.holds Try.pinned (OpenSpec.ofChange fnExactIsRedactionOfWrong)

/-- 'laws.FnExactMeetSpans': WHATEVER THE INPUT: true; the input reads as it did. -/
def fnExactMeetSpansSpec : ChangeSpec := { name := "fnExactMeetSpans", fn := fun _ => fun
  | [d1, d2] => { results := [.lit (.bool true)], args := [d1, d2] }
  | _ => none }
def fnExactMeetSpansRow : OpenClaim := { program := "ytmlkhgekacjidab", sum := "328d0bcbbe5b448e079a00198df7d8c3574b8dc46213fcc975675eb9299234dd", func := "loop.example/g00597/laws.FnExactMeetSpans", spec := "fnExactMeetSpans", apart := false }
def FnExactMeetSpansSaid : Prop := fnExactMeetSpansRow.holds Try.pinned (OpenSpec.ofChange fnExactMeetSpansSpec)

/-- ITS FALSE NEIGHBOUR: 'it returns false'. Refute it at one input. -/
def fnExactMeetSpansWrong : ChangeSpec := { name := "fnExactMeetSpans", fn := fun _ => fun
  | [d1, d2] => { results := [.lit (.bool false)], args := [d1, d2] }
  | _ => none }
def FnExactMeetSpansWrongFalsely : Prop := fnExactMeetSpansRow.holds Try.pinned (OpenSpec.ofChange fnExactMeetSpansWrong)

/- THE SECOND FORM. 'bulk': how many values and letters a reading holds, each counted each time it is reached (what is shared counts as often as it is met; a slice's spare places count too). A statement '..UptoSaid' is the law's where the arguments, and the package variables that the reading takes, are together of bulk at most 1048576: NARROWER than '..Said'. Prove '..Said' where nothing that the law and all that it calls make is longer than what came in: it says more and counts as full. Else prove '..UptoSaid'. A law counts once. -/
mutual
def uptoBulk {H : Type} : DataW H → Nat
  | .lit (.string bytes) => bytes.length + 1
  | .lit _ => 1
  | .nil => 1
  | .ptr d => uptoBulk d + 1
  | .slice elems spare => uptoBulkAll elems + uptoBulkAll spare + 1
  | .agg parts => uptoBulkAll parts + 1
  | .iface _ d => uptoBulk d + 1
  | .map entries => uptoBulkEntries entries + 1
  | .held _ => 1
def uptoBulkAll {H : Type} : List (DataW H) → Nat
  | [] => 0
  | d :: r => uptoBulk d + uptoBulkAll r
def uptoBulkEntries {H : Type} : List (Lit × DataW H) → Nat
  | [] => 0
  | x :: r => uptoBulkEntry x + uptoBulkEntries r
def uptoBulkEntry {H : Type} : Lit × DataW H → Nat
  | (.string bytes, d) => bytes.length + uptoBulk d + 1
  | (_, d) => uptoBulk d + 1
 end
def uptoSmall : (H : Type) → List (DataW H) → Bool := fun _ ds => decide (uptoBulkAll ds ≤ 1048576)
def OpenSpec.upto (s : _root_.Go.ChangeSpec) : _root_.Go.OpenSpec := { _root_.Go.OpenSpec.ofChange s with cond := some uptoSmall }

/-- 'laws.FnExactIsKey', WHERE WHAT IT READS IS OF BULK AT MOST 1048576: true; the input reads as it did. -/
def fnExactIsKeyUptoRow : OpenClaim := { program := "ytmlkhgekacjidab", sum := "328d0bcbbe5b448e079a00198df7d8c3574b8dc46213fcc975675eb9299234dd", func := "loop.example/g00597/laws.FnExactIsKey", spec := "fnExactIsKey", apart := false, narrowed := true }
def FnExactIsKeyUptoSaid : Prop := fnExactIsKeyUptoRow.holds Try.pinned (OpenSpec.upto fnExactIsKeySpec)

/-- 'laws.FnExactFormatInt', WHERE WHAT IT READS IS OF BULK AT MOST 1048576: true; the input reads as it did. -/
def fnExactFormatIntUptoRow : OpenClaim := { program := "ytmlkhgekacjidab", sum := "328d0bcbbe5b448e079a00198df7d8c3574b8dc46213fcc975675eb9299234dd", func := "loop.example/g00597/laws.FnExactFormatInt", spec := "fnExactFormatInt", apart := false, narrowed := true }
def FnExactFormatIntUptoSaid : Prop := fnExactFormatIntUptoRow.holds Try.pinned (OpenSpec.upto fnExactFormatIntSpec)

/-- 'laws.FnExactRedactDocument', WHERE WHAT IT READS IS OF BULK AT MOST 1048576: true; the input reads as it did. -/
def fnExactRedactDocumentUptoRow : OpenClaim := { program := "ytmlkhgekacjidab", sum := "328d0bcbbe5b448e079a00198df7d8c3574b8dc46213fcc975675eb9299234dd", func := "loop.example/g00597/laws.FnExactRedactDocument", spec := "fnExactRedactDocument", apart := false, narrowed := true }
def FnExactRedactDocumentUptoSaid : Prop := fnExactRedactDocumentUptoRow.holds Try.pinned (OpenSpec.upto fnExactRedactDocumentSpec)

/-- 'laws.FnExactMakeSpan', WHERE WHAT IT READS IS OF BULK AT MOST 1048576: true; the input reads as it did. -/
def fnExactMakeSpanUptoRow : OpenClaim := { program := "ytmlkhgekacjidab", sum := "328d0bcbbe5b448e079a00198df7d8c3574b8dc46213fcc975675eb9299234dd", func := "loop.example/g00597/laws.FnExactMakeSpan", spec := "fnExactMakeSpan", apart := false, narrowed := true }
def FnExactMakeSpanUptoSaid : Prop := fnExactMakeSpanUptoRow.holds Try.pinned (OpenSpec.upto fnExactMakeSpanSpec)

/-- 'laws.FnExactEqualInts', WHERE WHAT IT READS IS OF BULK AT MOST 1048576: true; the input reads as it did. -/
def fnExactEqualIntsUptoRow : OpenClaim := { program := "ytmlkhgekacjidab", sum := "328d0bcbbe5b448e079a00198df7d8c3574b8dc46213fcc975675eb9299234dd", func := "loop.example/g00597/laws.FnExactEqualInts", spec := "fnExactEqualInts", apart := false, narrowed := true }
def FnExactEqualIntsUptoSaid : Prop := fnExactEqualIntsUptoRow.holds Try.pinned (OpenSpec.upto fnExactEqualIntsSpec)

/-- 'laws.FnExactHash', WHERE WHAT IT READS IS OF BULK AT MOST 1048576: true; the input reads as it did. -/
def fnExactHashUptoRow : OpenClaim := { program := "ytmlkhgekacjidab", sum := "328d0bcbbe5b448e079a00198df7d8c3574b8dc46213fcc975675eb9299234dd", func := "loop.example/g00597/laws.FnExactHash", spec := "fnExactHash", apart := false, narrowed := true }
def FnExactHashUptoSaid : Prop := fnExactHashUptoRow.holds Try.pinned (OpenSpec.upto fnExactHashSpec)

/-- 'laws.FnExactPartDigest', WHERE WHAT IT READS IS OF BULK AT MOST 1048576: true; the input reads as it did. -/
def fnExactPartDigestUptoRow : OpenClaim := { program := "ytmlkhgekacjidab", sum := "328d0bcbbe5b448e079a00198df7d8c3574b8dc46213fcc975675eb9299234dd", func := "loop.example/g00597/laws.FnExactPartDigest", spec := "fnExactPartDigest", apart := false, narrowed := true }
def FnExactPartDigestUptoSaid : Prop := fnExactPartDigestUptoRow.holds Try.pinned (OpenSpec.upto fnExactPartDigestSpec)

/-- 'laws.FnExactDigestOf', WHERE WHAT IT READS IS OF BULK AT MOST 1048576: true; the input reads as it did. -/
def fnExactDigestOfUptoRow : OpenClaim := { program := "ytmlkhgekacjidab", sum := "328d0bcbbe5b448e079a00198df7d8c3574b8dc46213fcc975675eb9299234dd", func := "loop.example/g00597/laws.FnExactDigestOf", spec := "fnExactDigestOf", apart := false, narrowed := true }
def FnExactDigestOfUptoSaid : Prop := fnExactDigestOfUptoRow.holds Try.pinned (OpenSpec.upto fnExactDigestOfSpec)

/-- 'laws.FnExactKeyedHash', WHERE WHAT IT READS IS OF BULK AT MOST 1048576: true; the input reads as it did. -/
def fnExactKeyedHashUptoRow : OpenClaim := { program := "ytmlkhgekacjidab", sum := "328d0bcbbe5b448e079a00198df7d8c3574b8dc46213fcc975675eb9299234dd", func := "loop.example/g00597/laws.FnExactKeyedHash", spec := "fnExactKeyedHash", apart := false, narrowed := true }
def FnExactKeyedHashUptoSaid : Prop := fnExactKeyedHashUptoRow.holds Try.pinned (OpenSpec.upto fnExactKeyedHashSpec)

/-- 'laws.FnExactReadUvarint', WHERE WHAT IT READS IS OF BULK AT MOST 1048576: true; the input reads as it did. -/
def fnExactReadUvarintUptoRow : OpenClaim := { program := "ytmlkhgekacjidab", sum := "328d0bcbbe5b448e079a00198df7d8c3574b8dc46213fcc975675eb9299234dd", func := "loop.example/g00597/laws.FnExactReadUvarint", spec := "fnExactReadUvarint", apart := false, narrowed := true }
def FnExactReadUvarintUptoSaid : Prop := fnExactReadUvarintUptoRow.holds Try.pinned (OpenSpec.upto fnExactReadUvarintSpec)

/-- 'laws.FnExactIsRedactionOf', WHERE WHAT IT READS IS OF BULK AT MOST 1048576: true; the input reads as it did. -/
def fnExactIsRedactionOfUptoRow : OpenClaim := { program := "ytmlkhgekacjidab", sum := "328d0bcbbe5b448e079a00198df7d8c3574b8dc46213fcc975675eb9299234dd", func := "loop.example/g00597/laws.FnExactIsRedactionOf", spec := "fnExactIsRedactionOf", apart := false, narrowed := true }
def FnExactIsRedactionOfUptoSaid : Prop := fnExactIsRedactionOfUptoRow.holds Try.pinned (OpenSpec.upto fnExactIsRedactionOfSpec)

/-- 'laws.FnExactMeetSpans', WHERE WHAT IT READS IS OF BULK AT MOST 1048576: true; the input reads as it did. -/
def fnExactMeetSpansUptoRow : OpenClaim := { program := "ytmlkhgekacjidab", sum := "328d0bcbbe5b448e079a00198df7d8c3574b8dc46213fcc975675eb9299234dd", func := "loop.example/g00597/laws.FnExactMeetSpans", spec := "fnExactMeetSpans", apart := false, narrowed := true }
def FnExactMeetSpansUptoSaid : Prop := fnExactMeetSpansUptoRow.holds Try.pinned (OpenSpec.upto fnExactMeetSpansSpec)

end Rows
end Go.Proofs.Ytmlkhgekacjidab
