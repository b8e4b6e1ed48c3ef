/-
  No cell of these rows narrows 'for every input' (looked for: loops, veiled, ifaces, maps, wideKeys, modest, calm, conditions, laid).
  DERIVED. THE GIVEN ROWS OF THIS SEAT. 12 by the template 'for every input the law returns true; each argument reads behind the call as it read before'; 0 by the template 'total and deterministic' (their statements: YtmlkhgekacjidaaTotals.lean).
  GIVEN WITH THE SEED: the statements are not yours to turn. If you find one false, say at which input.
  Laid BY PROGRAM, IN A SANDBOX (cutbox-rows.mjs): the forced cells as the released guide's own fill.sh prints them over the translation bebbedad0c4850c4… (all of the seat's roots in one cut). By AI agents, Wed Nov 11 2026. No macro, syntax, notation, axiom, sorry.
-/
import Derived.Test.YtmlkhgekacjidaaChecked
import GoSem.Claim
import GoSem.ClaimJoined
import GoSem.ClaimMapViews
import Derived.JoinedTies
import Derived.KernelRfl
namespace Go.Proofs.Ytmlkhgekacjidaa
/- THE CELL 'sum', in the pinned program and in every row, IS THE sha256 OF THE DUMP (.gsa) THAT YtmlkhgekacjidaaProg.lean LOADS. Nothing in Lean hashes anything: it is a label: what it is worth is what the hold of that sum in a sandbox is worth. -/
noncomputable def Try.pinned : Pinned := { name := "ytmlkhgekacjidaa", sum := "bebbedad0c4850c434aefc8151f0d30e6e68d570b10383633be6cf611905bd44", checked := Try.checked }
namespace Rows
def none {H : Type} : Left H := { results := [], args := [] }

/-- 'laws.FnExactConstants': WHATEVER THE INPUT: true; the input reads as it did. -/
def fnExactConstantsSpec : ChangeSpec := { name := "fnExactConstants", fn := fun _ => fun
  | [] => { results := [.lit (.bool true)], args := [] }
  | _ => none }
def fnExactConstantsRow : OpenClaim := { program := "ytmlkhgekacjidaa", sum := "bebbedad0c4850c434aefc8151f0d30e6e68d570b10383633be6cf611905bd44", func := "loop.example/g00597/laws.FnExactConstants", spec := "fnExactConstants", apart := false }
def FnExactConstantsSaid : Prop := fnExactConstantsRow.holds Try.pinned (OpenSpec.ofChange fnExactConstantsSpec)

/-- ITS FALSE NEIGHBOUR: 'it returns false'. Refute it at one input. -/
def fnExactConstantsWrong : ChangeSpec := { name := "fnExactConstants", fn := fun _ => fun
  | [] => { results := [.lit (.bool false)], args := [] }
  | _ => none }
def FnExactConstantsWrongFalsely : Prop := fnExactConstantsRow.holds Try.pinned (OpenSpec.ofChange fnExactConstantsWrong)

/-- 'laws.FnExactInRange': WHATEVER THE INPUT: true; the input reads as it did. -/
def fnExactInRangeSpec : ChangeSpec := { name := "fnExactInRange", fn := fun _ => fun
  | [d1, d2, d3] => { results := [.lit (.bool true)], args := [d1, d2, d3] }
  | _ => none }
def fnExactInRangeRow : OpenClaim := { program := "ytmlkhgekacjidaa", sum := "bebbedad0c4850c434aefc8151f0d30e6e68d570b10383633be6cf611905bd44", func := "loop.example/g00597/laws.FnExactInRange", spec := "fnExactInRange", apart := false }
def FnExactInRangeSaid : Prop := fnExactInRangeRow.holds Try.pinned (OpenSpec.ofChange fnExactInRangeSpec)

/-- ITS FALSE NEIGHBOUR: 'it returns false'. Refute it at one input. -/
def fnExactInRangeWrong : ChangeSpec := { name := "fnExactInRange", fn := fun _ => fun
  | [d1, d2, d3] => { results := [.lit (.bool false)], args := [d1, d2, d3] }
  | _ => none }
def FnExactInRangeWrongFalsely : Prop := fnExactInRangeRow.holds Try.pinned (OpenSpec.ofChange fnExactInRangeWrong)

/-- 'laws.FnExactIsValidKey': WHATEVER THE INPUT: true; the input reads as it did. -/
def fnExactIsValidKeySpec : ChangeSpec := { name := "fnExactIsValidKey", fn := fun _ => fun
  | [d] => { results := [.lit (.bool true)], args := [d] }
  | _ => none }
def fnExactIsValidKeyRow : OpenClaim := { program := "ytmlkhgekacjidaa", sum := "bebbedad0c4850c434aefc8151f0d30e6e68d570b10383633be6cf611905bd44", func := "loop.example/g00597/laws.FnExactIsValidKey", spec := "fnExactIsValidKey", apart := false }
def FnExactIsValidKeySaid : Prop := fnExactIsValidKeyRow.holds Try.pinned (OpenSpec.ofChange fnExactIsValidKeySpec)

/-- ITS FALSE NEIGHBOUR: 'it returns false'. Refute it at one input. -/
def fnExactIsValidKeyWrong : ChangeSpec := { name := "fnExactIsValidKey", fn := fun _ => fun
  | [d] => { results := [.lit (.bool false)], args := [d] }
  | _ => none }
def FnExactIsValidKeyWrongFalsely : Prop := fnExactIsValidKeyRow.holds Try.pinned (OpenSpec.ofChange fnExactIsValidKeyWrong)

/-- 'laws.FnExactMax': WHATEVER THE INPUT: true; the input reads as it did. -/
def fnExactMaxSpec : ChangeSpec := { name := "fnExactMax", fn := fun _ => fun
  | [d1, d2] => { results := [.lit (.bool true)], args := [d1, d2] }
  | _ => none }
def fnExactMaxRow : OpenClaim := { program := "ytmlkhgekacjidaa", sum := "bebbedad0c4850c434aefc8151f0d30e6e68d570b10383633be6cf611905bd44", func := "loop.example/g00597/laws.FnExactMax", spec := "fnExactMax", apart := false }
def FnExactMaxSaid : Prop := fnExactMaxRow.holds Try.pinned (OpenSpec.ofChange fnExactMaxSpec)

/-- ITS FALSE NEIGHBOUR: 'it returns false'. Refute it at one input. -/
def fnExactMaxWrong : ChangeSpec := { name := "fnExactMax", fn := fun _ => fun
  | [d1, d2] => { results := [.lit (.bool false)], args := [d1, d2] }
  | _ => none }
def FnExactMaxWrongFalsely : Prop := fnExactMaxRow.holds Try.pinned (OpenSpec.ofChange fnExactMaxWrong)

/-- 'laws.FnExactMin': WHATEVER THE INPUT: true; the input reads as it did. -/
def fnExactMinSpec : ChangeSpec := { name := "fnExactMin", fn := fun _ => fun
  | [d1, d2] => { results := [.lit (.bool true)], args := [d1, d2] }
  | _ => none }
def fnExactMinRow : OpenClaim := { program := "ytmlkhgekacjidaa", sum := "bebbedad0c4850c434aefc8151f0d30e6e68d570b10383633be6cf611905bd44", func := "loop.example/g00597/laws.FnExactMin", spec := "fnExactMin", apart := false }
def FnExactMinSaid : Prop := fnExactMinRow.holds Try.pinned (OpenSpec.ofChange fnExactMinSpec)

/-- ITS FALSE NEIGHBOUR: 'it returns false'. Refute it at one input. -/
def fnExactMinWrong : ChangeSpec := { name := "fnExactMin", fn := fun _ => fun
  | [d1, d2] => { results := [.lit (.bool false)], args := [d1, d2] }
  | _ => none }
def FnExactMinWrongFalsely : Prop := fnExactMinRow.holds Try.pinned (OpenSpec.ofChange fnExactMinWrong)

/-- 'laws.FnExactIsSpan': WHATEVER THE INPUT: true; the input reads as it did. -/
def fnExactIsSpanSpec : ChangeSpec := { name := "fnExactIsSpan", fn := fun _ => fun
  | [d] => { results := [.lit (.bool true)], args := [d] }
  | _ => none }
def fnExactIsSpanRow : OpenClaim := { program := "ytmlkhgekacjidaa", sum := "bebbedad0c4850c434aefc8151f0d30e6e68d570b10383633be6cf611905bd44", func := "loop.example/g00597/laws.FnExactIsSpan", spec := "fnExactIsSpan", apart := false }
def FnExactIsSpanSaid : Prop := fnExactIsSpanRow.holds Try.pinned (OpenSpec.ofChange fnExactIsSpanSpec)

/-- ITS FALSE NEIGHBOUR: 'it returns false'. Refute it at one input. -/
def fnExactIsSpanWrong : ChangeSpec := { name := "fnExactIsSpan", fn := fun _ => fun
  | [d] => { results := [.lit (.bool false)], args := [d] }
  | _ => none }
def FnExactIsSpanWrongFalsely : Prop := fnExactIsSpanRow.holds Try.pinned (OpenSpec.ofChange fnExactIsSpanWrong)

/-- 'laws.FnExactCeilDiv': WHATEVER THE INPUT: true; the input reads as it did. -/
def fnExactCeilDivSpec : ChangeSpec := { name := "fnExactCeilDiv", fn := fun _ => fun
  | [d1, d2] => { results := [.lit (.bool true)], args := [d1, d2] }
  | _ => none }
def fnExactCeilDivRow : OpenClaim := { program := "ytmlkhgekacjidaa", sum := "bebbedad0c4850c434aefc8151f0d30e6e68d570b10383633be6cf611905bd44", func := "loop.example/g00597/laws.FnExactCeilDiv", spec := "fnExactCeilDiv", apart := false }
def FnExactCeilDivSaid : Prop := fnExactCeilDivRow.holds Try.pinned (OpenSpec.ofChange fnExactCeilDivSpec)

/-- ITS FALSE NEIGHBOUR: 'it returns false'. Refute it at one input. -/
def fnExactCeilDivWrong : ChangeSpec := { name := "fnExactCeilDiv", fn := fun _ => fun
  | [d1, d2] => { results := [.lit (.bool false)], args := [d1, d2] }
  | _ => none }
def FnExactCeilDivWrongFalsely : Prop := fnExactCeilDivRow.holds Try.pinned (OpenSpec.ofChange fnExactCeilDivWrong)

/-- 'laws.FnRedactions': WHATEVER THE INPUT: true; the input reads as it did. -/
def fnRedactionsSpec : ChangeSpec := { name := "fnRedactions", fn := fun _ => fun
  | [d] => { results := [.lit (.bool true)], args := [d] }
  | _ => none }
def fnRedactionsRow : OpenClaim := { program := "ytmlkhgekacjidaa", sum := "bebbedad0c4850c434aefc8151f0d30e6e68d570b10383633be6cf611905bd44", func := "loop.example/g00597/laws.FnRedactions", spec := "fnRedactions", apart := false }
def FnRedactionsSaid : Prop := fnRedactionsRow.holds Try.pinned (OpenSpec.ofChange fnRedactionsSpec)

/-- ITS FALSE NEIGHBOUR: 'it returns false'. Refute it at one input. -/
def fnRedactionsWrong : ChangeSpec := { name := "fnRedactions", fn := fun _ => fun
  | [d] => { results := [.lit (.bool false)], args := [d] }
  | _ => none }
def FnRedactionsWrongFalsely : Prop := fnRedactionsRow.holds Try.pinned (OpenSpec.ofChange fnRedactionsWrong)

/-- 'laws.FnExactMod': WHATEVER THE INPUT: true; the input reads as it did. -/
def fnExactModSpec : ChangeSpec := { name := "fnExactMod", fn := fun _ => fun
  | [d1, d2] => { results := [.lit (.bool true)], args := [d1, d2] }
  | _ => none }
def fnExactModRow : OpenClaim := { program := "ytmlkhgekacjidaa", sum := "bebbedad0c4850c434aefc8151f0d30e6e68d570b10383633be6cf611905bd44", func := "loop.example/g00597/laws.FnExactMod", spec := "fnExactMod", apart := false }
def FnExactModSaid : Prop := fnExactModRow.holds Try.pinned (OpenSpec.ofChange fnExactModSpec)

/-- ITS FALSE NEIGHBOUR: 'it returns false'. Refute it at one input. -/
def fnExactModWrong : ChangeSpec := { name := "fnExactMod", fn := fun _ => fun
  | [d1, d2] => { results := [.lit (.bool false)], args := [d1, d2] }
  | _ => none }
def FnExactModWrongFalsely : Prop := fnExactModRow.holds Try.pinned (OpenSpec.ofChange fnExactModWrong)

/-- 'laws.FnExactIsInside': WHATEVER THE INPUT: true; the input reads as it did. -/
def fnExactIsInsideSpec : ChangeSpec := { name := "fnExactIsInside", fn := fun _ => fun
  | [d1, d2] => { results := [.lit (.bool true)], args := [d1, d2] }
  | _ => none }
def fnExactIsInsideRow : OpenClaim := { program := "ytmlkhgekacjidaa", sum := "bebbedad0c4850c434aefc8151f0d30e6e68d570b10383633be6cf611905bd44", func := "loop.example/g00597/laws.FnExactIsInside", spec := "fnExactIsInside", apart := false }
def FnExactIsInsideSaid : Prop := fnExactIsInsideRow.holds Try.pinned (OpenSpec.ofChange fnExactIsInsideSpec)

/-- ITS FALSE NEIGHBOUR: 'it returns false'. Refute it at one input. -/
def fnExactIsInsideWrong : ChangeSpec := { name := "fnExactIsInside", fn := fun _ => fun
  | [d1, d2] => { results := [.lit (.bool false)], args := [d1, d2] }
  | _ => none }
def FnExactIsInsideWrongFalsely : Prop := fnExactIsInsideRow.holds Try.pinned (OpenSpec.ofChange fnExactIsInsideWrong)

/-- 'laws.FnExactIsMethod': WHATEVER THE INPUT: true; the input reads as it did. -/
def fnExactIsMethodSpec : ChangeSpec := { name := "fnExactIsMethod", fn := fun _ => fun
  | [d] => { results := [.lit (.bool true)], args := [d] }
  | _ => none }
def fnExactIsMethodRow : OpenClaim := { program := "ytmlkhgekacjidaa", sum := "bebbedad0c4850c434aefc8151f0d30e6e68d570b10383633be6cf611905bd44", func := "loop.example/g00597/laws.FnExactIsMethod", spec := "fnExactIsMethod", apart := false }
def FnExactIsMethodSaid : Prop := fnExactIsMethodRow.holds Try.pinned (OpenSpec.ofChange fnExactIsMethodSpec)

/-- ITS FALSE NEIGHBOUR: 'it returns false'. Refute it at one input. -/
def fnExactIsMethodWrong : ChangeSpec := { name := "fnExactIsMethod", fn := fun _ => fun
  | [d] => { results := [.lit (.bool false)], args := [d] }
  | _ => none }
def FnExactIsMethodWrongFalsely : Prop := fnExactIsMethodRow.holds Try.pinned (OpenSpec.ofChange fnExactIsMethodWrong)

/-- 'laws.FnExactEqualBytes': WHATEVER THE INPUT: true; the input reads as it did. -/
def fnExactEqualBytesSpec : ChangeSpec := { name := "fnExactEqualBytes", fn := fun _ => fun
  | [d1, d2] => { results := [.lit (.bool true)], args := [d1, d2] }
  | _ => none }
def fnExactEqualBytesRow : OpenClaim := { program := "ytmlkhgekacjidaa", sum := "bebbedad0c4850c434aefc8151f0d30e6e68d570b10383633be6cf611905bd44", func := "loop.example/g00597/laws.FnExactEqualBytes", spec := "fnExactEqualBytes", apart := false }
def FnExactEqualBytesSaid : Prop := fnExactEqualBytesRow.holds Try.pinned (OpenSpec.ofChange fnExactEqualBytesSpec)

/-- ITS FALSE NEIGHBOUR: 'it returns false'. Refute it at one input. -/
def fnExactEqualBytesWrong : ChangeSpec := { name := "fnExactEqualBytes", fn := fun _ => fun
  | [d1, d2] => { results := [.lit (.bool false)], args := [d1, d2] }
  | _ => none }
def FnExactEqualBytesWrongFalsely : Prop := fnExactEqualBytesRow.holds Try.pinned (OpenSpec.ofChange fnExactEqualBytesWrong)

/- THE SECOND FORM. 'bulk': how many values and letters a reading holds, each counted each time it is reached (what is shared counts as often as it is met; a slice's spare places count too). A statement '..UptoSaid' is the law's where the arguments, and the package variables that the reading takes, are together of bulk at most 1048576: NARROWER than '..Said'. Prove '..Said' where nothing that the law and all that it calls make is longer than what came in: it says more and counts as full. Else prove '..UptoSaid'. A law counts once. -/
mutual
def uptoBulk {H : Type} : DataW H → Nat
  | .lit (.string bytes) => bytes.length + 1
  | .lit _ => 1
  | .nil => 1
  | .ptr d => uptoBulk d + 1
  | .slice elems spare => uptoBulkAll elems + uptoBulkAll spare + 1
  | .agg parts => uptoBulkAll parts + 1
  | .iface _ d => uptoBulk d + 1
  | .map entries => uptoBulkEntries entries + 1
  | .held _ => 1
def uptoBulkAll {H : Type} : List (DataW H) → Nat
  | [] => 0
  | d :: r => uptoBulk d + uptoBulkAll r
def uptoBulkEntries {H : Type} : List (Lit × DataW H) → Nat
  | [] => 0
  | x :: r => uptoBulkEntry x + uptoBulkEntries r
def uptoBulkEntry {H : Type} : Lit × DataW H → Nat
  | (.string bytes, d) => bytes.length + uptoBulk d + 1
  | (_, d) => uptoBulk d + 1
 end
def uptoSmall : (H : Type) → List (DataW H) → Bool := fun _ ds => decide (uptoBulkAll ds ≤ 1048576)
def OpenSpec.upto (s : _root_.Go.ChangeSpec) : _root_.Go.OpenSpec := { _root_.Go.OpenSpec.ofChange s with cond := some uptoSmall }

/-- 'laws.FnExactConstants', WHERE WHAT IT READS IS OF BULK AT MOST 1048576: true; the input reads as it did. -/
def fnExactConstantsUptoRow : OpenClaim := { program := "ytmlkhgekacjidaa", sum := "bebbedad0c4850c434aefc8151f0d30e6e68d570b10383633be6cf611905bd44", func := "loop.example/g00597/laws.FnExactConstants", spec := "fnExactConstants", apart := false, narrowed := true }
def FnExactConstantsUptoSaid : Prop := fnExactConstantsUptoRow.holds Try.pinned (OpenSpec.upto fnExactConstantsSpec)

/-- 'laws.FnExactInRange', WHERE WHAT IT READS IS OF BULK AT MOST 1048576: true; the input reads as it did. -/
def fnExactInRangeUptoRow : OpenClaim := { program := "ytmlkhgekacjidaa", sum := "bebbedad0c4850c434aefc8151f0d30e6e68d570b10383633be6cf611905bd44", func := "loop.example/g00597/laws.FnExactInRange", spec := "fnExactInRange", apart := false, narrowed := true }
def FnExactInRangeUptoSaid : Prop := fnExactInRangeUptoRow.holds Try.pinned (OpenSpec.upto fnExactInRangeSpec)

/-- 'laws.FnExactIsValidKey', WHERE WHAT IT READS IS OF BULK AT MOST 1048576: true; the input reads as it did. -/
def fnExactIsValidKeyUptoRow : OpenClaim := { program := "ytmlkhgekacjidaa", sum := "bebbedad0c4850c434aefc8151f0d30e6e68d570b10383633be6cf611905bd44", func := "loop.example/g00597/laws.FnExactIsValidKey", spec := "fnExactIsValidKey", apart := false, narrowed := true }
def FnExactIsValidKeyUptoSaid : Prop := fnExactIsValidKeyUptoRow.holds Try.pinned (OpenSpec.upto fnExactIsValidKeySpec)

/-- 'laws.FnExactMax', WHERE WHAT IT READS IS OF BULK AT MOST 1048576: true; the input reads as it did. -/
def fnExactMaxUptoRow : OpenClaim := { program := "ytmlkhgekacjidaa", sum := "bebbedad0c4850c434aefc8151f0d30e6e68d570b10383633be6cf611905bd44", func := "loop.example/g00597/laws.FnExactMax", spec := "fnExactMax", apart := false, narrowed := true }
def FnExactMaxUptoSaid : Prop := fnExactMaxUptoRow.holds Try.pinned (OpenSpec.upto fnExactMaxSpec)

/-- 'laws.FnExactMin', WHERE WHAT IT READS IS OF BULK AT MOST 1048576: true; the input reads as it did. -/
def fnExactMinUptoRow : OpenClaim := { program := "ytmlkhgekacjidaa", sum := "bebbedad0c4850c434aefc8151f0d30e6e68d570b10383633be6cf611905bd44", func := "loop.example/g00597/laws.FnExactMin", spec := "fnExactMin", apart := false, narrowed := true }
def FnExactMinUptoSaid : Prop := fnExactMinUptoRow.holds Try.pinned (OpenSpec.upto fnExactMinSpec)

/-- 'laws.FnExactIsSpan', WHERE WHAT IT READS IS OF BULK AT MOST 1048576: true; the input reads as it did. -/
def fnExactIsSpanUptoRow : OpenClaim := { program := "ytmlkhgekacjidaa", sum := "bebbedad0c4850c434aefc8151f0d30e6e68d570b10383633be6cf611905bd44", func := "loop.example/g00597/laws.FnExactIsSpan", spec := "fnExactIsSpan", apart := false, narrowed := true }
def FnExactIsSpanUptoSaid : Prop := fnExactIsSpanUptoRow.holds Try.pinned (OpenSpec.upto fnExactIsSpanSpec)

/-- 'laws.FnExactCeilDiv', WHERE WHAT IT READS IS OF BULK AT MOST 1048576: true; the input reads as it did. -/
def fnExactCeilDivUptoRow : OpenClaim := { program := "ytmlkhgekacjidaa", sum := "bebbedad0c4850c434aefc8151f0d30e6e68d570b10383633be6cf611905bd44", func := "loop.example/g00597/laws.FnExactCeilDiv", spec := "fnExactCeilDiv", apart := false, narrowed := true }
def FnExactCeilDivUptoSaid : Prop := fnExactCeilDivUptoRow.holds Try.pinned (OpenSpec.upto fnExactCeilDivSpec)

/-- 'laws.FnRedactions', WHERE WHAT IT READS IS OF BULK AT MOST 1048576: true; the input reads as it did. -/
def fnRedactionsUptoRow : OpenClaim := { program := "ytmlkhgekacjidaa", sum := "bebbedad0c4850c434aefc8151f0d30e6e68d570b10383633be6cf611905bd44", func := "loop.example/g00597/laws.FnRedactions", spec := "fnRedactions", apart := false, narrowed := true }
def FnRedactionsUptoSaid : Prop := fnRedactionsUptoRow.holds Try.pinned (OpenSpec.upto fnRedactionsSpec)

/-- 'laws.FnExactMod', WHERE WHAT IT READS IS OF BULK AT MOST 1048576: true; the input reads as it did. -/
def fnExactModUptoRow : OpenClaim := { program := "ytmlkhgekacjidaa", sum := "bebbedad0c4850c434aefc8151f0d30e6e68d570b10383633be6cf611905bd44", func := "loop.example/g00597/laws.FnExactMod", spec := "fnExactMod", apart := false, narrowed := true }
def FnExactModUptoSaid : Prop := fnExactModUptoRow.holds Try.pinned (OpenSpec.upto fnExactModSpec)

/-- 'laws.FnExactIsInside', WHERE WHAT IT READS IS OF BULK AT MOST 1048576: true; the input reads as it did. -/
def fnExactIsInsideUptoRow : OpenClaim := { program := "ytmlkhgekacjidaa", sum := "bebbedad0c4850c434aefc8151f0d30e6e68d570b10383633be6cf611905bd44", func := "loop.example/g00597/laws.FnExactIsInside", spec := "fnExactIsInside", apart := false, narrowed := true }
def FnExactIsInsideUptoSaid : Prop := fnExactIsInsideUptoRow.holds Try.pinned (OpenSpec.upto fnExactIsInsideSpec)

/-- 'laws.FnExactIsMethod', WHERE WHAT IT READS IS OF BULK AT MOST 1048576: true; the input reads as it did. -/
def fnExactIsMethodUptoRow : OpenClaim := { program := "ytmlkhgekacjidaa", sum := "bebbedad0c4850c434aefc8151f0d30e6e68d570b10383633be6cf611905bd44", func := "loop.example/g00597/laws.FnExactIsMethod", spec := "fnExactIsMethod", apart := false, narrowed := true }
def FnExactIsMethodUptoSaid : Prop := fnExactIsMethodUptoRow.holds Try.pinned (OpenSpec.upto fnExactIsMethodSpec)

/-- 'laws.FnExactEqualBytes', WHERE WHAT IT READS IS OF BULK AT MOST 1048576: true; the input reads as it did. -/
def fnExactEqualBytesUptoRow : OpenClaim := { program := "ytmlkhgekacjidaa", sum := "bebbedad0c4850c434aefc8151f0d30e6e68d570b10383633be6cf611905bd44", func := "loop.example/g00597/laws.FnExactEqualBytes", spec := "fnExactEqualBytes", apart := false, narrowed := true }
def FnExactEqualBytesUptoSaid : Prop := fnExactEqualBytesUptoRow.holds Try.pinned (OpenSpec.upto fnExactEqualBytesSpec)

end Rows
end Go.Proofs.Ytmlkhgekacjidaa
