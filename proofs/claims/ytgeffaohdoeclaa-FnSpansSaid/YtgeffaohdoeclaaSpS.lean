/- Contracts of the laws' own helpers on slices of spans. For slices of at most 2^40 elements. -/
import Derived.Test.YtgeffaohdoeclaaStr
import Derived.Test.YtgeffaohdoeclaaSpan
import Derived.Test.YtgeffaohdoeclaaQui
namespace Go.Proofs.Ytgeffaohdoeclaa
open Go.RowKit Go.WideShapes Go.ChangeShapes Go.Deep
set_option linter.unusedSimpArgs false
set_option linter.unusedVariables false
abbrev sqV (m : Sp) : Value := .agg #[.int .i64 m.f, .int .i64 m.t]
theorem Sp.eq_iff {x y : Sp} : x = y ↔ x.f = y.f ∧ x.t = y.t := by cases x; cases y; simp
def mkSp (k : Int) (n : Nat) : List Sp := (List.range n).map fun j : Nat => ⟨k + 2 * (j : Int), k + 2 * (j : Int) + 1⟩
theorem mkSp_length (k : Int) (n : Nat) : (mkSp k n).length = n := by simp [mkSp]
theorem mkSp_succ (k : Int) (n : Nat) : mkSp k (n + 1) = mkSp k n ++ [⟨k + 2 * (n : Int), k + 2 * (n : Int) + 1⟩] := by simp [mkSp, List.range_succ]
theorem mkSp_at (k : Int) {n j : Nat} (h : j < n) : (mkSp k n)[j]? = some ⟨k + 2 * (j : Int), k + 2 * (j : Int) + 1⟩ := by simp [mkSp, h]
theorem Span_info : (Try.prog.info? 65).map (fun i => (i.zero, i.size, i.bytes)) = some (some (sqV ⟨0, 0⟩), 2, 16) := by kernel_rfl
end Go.Proofs.Ytgeffaohdoeclaa
