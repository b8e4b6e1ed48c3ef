/- Contracts of the laws' own helpers on methods and slices of methods. For slices of at most 2^40 elements. -/
import Derived.Test.YtgeffaohdoeclaaMeF
import Derived.Deep.RegionHeld3
namespace Go.Proofs.Ytgeffaohdoeclaa
open Go.RowKit Go.WideShapes Go.ChangeShapes Go.Deep
set_option linter.unusedSimpArgs false
set_option linter.unusedVariables false
abbrev mtV (m : Mt) : Value := .agg #[.int .i64 m.a, .int .i64 m.b, .int .i64 m.c, .int .i64 m.d]
theorem Mt.eq_iff {x y : Mt} : x = y ↔ x.a = y.a ∧ x.b = y.b ∧ x.c = y.c ∧ x.d = y.d := by cases x; cases y; simp
end Go.Proofs.Ytgeffaohdoeclaa
