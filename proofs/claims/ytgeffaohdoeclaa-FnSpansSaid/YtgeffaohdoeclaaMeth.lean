/- Contracts of IsMethod, of the program and of the reference, and of the laws' copy of a method. No condition. -/
import Derived.Test.YtgeffaohdoeclaaSpan
namespace Go.Proofs.Ytgeffaohdoeclaa
open Go.RowKit Go.WideShapes Go.ChangeShapes Go.Deep
set_option linter.unusedSimpArgs false
set_option linter.unusedVariables false
abbrev meV (a b c d : Int) : Value := .agg #[.int .i64 a, .int .i64 b, .int .i64 c, .int .i64 d]
def isMe (a b c d : Int) : Bool := inR a 0 99 && isT b && inR c 1 10001 && inR d 1 10001 && decide (b < c) && decide (b < d)
end Go.Proofs.Ytgeffaohdoeclaa
