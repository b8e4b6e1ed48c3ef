/- The contract of the reference's MeetSpans. No condition. -/
import Derived.Test.YtgeffaohdoeclaaSpanM
import Derived.Deep.RegionHeld3
namespace Go.Proofs.Ytgeffaohdoeclaa
open Go.RowKit Go.WideShapes Go.ChangeShapes Go.Deep
set_option linter.unusedSimpArgs false
set_option linter.unusedVariables false

end Go.Proofs.Ytgeffaohdoeclaa
