/- Contracts of the laws' own helpers on slices of elements of the kind byte (copy, compare, mark, held), for slices that read as lists of at most 2^40 elements. -/
import Derived.Test.YthjdigiaajdnbaaBase
import Derived.Test.YthjdigiaajdnbaaRows

namespace Go.Proofs.Ythjdigiaajdnbaa
open Go.RowKit Go.WideShapes Go.ChangeShapes Go.Deep
set_option linter.unusedSimpArgs false
set_option linter.unusedVariables false

theorem Byte_info : (Try.prog.info? 5).map (fun i => (i.zero, i.size, i.bytes)) = some (some (.int .u8 0), 1, 1) := by kernel_rfl
end Go.Proofs.Ythjdigiaajdnbaa
