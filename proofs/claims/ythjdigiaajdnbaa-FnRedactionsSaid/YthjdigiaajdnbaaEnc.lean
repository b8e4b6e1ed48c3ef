/- Contracts of AppendBytes, EncodeInts, bytesOf and BytesToInts, of the program and of the reference. For slices of at most 2^40 elements. -/
import Derived.Test.YthjdigiaajdnbaaUv
import Derived.Test.YthjdigiaajdnbaaOwnB
namespace Go.Proofs.Ythjdigiaajdnbaa
open Go.RowKit Go.WideShapes Go.ChangeShapes Go.Deep
set_option linter.unusedSimpArgs false
set_option linter.unusedVariables false

def encL (l : List Int) : List Int := l.foldl appU []
theorem encL_snoc (l : List Int) (x : Int) : encL (l ++ [x]) = appU (encL l) x := by simp [encL]
theorem encL_acc : ∀ (l acc : List Int), (l.foldl appU acc).length ≤ acc.length + 6 * l.length := by
  intro l
  induction l with
  | nil => intro acc; simp
  | cons x l ih =>
    intro acc
    have h1 := ih (appU acc x)
    have h2 := appU_len acc x
    simp only [List.foldl_cons, List.length_cons]
    omega
theorem encL_len (l : List Int) : (encL l).length ≤ 6 * l.length := by simpa [encL] using encL_acc l []
end Go.Proofs.Ythjdigiaajdnbaa
