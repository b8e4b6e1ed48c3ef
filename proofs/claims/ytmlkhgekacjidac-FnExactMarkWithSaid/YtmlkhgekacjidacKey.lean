/- Contracts of IsKey, of the program and of the reference, and of the laws' copy of a key. No condition. -/
import Derived.Test.YtmlkhgekacjidacSpan
namespace Go.Proofs.Ytmlkhgekacjidac
open Go.RowKit Go.WideShapes Go.ChangeShapes Go.Deep
set_option linter.unusedSimpArgs false
set_option linter.unusedVariables false
abbrev keV (a b c d s : Int) : Value := .agg #[.int .i64 a, .int .i64 b, .int .i64 c, .int .i64 d, .int .i64 s]
def isKe (a b c d s : Int) : Bool := inR a 1 99 && inR b 0 99 && inR c 0 99 && isT d && inR s 1 2147483646
set_option maxHeartbeats 800000 in
theorem toKey_any (a b c d s : Int) (w : World) :
    Calls Try.prog 24 #[keV a b c d s] w fun e w' => e = .returned (keV a b c d s) ∧ Below w.heap.size w w' := by
  go_enter Try.func24, Try.ntmps24
  go_wp2
  exact bodyPost_ret (v := keV a b c d s) (by simp [results, Try.results24, go_sem, *]) rfl ⟨rfl, by repeat (first | exact Below.refl _ _ | assumption | refine Below.next_ ?_ ?_ (by assumption) | refine Below.drew ?_ | refine below_drewN ?_ _ | refine Below.alloc ?_ ?_ _ | refine Below.setCell ?_ ?_ _ | omega | (simp <;> omega) | (simp at * <;> omega))⟩
end Go.Proofs.Ytmlkhgekacjidac
