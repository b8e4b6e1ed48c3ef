/- Contracts of EqualBytes, of the program and of the reference. For every two slices. -/
import Derived.Test.YtmlkhgekacjidaaByteS
namespace Go.Proofs.Ytmlkhgekacjidaa
open Go.RowKit Go.WideShapes Go.ChangeShapes Go.Deep
set_option linter.unusedSimpArgs false
set_option linter.unusedVariables false
def eqB (l m : List Int) : Bool := (strOfNums l).toList == (strOfNums m).toList
theorem specEqualBytes_any {A B : Option Addr} {n m c d : Nat} {l1 l2 : List Int} {w : World} (h1 : Rd w 1 A n (u8s l1)) (h2 : Rd w 1 B m (u8s l2)) :
    Calls Try.prog 47 #[.slice A n c, .slice B m d] w fun e w' => e = .returned (.bool (eqB l1 l2)) ∧ ∃ q, w' = w.drewN q := by
  have c1 := conv_rd (P := Try.prog) 33 9 5 Try.underlying33 Try.underlying5 Try.underlying9 w (c := c) h1
  have c2 := conv_rd (P := Try.prog) 33 9 5 Try.underlying33 Try.underlying5 Try.underlying9 w (c := d) h2
  go_enter Try.func47, Try.ntmps47
  go_wp2
  go_ret
  exact ⟨ret_b rfl, 0, rfl⟩
theorem implEqualBytes_any {A B : Option Addr} {n m c d : Nat} {l1 l2 : List Int} {w : World} (h1 : Rd w 1 A n (u8s l1)) (h2 : Rd w 1 B m (u8s l2)) :
    Calls Try.prog 49 #[.slice A n c, .slice B m d] w fun e w' => e = .returned (.bool (eqB l1 l2)) ∧ ∃ q, w' = w.drewN q := by
  have c1 := conv_rd (P := Try.prog) 33 9 5 Try.underlying33 Try.underlying5 Try.underlying9 w (c := c) h1
  have c2 := conv_rd (P := Try.prog) 33 9 5 Try.underlying33 Try.underlying5 Try.underlying9 w (c := d) h2
  go_enter Try.func49, Try.ntmps49
  go_wp2
  go_ret
  exact ⟨ret_b rfl, 0, rfl⟩
end Go.Proofs.Ytmlkhgekacjidaa
