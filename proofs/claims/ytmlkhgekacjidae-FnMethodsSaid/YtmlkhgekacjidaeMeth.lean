/- Contracts of IsMethod, of the program and of the reference, and of the laws' copy of a method. No condition. -/
import Derived.Test.YtmlkhgekacjidaeSpan
namespace Go.Proofs.Ytmlkhgekacjidae
open Go.RowKit Go.WideShapes Go.ChangeShapes Go.Deep
set_option linter.unusedSimpArgs false
set_option linter.unusedVariables false
abbrev meV (a b c d : Int) : Value := .agg #[.int .i64 a, .int .i64 b, .int .i64 c, .int .i64 d]
def isMe (a b c d : Int) : Bool := inR a 0 99 && isT b && inR c 1 10001 && inR d 1 10001 && decide (b < c) && decide (b < d)
set_option maxHeartbeats 1600000 in
theorem specIsMethod_any (a b c d : Int) (w : World) :
    Calls Try.prog 100 #[meV a b c d] w fun e w' => e = .returned (.bool (isMe a b c d)) ∧ Below w.heap.size w w' := by
  unfold isMe
  go_enter Try.func100, Try.ntmps100
  go_wp2_with (first | (go_at_call 126; refine (l1In_any _ _ _ _).mono ?_; rintro e w' ⟨rfl, rfl⟩) | (go_at_call 122; refine (l4Time_any _ _).mono ?_; rintro e w' ⟨rfl, rfl⟩))
  all_goals go_ret
  all_goals exact ⟨ret_b (by first | (simp [*]; done) | (simp [*]; omega) | (simp [*]; intros; omega)), by repeat (first | exact Below.refl _ _ | assumption | refine Below.next_ ?_ ?_ (by assumption) | refine Below.drew ?_ | refine below_drewN ?_ _ | refine Below.alloc ?_ ?_ _ | refine Below.setCell ?_ ?_ _ | omega | (simp <;> omega) | (simp at * <;> omega))⟩
set_option maxHeartbeats 1600000 in
theorem implIsMethod_any (a b c d : Int) (w : World) :
    Calls Try.prog 101 #[meV a b c d] w fun e w' => e = .returned (.bool (isMe a b c d)) ∧ Below w.heap.size w w' := by
  unfold isMe
  go_enter Try.func101, Try.ntmps101
  go_wp2_with (first | (go_at_call 93; refine (implInRange_any _ _ _ _).mono ?_; rintro e w' ⟨rfl, rfl⟩) | (go_at_call 121; refine (isTime_any _ _).mono ?_; rintro e w' ⟨rfl, rfl⟩))
  all_goals go_ret
  all_goals exact ⟨ret_b (by first | (simp [*]; done) | (simp [*]; omega) | (simp [*]; intros; omega)), by repeat (first | exact Below.refl _ _ | assumption | refine Below.next_ ?_ ?_ (by assumption) | refine Below.drew ?_ | refine below_drewN ?_ _ | refine Below.alloc ?_ ?_ _ | refine Below.setCell ?_ ?_ _ | omega | (simp <;> omega) | (simp at * <;> omega))⟩
end Go.Proofs.Ytmlkhgekacjidae
