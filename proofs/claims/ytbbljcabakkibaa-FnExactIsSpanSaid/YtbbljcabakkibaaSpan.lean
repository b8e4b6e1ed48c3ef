/- Contracts of the functions on one or two spans of time: IsSpan and its kin, of the program and of the reference. No condition. -/
import Derived.Test.YtbbljcabakkibaaInt
namespace Go.Proofs.Ytbbljcabakkibaa
open Go.RowKit Go.WideShapes Go.ChangeShapes Go.Deep

def isT (t : Int) : Bool := inR t 0 10000
def isSp (f t : Int) : Bool := isT f && isT t && decide (f ≤ t)
abbrev spV (f t : Int) : Value := .agg #[.int .i64 f, .int .i64 t]

theorem l4Time_any (x : Int) (w : World) :
    Calls Try.prog 21 #[.int .i64 x] w fun e w' => e = .returned (.bool (isT x)) ∧ w = w' := by
  go_enter Try.func21, Try.ntmps21
  go_wp2_with (go_at_call 20; refine (l1In_any _ _ _ _).mono ?_; rintro e w' ⟨rfl, rfl⟩)
  go_ret
  exact ⟨rfl, rfl⟩
theorem isTime_any (x : Int) (w : World) :
    Calls Try.prog 22 #[.int .i64 x] w fun e w' => e = .returned (.bool (isT x)) ∧ w = w' := by
  go_enter Try.func22, Try.ntmps22
  go_wp2_with (go_at_call 10; refine (implInRange_any _ _ _ _).mono ?_; rintro e w' ⟨rfl, rfl⟩)
  go_ret
  exact ⟨rfl, rfl⟩
theorem specIsSpan_any (f t : Int) (w : World) :
    Calls Try.prog 17 #[spV f t] w fun e w' => e = .returned (.bool (isSp f t)) ∧ Below w.heap.size w w' := by
  unfold isSp
  go_enter Try.func17, Try.ntmps17
  go_wp2_with (go_at_call 21; refine (l4Time_any _ _).mono ?_; rintro e w' ⟨rfl, rfl⟩)
  all_goals go_ret
  all_goals exact ⟨ret_b (by simp [*]), by repeat (first | exact Below.refl _ _ | assumption | refine Below.next_ ?_ ?_ (by assumption) | refine Below.drew ?_ | refine below_drewN ?_ _ | refine Below.alloc ?_ ?_ _ | refine Below.setCell ?_ ?_ _ | omega | (simp <;> omega) | (simp at * <;> omega))⟩
theorem implIsSpan_any (f t : Int) (w : World) :
    Calls Try.prog 19 #[spV f t] w fun e w' => e = .returned (.bool (isSp f t)) ∧ Below w.heap.size w w' := by
  unfold isSp
  go_enter Try.func19, Try.ntmps19
  go_wp2_with (go_at_call 22; refine (isTime_any _ _).mono ?_; rintro e w' ⟨rfl, rfl⟩)
  all_goals go_ret
  all_goals exact ⟨ret_b (by simp [*]), by repeat (first | exact Below.refl _ _ | assumption | refine Below.next_ ?_ ?_ (by assumption) | refine Below.drew ?_ | refine below_drewN ?_ _ | refine Below.alloc ?_ ?_ _ | refine Below.setCell ?_ ?_ _ | omega | (simp <;> omega) | (simp at * <;> omega))⟩
theorem toSpan_any (f t : Int) (w : World) :
    Calls Try.prog 18 #[spV f t] w fun e w' => e = .returned (spV f t) ∧ Below w.heap.size w w' := by
  go_enter Try.func18, Try.ntmps18
  go_wp2
  exact bodyPost_ret (v := spV f t) (by simp [results, Try.results18, go_sem]) rfl ⟨rfl, by repeat (first | exact Below.refl _ _ | assumption | refine Below.next_ ?_ ?_ (by assumption) | refine Below.drew ?_ | refine below_drewN ?_ _ | refine Below.alloc ?_ ?_ _ | refine Below.setCell ?_ ?_ _ | omega | (simp <;> omega) | (simp at * <;> omega))⟩
end Go.Proofs.Ytbbljcabakkibaa
