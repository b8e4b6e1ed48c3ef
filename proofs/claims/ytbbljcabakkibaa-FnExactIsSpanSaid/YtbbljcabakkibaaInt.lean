/- Contracts of the functions that only reckon with integers: InRange, Min, Max, CeilDiv, Mod and their kin, of the program and of the reference. No condition but that the integers fit. -/
import Derived.Test.YtbbljcabakkibaaBase
import Derived.Test.YtbbljcabakkibaaRows
namespace Go.Proofs.Ytbbljcabakkibaa
open Go.RowKit Go.WideShapes Go.ChangeShapes Go.Deep

def inR (x a b : Int) : Bool := decide (a ≤ x) && decide (x ≤ b)
theorem inR_true {x a b : Int} : inR x a b = true ↔ a ≤ x ∧ x ≤ b := by simp [inR]
theorem inR_false {x a b : Int} : inR x a b = false ↔ ¬ (a ≤ x ∧ x ≤ b) := by simp [inR]
theorem ret_i {a b : Int} (h : a = b) : Ending.returned (.int .i64 a) = .returned (.int .i64 b) := by rw [h]
theorem ret_b {a b : Bool} (h : a = b) : Ending.returned (.bool a) = .returned (.bool b) := by rw [h]

theorem l1In_any (x a b : Int) (w : World) :
    Calls Try.prog 20 #[.int .i64 x, .int .i64 a, .int .i64 b] w fun e w' => e = .returned (.bool (inR x a b)) ∧ w = w' := by
  unfold inR
  go_enter Try.func20, Try.ntmps20
  go_wp2
  all_goals go_ret
  · have h : a ≤ x := by assumption
    exact ⟨by simp [h], rfl⟩
  · have h : x < a := by assumption
    have h' : ¬ a ≤ x := by omega
    exact ⟨by simp [h'], rfl⟩
theorem specInRange_any (x a b : Int) (w : World) :
    Calls Try.prog 9 #[.int .i64 x, .int .i64 a, .int .i64 b] w fun e w' => e = .returned (.bool (inR x a b)) ∧ w = w' := by
  unfold inR
  go_enter Try.func9, Try.ntmps9
  go_wp2
  all_goals go_ret
  · have h : a ≤ x := by assumption
    exact ⟨by simp [h], rfl⟩
  · have h : x < a := by assumption
    have h' : ¬ a ≤ x := by omega
    exact ⟨by simp [h'], rfl⟩
theorem implInRange_any (x a b : Int) (w : World) :
    Calls Try.prog 10 #[.int .i64 x, .int .i64 a, .int .i64 b] w fun e w' => e = .returned (.bool (inR x a b)) ∧ w = w' := by
  unfold inR
  go_enter Try.func10, Try.ntmps10
  go_wp2
  all_goals go_ret
  · have h : a ≤ x := by assumption
    exact ⟨by simp [h], rfl⟩
  · have h : x < a := by assumption
    have h' : ¬ a ≤ x := by omega
    exact ⟨by simp [h'], rfl⟩
theorem specIsValidKey_any (x : Int) (w : World) :
    Calls Try.prog 11 #[.int .i64 x] w fun e w' => e = .returned (.bool (inR x 1 2147483646)) ∧ w = w' := by
  go_enter Try.func11, Try.ntmps11
  go_wp2_with (go_at_call 20; refine (l1In_any _ _ _ _).mono ?_; rintro e w' ⟨rfl, rfl⟩)
  go_ret
  exact ⟨rfl, rfl⟩
theorem implIsValidKey_any (x : Int) (w : World) :
    Calls Try.prog 12 #[.int .i64 x] w fun e w' => e = .returned (.bool (inR x 1 2147483646)) ∧ w = w' := by
  go_enter Try.func12, Try.ntmps12
  go_wp2_with (go_at_call 10; refine (implInRange_any _ _ _ _).mono ?_; rintro e w' ⟨rfl, rfl⟩)
  go_ret
  exact ⟨rfl, rfl⟩
theorem specMax_any (a b : Int) (w : World) :
    Calls Try.prog 13 #[.int .i64 a, .int .i64 b] w fun e w' => e = .returned (.int .i64 (max a b)) ∧ w = w' := by
  go_enter Try.func13, Try.ntmps13
  go_wp2
  all_goals go_ret
  · exact ⟨ret_i (by omega), rfl⟩
  · exact ⟨ret_i (by omega), rfl⟩
theorem implMax_any (a b : Int) (w : World) :
    Calls Try.prog 14 #[.int .i64 a, .int .i64 b] w fun e w' => e = .returned (.int .i64 (max a b)) ∧ w = w' := by
  go_enter Try.func14, Try.ntmps14
  go_wp2
  all_goals go_ret
  · exact ⟨ret_i (by omega), rfl⟩
  · exact ⟨ret_i (by omega), rfl⟩
theorem specMin_any (a b : Int) (w : World) :
    Calls Try.prog 15 #[.int .i64 a, .int .i64 b] w fun e w' => e = .returned (.int .i64 (min a b)) ∧ w = w' := by
  go_enter Try.func15, Try.ntmps15
  go_wp2
  all_goals go_ret
  · exact ⟨ret_i (by omega), rfl⟩
  · exact ⟨ret_i (by omega), rfl⟩
theorem implMin_any (a b : Int) (w : World) :
    Calls Try.prog 16 #[.int .i64 a, .int .i64 b] w fun e w' => e = .returned (.int .i64 (min a b)) ∧ w = w' := by
  go_enter Try.func16, Try.ntmps16
  go_wp2
  all_goals go_ret
  · exact ⟨ret_i (by omega), rfl⟩
  · exact ⟨ret_i (by omega), rfl⟩
end Go.Proofs.Ytbbljcabakkibaa
