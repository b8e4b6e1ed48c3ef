/- Contracts of IsKey, of the program and of the reference, and of the laws' copy of a key. No condition. -/
import Derived.Test.YtmlkhgekacjidabSpan
namespace Go.Proofs.Ytmlkhgekacjidab
open Go.RowKit Go.WideShapes Go.ChangeShapes Go.Deep
set_option linter.unusedSimpArgs false
set_option linter.unusedVariables false
abbrev keV (a b c d s : Int) : Value := .agg #[.int .i64 a, .int .i64 b, .int .i64 c, .int .i64 d, .int .i64 s]
def isKe (a b c d s : Int) : Bool := inR a 1 99 && inR b 0 99 && inR c 0 99 && isT d && inR s 1 2147483646
set_option maxHeartbeats 800000 in
theorem toKey_any (a b c d s : Int) (w : World) :
    Calls Try.prog 16 #[keV a b c d s] w fun e w' => e = .returned (keV a b c d s) ∧ Below w.heap.size w w' := by
  go_enter Try.func16, Try.ntmps16
  go_wp2
  exact bodyPost_ret (v := keV a b c d s) (by simp [results, Try.results16, go_sem, *]) rfl ⟨rfl, by repeat (first | exact Below.refl _ _ | assumption | refine Below.next_ ?_ ?_ (by assumption) | refine Below.drew ?_ | refine below_drewN ?_ _ | refine Below.alloc ?_ ?_ _ | refine Below.setCell ?_ ?_ _ | omega | (simp <;> omega) | (simp at * <;> omega))⟩
set_option maxHeartbeats 1600000 in
theorem specIsKey_any (a b c d s : Int) (w : World) :
    Calls Try.prog 15 #[keV a b c d s] w fun e w' => e = .returned (.bool (isKe a b c d s)) ∧ Below w.heap.size w w' := by
  unfold isKe
  go_enter Try.func15, Try.ntmps15
  go_wp2_with (first | (go_at_call 56; refine (l1In_any _ _ _ _).mono ?_; rintro e w' ⟨rfl, rfl⟩) | (go_at_call 57; refine (l4Time_any _ _).mono ?_; rintro e w' ⟨rfl, rfl⟩) | (go_at_call 58; refine (specIsValidKey_any _ _).mono ?_; rintro e w' ⟨rfl, rfl⟩))
  all_goals go_ret
  all_goals exact ⟨ret_b (by first | (simp [*]; done) | (simp [*]; omega) | (simp [*]; intros; omega)), by repeat (first | exact Below.refl _ _ | assumption | refine Below.next_ ?_ ?_ (by assumption) | refine Below.drew ?_ | refine below_drewN ?_ _ | refine Below.alloc ?_ ?_ _ | refine Below.setCell ?_ ?_ _ | omega | (simp <;> omega) | (simp at * <;> omega))⟩
set_option maxHeartbeats 1600000 in
theorem implIsKey_any (a b c d s : Int) (w : World) :
    Calls Try.prog 17 #[keV a b c d s] w fun e w' => e = .returned (.bool (isKe a b c d s)) ∧ Below w.heap.size w w' := by
  unfold isKe
  go_enter Try.func17, Try.ntmps17
  go_wp2_with (first | (go_at_call 59; refine (implInRange_any _ _ _ _).mono ?_; rintro e w' ⟨rfl, rfl⟩) | (go_at_call 60; refine (isTime_any _ _).mono ?_; rintro e w' ⟨rfl, rfl⟩) | (go_at_call 61; refine (implIsValidKey_any _ _).mono ?_; rintro e w' ⟨rfl, rfl⟩))
  all_goals go_ret
  all_goals exact ⟨ret_b (by first | (simp [*]; done) | (simp [*]; omega) | (simp [*]; intros; omega)), by repeat (first | exact Below.refl _ _ | assumption | refine Below.next_ ?_ ?_ (by assumption) | refine Below.drew ?_ | refine below_drewN ?_ _ | refine Below.alloc ?_ ?_ _ | refine Below.setCell ?_ ?_ _ | omega | (simp <;> omega) | (simp at * <;> omega))⟩
end Go.Proofs.Ytmlkhgekacjidab
