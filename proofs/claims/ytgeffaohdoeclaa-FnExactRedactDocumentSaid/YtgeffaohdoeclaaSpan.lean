/- Contracts of the functions on one or two spans of time: IsSpan and its kin, of the program and of the reference. No condition. -/
import Derived.Test.YtgeffaohdoeclaaInt
import Derived.Deep.RegionHeld3
namespace Go.Proofs.Ytgeffaohdoeclaa
open Go.RowKit Go.WideShapes Go.ChangeShapes Go.Deep
set_option linter.unusedSimpArgs false
set_option linter.unusedVariables false

def isT (t : Int) : Bool := inR t 0 10000
def isSp (f t : Int) : Bool := isT f && isT t && decide (f ≤ t)
abbrev spV (f t : Int) : Value := .agg #[.int .i64 f, .int .i64 t]

theorem l4Time_any (x : Int) (w : World) :
    Calls Try.prog 99 #[.int .i64 x] w fun e w' => e = .returned (.bool (isT x)) ∧ w = w' := by
  go_enter Try.func99, Try.ntmps99
  go_wp2_with (go_at_call 103; refine (l1In_any _ _ _ _).mono ?_; rintro e w' ⟨rfl, rfl⟩)
  go_ret
  exact ⟨rfl, rfl⟩
theorem isTime_any (x : Int) (w : World) :
    Calls Try.prog 98 #[.int .i64 x] w fun e w' => e = .returned (.bool (isT x)) ∧ w = w' := by
  go_enter Try.func98, Try.ntmps98
  go_wp2_with (go_at_call 76; refine (implInRange_any _ _ _ _).mono ?_; rintro e w' ⟨rfl, rfl⟩)
  go_ret
  exact ⟨rfl, rfl⟩
theorem specIsSpan_any (f t : Int) (w : World) :
    Calls Try.prog 43 #[spV f t] w fun e w' => e = .returned (.bool (isSp f t)) ∧ Below w.heap.size w w' := by
  unfold isSp
  go_enter Try.func43, Try.ntmps43
  go_wp2_with (go_at_call 99; refine (l4Time_any _ _).mono ?_; rintro e w' ⟨rfl, rfl⟩)
  all_goals go_ret
  all_goals exact ⟨ret_b (by first | (simp [*]; done) | (simp [*]; omega) | (simp [*]; intros; omega)), by repeat (first | exact Below.refl _ _ | assumption | refine Below.next_ ?_ ?_ (by assumption) | refine Below.drew ?_ | refine below_drewN ?_ _ | refine Below.alloc ?_ ?_ _ | refine Below.setCell ?_ ?_ _ | omega | (simp <;> omega) | (simp at * <;> omega))⟩
theorem implIsSpan_any (f t : Int) (w : World) :
    Calls Try.prog 42 #[spV f t] w fun e w' => e = .returned (.bool (isSp f t)) ∧ Below w.heap.size w w' := by
  unfold isSp
  go_enter Try.func42, Try.ntmps42
  go_wp2_with (go_at_call 98; refine (isTime_any _ _).mono ?_; rintro e w' ⟨rfl, rfl⟩)
  all_goals go_ret
  all_goals exact ⟨ret_b (by first | (simp [*]; done) | (simp [*]; omega) | (simp [*]; intros; omega)), by repeat (first | exact Below.refl _ _ | assumption | refine Below.next_ ?_ ?_ (by assumption) | refine Below.drew ?_ | refine below_drewN ?_ _ | refine Below.alloc ?_ ?_ _ | refine Below.setCell ?_ ?_ _ | omega | (simp <;> omega) | (simp at * <;> omega))⟩
theorem isSp_true {f t : Int} : isSp f t = true ↔ 0 ≤ f ∧ f ≤ t ∧ t ≤ 10000 := by simp [isSp, isT, inR]; omega
theorem isSp_false {f t : Int} : isSp f t = false ↔ ¬ (0 ≤ f ∧ f ≤ t ∧ t ≤ 10000) := by rw [← isSp_true]; simp
def insd (af at_ bf bt : Int) : Bool := isSp af at_ && isSp bf bt && decide (bf ≤ af) && decide (at_ ≤ bt)
/-- what MakeSpan returns: whether, and the span -/
def mkOk (f t : Int) : Bool := decide (max f 0 ≤ min t 10000)
def mkF (f t : Int) : Int := if mkOk f t = true then max f 0 else 0
def mkT (f t : Int) : Int := if mkOk f t = true then min t 10000 else 0
def mtOk (af at_ bf bt : Int) : Bool := isSp af at_ && isSp bf bt && mkOk (max af bf) (min at_ bt)
def mtF (af at_ bf bt : Int) : Int := if mtOk af at_ bf bt = true then max af bf else 0
def mtT (af at_ bf bt : Int) : Int := if mtOk af at_ bf bt = true then min at_ bt else 0
theorem implIsInside_any (af at_ bf bt : Int) (w : World) :
    Calls Try.prog 52 #[spV af at_, spV bf bt] w fun e w' => e = .returned (.bool (insd af at_ bf bt)) ∧ Below w.heap.size w w' := by
  unfold insd
  go_enter Try.func52, Try.ntmps52
  go_wp2_with (go_at_call 42; refine (implIsSpan_any _ _ _).mono ?_; rintro e w' ⟨rfl, hb⟩; have hs := hb.size; obtain ⟨hc, hf⟩ := bcell hb; (try simp only [World.size_drew, World.heap_drewN] at hc hf); (try simp at hs); (try (have hz : w.heap.size < w'.heap.size := by omega)); (try (have hz : w.heap.size + 1 < w'.heap.size := by omega)); (try (have hz : w.heap.size + 1 + 1 < w'.heap.size := by omega)); (try (have hz : w.heap.size + 1 + 1 + 1 < w'.heap.size := by omega)); (try (have hz : w.heap.size + 1 + 1 + 1 + 1 < w'.heap.size := by omega)))
  all_goals go_ret
  all_goals exact ⟨ret_b (by first | (simp [*]; done) | (simp [*]; omega) | (simp [*]; intros; omega)), by repeat (first | exact Below.refl _ _ | assumption | refine Below.next_ ?_ ?_ (by assumption) | refine Below.drew ?_ | refine below_drewN ?_ _ | refine Below.alloc ?_ ?_ _ | refine Below.setCell ?_ ?_ _ | omega | (simp <;> omega) | (simp at * <;> omega))⟩
theorem ret_sp {f t f' t' : Int} {b b' : Bool} (h : f = f' ∧ t = t' ∧ b = b') : Ending.returned (.tuple #[spV f t, .bool b]) = .returned (.tuple #[spV f' t', .bool b']) := by obtain ⟨rfl, rfl, rfl⟩ := h; rfl
end Go.Proofs.Ytgeffaohdoeclaa
