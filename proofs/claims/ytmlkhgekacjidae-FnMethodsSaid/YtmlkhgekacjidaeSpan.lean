/- Contracts of the functions on one or two spans of time: IsSpan and its kin, of the program and of the reference. No condition. -/
import Derived.Test.YtmlkhgekacjidaeInt
import Derived.Deep.RegionHeld3
namespace Go.Proofs.Ytmlkhgekacjidae
open Go.RowKit Go.WideShapes Go.ChangeShapes Go.Deep
set_option linter.unusedSimpArgs false
set_option linter.unusedVariables false

def isT (t : Int) : Bool := inR t 0 10000
def isSp (f t : Int) : Bool := isT f && isT t && decide (f ≤ t)
abbrev spV (f t : Int) : Value := .agg #[.int .i64 f, .int .i64 t]

theorem l4Time_any (x : Int) (w : World) :
    Calls Try.prog 122 #[.int .i64 x] w fun e w' => e = .returned (.bool (isT x)) ∧ w = w' := by
  go_enter Try.func122, Try.ntmps122
  go_wp2_with (go_at_call 126; refine (l1In_any _ _ _ _).mono ?_; rintro e w' ⟨rfl, rfl⟩)
  go_ret
  exact ⟨rfl, rfl⟩
theorem isTime_any (x : Int) (w : World) :
    Calls Try.prog 121 #[.int .i64 x] w fun e w' => e = .returned (.bool (isT x)) ∧ w = w' := by
  go_enter Try.func121, Try.ntmps121
  go_wp2_with (go_at_call 93; refine (implInRange_any _ _ _ _).mono ?_; rintro e w' ⟨rfl, rfl⟩)
  go_ret
  exact ⟨rfl, rfl⟩
theorem specIsSpan_any (f t : Int) (w : World) :
    Calls Try.prog 60 #[spV f t] w fun e w' => e = .returned (.bool (isSp f t)) ∧ Below w.heap.size w w' := by
  unfold isSp
  go_enter Try.func60, Try.ntmps60
  go_wp2_with (go_at_call 122; refine (l4Time_any _ _).mono ?_; rintro e w' ⟨rfl, rfl⟩)
  all_goals go_ret
  all_goals exact ⟨ret_b (by first | (simp [*]; done) | (simp [*]; omega) | (simp [*]; intros; omega)), by repeat (first | exact Below.refl _ _ | assumption | refine Below.next_ ?_ ?_ (by assumption) | refine Below.drew ?_ | refine below_drewN ?_ _ | refine Below.alloc ?_ ?_ _ | refine Below.setCell ?_ ?_ _ | omega | (simp <;> omega) | (simp at * <;> omega))⟩
theorem implIsSpan_any (f t : Int) (w : World) :
    Calls Try.prog 59 #[spV f t] w fun e w' => e = .returned (.bool (isSp f t)) ∧ Below w.heap.size w w' := by
  unfold isSp
  go_enter Try.func59, Try.ntmps59
  go_wp2_with (go_at_call 121; refine (isTime_any _ _).mono ?_; rintro e w' ⟨rfl, rfl⟩)
  all_goals go_ret
  all_goals exact ⟨ret_b (by first | (simp [*]; done) | (simp [*]; omega) | (simp [*]; intros; omega)), by repeat (first | exact Below.refl _ _ | assumption | refine Below.next_ ?_ ?_ (by assumption) | refine Below.drew ?_ | refine below_drewN ?_ _ | refine Below.alloc ?_ ?_ _ | refine Below.setCell ?_ ?_ _ | omega | (simp <;> omega) | (simp at * <;> omega))⟩
theorem toSpan_any (f t : Int) (w : World) :
    Calls Try.prog 104 #[spV f t] w fun e w' => e = .returned (spV f t) ∧ Below w.heap.size w w' := by
  go_enter Try.func104, Try.ntmps104
  go_wp2
  exact bodyPost_ret (v := spV f t) (by simp [results, Try.results104, go_sem]) rfl ⟨rfl, by repeat (first | exact Below.refl _ _ | assumption | refine Below.next_ ?_ ?_ (by assumption) | refine Below.drew ?_ | refine below_drewN ?_ _ | refine Below.alloc ?_ ?_ _ | refine Below.setCell ?_ ?_ _ | omega | (simp <;> omega) | (simp at * <;> omega))⟩
theorem isSp_true {f t : Int} : isSp f t = true ↔ 0 ≤ f ∧ f ≤ t ∧ t ≤ 10000 := by simp [isSp, isT, inR]; omega
theorem isSp_false {f t : Int} : isSp f t = false ↔ ¬ (0 ≤ f ∧ f ≤ t ∧ t ≤ 10000) := by rw [← isSp_true]; simp
def insd (af at_ bf bt : Int) : Bool := isSp af at_ && isSp bf bt && decide (bf ≤ af) && decide (at_ ≤ bt)
/-- what MakeSpan returns: whether, and the span -/
def mkOk (f t : Int) : Bool := decide (max f 0 ≤ min t 10000)
def mkF (f t : Int) : Int := if mkOk f t = true then max f 0 else 0
def mkT (f t : Int) : Int := if mkOk f t = true then min t 10000 else 0
def mtOk (af at_ bf bt : Int) : Bool := isSp af at_ && isSp bf bt && mkOk (max af bf) (min at_ bt)
def mtF (af at_ bf bt : Int) : Int := if mtOk af at_ bf bt = true then max af bf else 0
def mtT (af at_ bf bt : Int) : Int := if mtOk af at_ bf bt = true then min at_ bt else 0
theorem implIsInside_any (af at_ bf bt : Int) (w : World) :
    Calls Try.prog 68 #[spV af at_, spV bf bt] w fun e w' => e = .returned (.bool (insd af at_ bf bt)) ∧ Below w.heap.size w w' := by
  unfold insd
  go_enter Try.func68, Try.ntmps68
  go_wp2_with (go_at_call 59; refine (implIsSpan_any _ _ _).mono ?_; rintro e w' ⟨rfl, hb⟩; have hs := hb.size; obtain ⟨hc, hf⟩ := bcell hb; (try simp only [World.size_drew, World.heap_drewN] at hc hf); (try simp at hs); (try (have hz : w.heap.size < w'.heap.size := by omega)); (try (have hz : w.heap.size + 1 < w'.heap.size := by omega)); (try (have hz : w.heap.size + 1 + 1 < w'.heap.size := by omega)); (try (have hz : w.heap.size + 1 + 1 + 1 < w'.heap.size := by omega)); (try (have hz : w.heap.size + 1 + 1 + 1 + 1 < w'.heap.size := by omega)))
  all_goals go_ret
  all_goals exact ⟨ret_b (by first | (simp [*]; done) | (simp [*]; omega) | (simp [*]; intros; omega)), by repeat (first | exact Below.refl _ _ | assumption | refine Below.next_ ?_ ?_ (by assumption) | refine Below.drew ?_ | refine below_drewN ?_ _ | refine Below.alloc ?_ ?_ _ | refine Below.setCell ?_ ?_ _ | omega | (simp <;> omega) | (simp at * <;> omega))⟩
theorem eqSpan_any (af at_ bf bt : Int) (w : World) :
    Calls Try.prog 105 #[spV af at_, spV bf bt] w fun e w' => e = .returned (.bool (decide (af = bf ∧ at_ = bt))) ∧ Below w.heap.size w w' := by
  by_cases h1 : af = bf
  · subst h1
    have hb1 : (af == af) = true := by simp
    by_cases h2 : at_ = bt
    · subst h2
      have hb2 : (at_ == at_) = true := by simp
      go_enter Try.func105, Try.ntmps105
      go_wp2
      go_ret
      exact ⟨ret_b (by simp), by repeat (first | exact Below.refl _ _ | assumption | refine Below.next_ ?_ ?_ (by assumption) | refine Below.drew ?_ | refine below_drewN ?_ _ | refine Below.alloc ?_ ?_ _ | refine Below.setCell ?_ ?_ _ | omega | (simp <;> omega) | (simp at * <;> omega))⟩
    · have hb2 : (at_ == bt) = false := by simpa using h2
      go_enter Try.func105, Try.ntmps105
      go_wp2
      go_ret
      exact ⟨ret_b (by simp [h2]), by repeat (first | exact Below.refl _ _ | assumption | refine Below.next_ ?_ ?_ (by assumption) | refine Below.drew ?_ | refine below_drewN ?_ _ | refine Below.alloc ?_ ?_ _ | refine Below.setCell ?_ ?_ _ | omega | (simp <;> omega) | (simp at * <;> omega))⟩
  · have hb2 : (af == bf) = false := by simpa using h1
    go_enter Try.func105, Try.ntmps105
    go_wp2
    go_ret
    exact ⟨ret_b (by simp [h1]), by repeat (first | exact Below.refl _ _ | assumption | refine Below.next_ ?_ ?_ (by assumption) | refine Below.drew ?_ | refine below_drewN ?_ _ | refine Below.alloc ?_ ?_ _ | refine Below.setCell ?_ ?_ _ | omega | (simp <;> omega) | (simp at * <;> omega))⟩
theorem ret_sp {f t f' t' : Int} {b b' : Bool} (h : f = f' ∧ t = t' ∧ b = b') : Ending.returned (.tuple #[spV f t, .bool b]) = .returned (.tuple #[spV f' t', .bool b']) := by obtain ⟨rfl, rfl, rfl⟩ := h; rfl
end Go.Proofs.Ytmlkhgekacjidae
