/- Contracts of the functions that only reckon with integers: InRange, Min, Max, CeilDiv, Mod and their kin, of the program and of the reference. No condition but that the integers fit. -/
import Derived.Test.YthjdigiaajdnbaaBase
import Derived.Test.YthjdigiaajdnbaaRows
namespace Go.Proofs.Ythjdigiaajdnbaa
open Go.RowKit Go.WideShapes Go.ChangeShapes Go.Deep
set_option linter.unusedSimpArgs false
set_option linter.unusedVariables false

def inR (x a b : Int) : Bool := decide (a ≤ x) && decide (x ≤ b)
theorem inR_true {x a b : Int} : inR x a b = true ↔ a ≤ x ∧ x ≤ b := by simp [inR]
theorem inR_false {x a b : Int} : inR x a b = false ↔ ¬ (a ≤ x ∧ x ≤ b) := by simp [inR]

theorem l1In_any (x a b : Int) (w : World) :
    Calls Try.prog 67 #[.int .i64 x, .int .i64 a, .int .i64 b] w fun e w' => e = .returned (.bool (inR x a b)) ∧ w = w' := by
  unfold inR
  go_enter Try.func67, Try.ntmps67
  go_wp2
  all_goals go_ret
  · have h : a ≤ x := by assumption
    exact ⟨by simp [h], rfl⟩
  · have h : x < a := by assumption
    have h' : ¬ a ≤ x := by omega
    exact ⟨by simp [h'], rfl⟩
theorem implInRange_any (x a b : Int) (w : World) :
    Calls Try.prog 39 #[.int .i64 x, .int .i64 a, .int .i64 b] w fun e w' => e = .returned (.bool (inR x a b)) ∧ w = w' := by
  unfold inR
  go_enter Try.func39, Try.ntmps39
  go_wp2
  all_goals go_ret
  · have h : a ≤ x := by assumption
    exact ⟨by simp [h], rfl⟩
  · have h : x < a := by assumption
    have h' : ¬ a ≤ x := by omega
    exact ⟨by simp [h'], rfl⟩
theorem specIsValidKey_any (x : Int) (w : World) :
    Calls Try.prog 79 #[.int .i64 x] w fun e w' => e = .returned (.bool (inR x 1 2147483646)) ∧ w = w' := by
  go_enter Try.func79, Try.ntmps79
  go_wp2_with (go_at_call 67; refine (l1In_any _ _ _ _).mono ?_; rintro e w' ⟨rfl, rfl⟩)
  go_ret
  exact ⟨rfl, rfl⟩
theorem implIsValidKey_any (x : Int) (w : World) :
    Calls Try.prog 61 #[.int .i64 x] w fun e w' => e = .returned (.bool (inR x 1 2147483646)) ∧ w = w' := by
  go_enter Try.func61, Try.ntmps61
  go_wp2_with (go_at_call 39; refine (implInRange_any _ _ _ _).mono ?_; rintro e w' ⟨rfl, rfl⟩)
  go_ret
  exact ⟨rfl, rfl⟩
theorem specMax_any (a b : Int) (w : World) :
    Calls Try.prog 77 #[.int .i64 a, .int .i64 b] w fun e w' => e = .returned (.int .i64 (max a b)) ∧ w = w' := by
  go_enter Try.func77, Try.ntmps77
  go_wp2
  all_goals go_ret
  · exact ⟨ret_i (by omega), rfl⟩
  · exact ⟨ret_i (by omega), rfl⟩
theorem implMax_any (a b : Int) (w : World) :
    Calls Try.prog 62 #[.int .i64 a, .int .i64 b] w fun e w' => e = .returned (.int .i64 (max a b)) ∧ w = w' := by
  go_enter Try.func62, Try.ntmps62
  go_wp2
  all_goals go_ret
  · exact ⟨ret_i (by omega), rfl⟩
  · exact ⟨ret_i (by omega), rfl⟩
def ceilDiv (a b : Int) : Int := if inR a 0 1000000000000 && inR b 1 1000000000000 then (a + b - 1) / b else 0
def modI (p q : Int) : Int := if inR q 1 1000000000000 then p % q else 0
theorem modI_of {p q : Int} (h1 : 1 ≤ q) (h2 : q ≤ 1000000000000) : modI p q = p % q := by unfold modI; rw [if_pos (inR_true.2 ⟨h1, h2⟩)]
theorem modI_mk {p q : Int} (h : 1 ≤ q) : (p.tmod q + q) % q = p % q := by
  rw [Int.add_emod_right]
  rcases Int.le_total 0 p with hp | hp
  · rw [Int.tmod_eq_emod_of_nonneg hp, Int.emod_emod_of_dvd _ (Int.dvd_refl q)]
  · rw [Int.tmod_eq_emod]
    split
    · simp
    · rw [Int.natAbs_of_nonneg (by omega), Int.sub_emod_right, Int.emod_emod_of_dvd _ (Int.dvd_refl q)]
theorem specMod_any (p q : Int) (w : World) (hp1 : -9223372036854775808 ≤ p) (hp2 : p ≤ 9223372036854775807) :
    Calls Try.prog 80 #[.int .i64 p, .int .i64 q] w fun e w' => e = .returned (.int .i64 (modI p q)) ∧ w = w' := by
  by_cases h2 : 1 ≤ q ∧ q ≤ 1000000000000
  · obtain ⟨h21, h22⟩ := h2
    have e2 : inR q 1 1000000000000 = true := inR_true.2 ⟨h21, h22⟩
    have hfin := hide (show modI p q = (p.tmod q + q) % q by rw [modI_of h21 h22, modI_mk h21])
    have hl : -q < p.tmod q := by have := Int.lt_tmod_of_pos p (show 0 < q by omega); omega
    have hu : p.tmod q < q := by have := Int.tmod_lt_of_pos p (show 0 < q by omega); omega
    go_enter Try.func80, Try.ntmps80
    go_wp2_with (go_at_call 67; refine (l1In_any _ _ _ _).mono ?_; rintro e w' ⟨rfl, rfl⟩)
    go_ret
    exact ⟨ret_i (by rw [hfin.out]), rfl⟩
  · have e2 : inR q 1 1000000000000 = false := inR_false.2 h2
    have hfin := hide (show modI p q = 0 by simp [modI, e2])
    clear h2
    go_enter Try.func80, Try.ntmps80
    go_wp2_with (go_at_call 67; refine (l1In_any _ _ _ _).mono ?_; rintro e w' ⟨rfl, rfl⟩)
    go_ret
    exact ⟨ret_i (by rw [hfin.out]), rfl⟩
theorem implMod_any (p q : Int) (w : World) (hp1 : -9223372036854775808 ≤ p) (hp2 : p ≤ 9223372036854775807) :
    Calls Try.prog 75 #[.int .i64 p, .int .i64 q] w fun e w' => e = .returned (.int .i64 (modI p q)) ∧ w = w' := by
  by_cases h2 : 1 ≤ q ∧ q ≤ 1000000000000
  · obtain ⟨h21, h22⟩ := h2
    have e2 : inR q 1 1000000000000 = true := inR_true.2 ⟨h21, h22⟩
    have hfin := hide (show modI p q = (p.tmod q + q) % q by rw [modI_of h21 h22, modI_mk h21])
    have hl : -q < p.tmod q := by have := Int.lt_tmod_of_pos p (show 0 < q by omega); omega
    have hu : p.tmod q < q := by have := Int.tmod_lt_of_pos p (show 0 < q by omega); omega
    go_enter Try.func75, Try.ntmps75
    go_wp2_with (go_at_call 39; refine (implInRange_any _ _ _ _).mono ?_; rintro e w' ⟨rfl, rfl⟩)
    go_ret
    exact ⟨ret_i (by rw [hfin.out]), rfl⟩
  · have e2 : inR q 1 1000000000000 = false := inR_false.2 h2
    have hfin := hide (show modI p q = 0 by simp [modI, e2])
    clear h2
    go_enter Try.func75, Try.ntmps75
    go_wp2_with (go_at_call 39; refine (implInRange_any _ _ _ _).mono ?_; rintro e w' ⟨rfl, rfl⟩)
    go_ret
    exact ⟨ret_i (by rw [hfin.out]), rfl⟩
end Go.Proofs.Ythjdigiaajdnbaa
