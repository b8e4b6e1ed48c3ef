/- The contract of szDocument. -/
import Derived.Test.YthjdigiaajdnbaaDocI
namespace Go.Proofs.Ythjdigiaajdnbaa
open Go.RowKit Go.WideShapes Go.ChangeShapes Go.Deep
set_option linter.unusedSimpArgs false
set_option linter.unusedVariables false
set_option maxRecDepth 100000
def szD (ps : List ByteArray) (m : Nat) (left : Int) : Int := if szS ps left < 0 then -1 else if szS ps left - m < 0 then -1 else szS ps left - m
set_option maxHeartbeats 1000000 in
theorem szDocument_any {P S : Option Addr} {n m c d : Nat} {t left : Int} {ps : List ByteArray} {w : World} (h1 : Rd w 1 P n (sts ps)) (hl0 : 0 ≤ left) (hl1 : left ≤ 1048576) (hn : n ≤ 9223372036854775807) (hm : m ≤ 9223372036854775807) (hsz : ∀ p ∈ ps, p.size ≤ 9223372036854775807) :
    Calls Try.prog 19 #[doV t P S n m c d, .int .i64 left] w fun e w' => e = .returned (.int .i64 (szD ps m left)) ∧ Below w.heap.size w w' := by
  rcases szS_le (ps := ps) hl0 with h | ⟨h, h', _, _⟩
  · have hfin := hide (show szD ps m left = -1 by unfold szD; rw [h]; simp)
    have HH := hide h
    clear h
    go_enter Try.func19, Try.ntmps19
    go_wp2_with fail
    refine (szStringS_any (h1.below (by repeat (first | exact Below.refl _ _ | assumption | refine Below.next_ ?_ ?_ (by assumption) | refine Below.drew ?_ | refine below_drewN ?_ _ | refine Below.alloc ?_ ?_ _ | refine Below.setCell ?_ ?_ _ | omega | (dsimp only; omega) | (simp <;> omega) | (simp at * <;> omega)))) hl0 hl1 hn hsz).mono ?_
    rintro e _ ⟨rfl, q, rfl⟩
    rw [HH.out]
    go_wp2_with fail
    go_ret
    exact ⟨ret_i hfin.out.symm, by repeat (first | exact Below.refl _ _ | assumption | refine Below.next_ ?_ ?_ (by assumption) | refine Below.drew ?_ | refine below_drewN ?_ _ | refine Below.alloc ?_ ?_ _ | refine Below.setCell ?_ ?_ _ | omega | (dsimp only; omega) | (simp <;> omega) | (simp at * <;> omega))⟩
  · by_cases hb : szS ps left - (m : Int) < 0
    · have hfin := hide (show szD ps m left = -1 by unfold szD; rw [if_neg (by omega), if_pos hb])
      have hnn : ¬ szS ps left < 0 := by omega
      go_enter Try.func19, Try.ntmps19
      go_wp2_with fail
      refine (szStringS_any (h1.below (by repeat (first | exact Below.refl _ _ | assumption | refine Below.next_ ?_ ?_ (by assumption) | refine Below.drew ?_ | refine below_drewN ?_ _ | refine Below.alloc ?_ ?_ _ | refine Below.setCell ?_ ?_ _ | omega | (dsimp only; omega) | (simp <;> omega) | (simp at * <;> omega)))) hl0 hl1 hn hsz).mono ?_
      rintro e _ ⟨rfl, q, rfl⟩
      go_wp2_with fail
      refine (szIntS_no _ h (by omega) hm (by omega)).mono ?_
      rintro e w' ⟨rfl, rfl⟩
      go_wp2_with fail
      go_ret
      exact ⟨ret_i hfin.out.symm, by repeat (first | exact Below.refl _ _ | assumption | refine Below.next_ ?_ ?_ (by assumption) | refine Below.drew ?_ | refine below_drewN ?_ _ | refine Below.alloc ?_ ?_ _ | refine Below.setCell ?_ ?_ _ | omega | (dsimp only; omega) | (simp <;> omega) | (simp at * <;> omega))⟩
    · have hfin := hide (show szD ps m left = szS ps left - m by unfold szD; rw [if_neg (by omega), if_neg hb])
      have hnn : ¬ szS ps left < 0 := by omega
      go_enter Try.func19, Try.ntmps19
      go_wp2_with fail
      refine (szStringS_any (h1.below (by repeat (first | exact Below.refl _ _ | assumption | refine Below.next_ ?_ ?_ (by assumption) | refine Below.drew ?_ | refine below_drewN ?_ _ | refine Below.alloc ?_ ?_ _ | refine Below.setCell ?_ ?_ _ | omega | (dsimp only; omega) | (simp <;> omega) | (simp at * <;> omega)))) hl0 hl1 hn hsz).mono ?_
      rintro e _ ⟨rfl, q, rfl⟩
      go_wp2_with fail
      refine (szIntS_ok _ h (by omega) (by omega)).mono ?_
      rintro e w' ⟨rfl, rfl⟩
      go_wp2_with fail
      go_ret
      exact ⟨ret_i hfin.out.symm, by repeat (first | exact Below.refl _ _ | assumption | refine Below.next_ ?_ ?_ (by assumption) | refine Below.drew ?_ | refine below_drewN ?_ _ | refine Below.alloc ?_ ?_ _ | refine Below.setCell ?_ ?_ _ | omega | (dsimp only; omega) | (simp <;> omega) | (simp at * <;> omega))⟩
theorem szD_ok {ps : List ByteArray} {m : Nat} {left : Int} (hl : 0 ≤ left) (h : 0 ≤ szD ps m left) : (ps.length : Int) ≤ left ∧ (m : Int) ≤ left ∧ ∀ p ∈ ps, (p.size : Int) ≤ left := by
  unfold szD at h
  rcases szS_le (ps := ps) hl with h1 | ⟨h1, h2, h3, h4⟩
  · rw [h1] at h; simp at h
  · rw [if_neg (by omega)] at h
    by_cases hb : szS ps left - (m : Int) < 0
    · rw [if_pos hb] at h; omega
    · exact ⟨h3, by omega, h4⟩
theorem szD_le {ps : List ByteArray} {m : Nat} {left : Int} (hl : 0 ≤ left) (h : 0 ≤ szD ps m left) : szD ps m left ≤ left := by
  unfold szD at h ⊢
  rcases szS_le (ps := ps) hl with h1 | ⟨h1, h2, h3, h4⟩
  · rw [h1] at h; simp at h
  · rw [if_neg (by omega)] at h ⊢
    by_cases hb : szS ps left - (m : Int) < 0
    · rw [if_pos hb] at h; omega
    · rw [if_neg hb]; omega
theorem szD_neg {ps : List ByteArray} {m : Nat} {left : Int} (hl : 0 ≤ left) (h : ¬ 0 ≤ szD ps m left) : szD ps m left = -1 := by
  unfold szD at *
  by_cases h1 : szS ps left < 0
  · rw [if_pos h1]
  · rw [if_neg h1] at h ⊢
    by_cases hb : szS ps left - (m : Int) < 0
    · rw [if_pos hb]
    · rw [if_neg hb] at h; omega
end Go.Proofs.Ythjdigiaajdnbaa
