/- Contracts of EqualDocuments, of the program and of the reference. For slices of at most 2^40 elements. -/
import Derived.Test.YthjdigiaajdnbaaDocE
import Derived.Test.YthjdigiaajdnbaaEqI
namespace Go.Proofs.Ythjdigiaajdnbaa
open Go.RowKit Go.WideShapes Go.ChangeShapes Go.Deep
set_option linter.unusedSimpArgs false
set_option linter.unusedVariables false
set_option maxRecDepth 1000000
theorem eqd_t {t t2 : Int} {ps ps2 : List ByteArray} {ss ss2 : List Int} (h : t ≠ t2) : decide (t = t2 ∧ ps = ps2 ∧ ss = ss2) = false := by simp [h]
theorem and_f1 {ps ps2 : List ByteArray} {b : Bool} (h : ps ≠ ps2) : (decide (ps = ps2) && b) = false := by simp [h]
theorem and_f2 {ss ss2 : List Int} {b : Bool} (h : ss ≠ ss2) : (b && decide (ss = ss2)) = false := by simp [h]
theorem eqd_s {t t2 : Int} {ps ps2 : List ByteArray} {ss ss2 : List Int} (h : ss ≠ ss2) : decide (t = t2 ∧ ps = ps2 ∧ ss = ss2) = false := by simp [h]
theorem eqd_p {t t2 : Int} {ps ps2 : List ByteArray} {ss ss2 : List Int} (h : ps ≠ ps2) : decide (t = t2 ∧ ps = ps2 ∧ ss = ss2) = false := by simp [h]
set_option maxHeartbeats 2000000 in
theorem implEqualDocuments_any {P S P2 S2 : Option Addr} {n m c d n2 m2 c2 d2 : Nat} {t t2 : Int} {ps ps2 : List ByteArray} {ss ss2 : List Int} {w : World} (h1 : Rd w 1 P n (sts ps)) (h2 : Rd w 1 S m (ints ss)) (k1 : Rd w 1 P2 n2 (sts ps2)) (k2 : Rd w 1 S2 m2 (ints ss2)) (hn : n ≤ 1099511627776) (hm : m ≤ 1099511627776) (hn2 : n2 ≤ 1099511627776) (hm2 : m2 ≤ 1099511627776) :
    Calls Try.prog 29 #[doV t P S n m c d, doV t2 P2 S2 n2 m2 c2 d2] w fun e w' => e = .returned (.bool (decide (t = t2 ∧ ps = ps2 ∧ ss = ss2))) ∧ Below w.heap.size w w' := by
  obtain ⟨W1, hW_W1⟩ : ∃ W1, (w.alloc (.cells #[.int .i64 t, .slice P n c, .slice S m d] 27)).alloc (.cells #[.int .i64 t2, .slice P2 n2 c2, .slice S2 m2 d2] 27) = W1 := ⟨_, rfl⟩
  have hc_W10 : W1.cell? ⟨w.heap.size, 0, none⟩ = some (.int .i64 t) := by rw [← hW_W1]; simp
  have hc_W11 : W1.cell? ⟨w.heap.size, 1, none⟩ = some (.slice P n c) := by rw [← hW_W1]; simp
  have hc_W12 : W1.cell? ⟨w.heap.size, 2, none⟩ = some (.slice S m d) := by rw [← hW_W1]; simp
  have hc_W13 : W1.cell? ⟨w.heap.size + 1, 0, none⟩ = some (.int .i64 t2) := by rw [← hW_W1]; simp
  have hc_W14 : W1.cell? ⟨w.heap.size + 1, 1, none⟩ = some (.slice P2 n2 c2) := by rw [← hW_W1]; simp
  have hc_W15 : W1.cell? ⟨w.heap.size + 1, 2, none⟩ = some (.slice S2 m2 d2) := by rw [← hW_W1]; simp
  have hs_W1 : w.heap.size < W1.heap.size := by rw [← hW_W1]; simp
  have hb_W1 : Below w.heap.size w W1 := by rw [← hW_W1]; repeat (first | exact Below.refl _ _ | assumption | refine Below.next_ ?_ ?_ (by assumption) | refine Below.drew ?_ | refine below_drewN ?_ _ | refine Below.alloc ?_ ?_ _ | refine Below.setCell ?_ ?_ _ | omega | (simp <;> omega) | (simp at * <;> omega))
  have HW_W1 := hide hW_W1
  clear hW_W1
  by_cases ht : t = t2
  · have hb1 : (t == t2) = true := by simpa using ht
    by_cases hp : ps = ps2
    · have HP := hide (show decide (ps = ps2) = true by simpa using hp)
      have hfin := hide (show decide (t = t2 ∧ ps = ps2 ∧ ss = ss2) = decide (ss = ss2) by simp [ht, hp])
      clear ht hp
      go_enter Try.func29, Try.ntmps29
      go_wp2_with fail
      rw [HW_W1.out]
      clear HW_W1
      refine (equalStrings_any (h1.below (by repeat (first | exact Below.refl _ _ | assumption | refine Below.next_ ?_ ?_ (by assumption) | refine Below.drew ?_ | refine below_drewN ?_ _ | refine Below.alloc ?_ ?_ _ | refine Below.setCell ?_ ?_ _ | omega | (dsimp only; omega) | (simp <;> omega) | (simp at * <;> omega)))) (k1.below (by repeat (first | exact Below.refl _ _ | assumption | refine Below.next_ ?_ ?_ (by assumption) | refine Below.drew ?_ | refine below_drewN ?_ _ | refine Below.alloc ?_ ?_ _ | refine Below.setCell ?_ ?_ _ | omega | (dsimp only; omega) | (simp <;> omega) | (simp at * <;> omega)))) (by omega) (by omega)).mono ?_
      rintro e _ ⟨rfl, q1, rfl⟩
      rw [HP.out]
      go_wp2_with fail
      refine (implEqualInts_any (h2.below (by repeat (first | exact Below.refl _ _ | assumption | refine Below.next_ ?_ ?_ (by assumption) | refine Below.drew ?_ | refine below_drewN ?_ _ | refine Below.alloc ?_ ?_ _ | refine Below.setCell ?_ ?_ _ | omega | (dsimp only; omega) | (simp <;> omega) | (simp at * <;> omega)))) (k2.below (by repeat (first | exact Below.refl _ _ | assumption | refine Below.next_ ?_ ?_ (by assumption) | refine Below.drew ?_ | refine below_drewN ?_ _ | refine Below.alloc ?_ ?_ _ | refine Below.setCell ?_ ?_ _ | omega | (dsimp only; omega) | (simp <;> omega) | (simp at * <;> omega)))) (by omega) (by omega)).mono ?_
      rintro e _ ⟨rfl, q2, rfl⟩
      go_wp2_with fail
      go_ret
      exact ⟨ret_b (by first | exact hfin.out.symm | simpa using hfin.out.symm), by repeat (first | exact Below.refl _ _ | assumption | refine Below.next_ ?_ ?_ (by assumption) | refine Below.drew ?_ | refine below_drewN ?_ _ | refine Below.alloc ?_ ?_ _ | refine Below.setCell ?_ ?_ _ | omega | (dsimp only; omega) | (simp <;> omega) | (simp at * <;> omega))⟩
    · have HP := hide (show decide (ps = ps2) = false by simpa using hp)
      have hfin := hide (eqd_p (t := t) (t2 := t2) (ss := ss) (ss2 := ss2) hp)
      clear ht hp
      go_enter Try.func29, Try.ntmps29
      go_wp2_with fail
      rw [HW_W1.out]
      clear HW_W1
      refine (equalStrings_any (h1.below (by repeat (first | exact Below.refl _ _ | assumption | refine Below.next_ ?_ ?_ (by assumption) | refine Below.drew ?_ | refine below_drewN ?_ _ | refine Below.alloc ?_ ?_ _ | refine Below.setCell ?_ ?_ _ | omega | (dsimp only; omega) | (simp <;> omega) | (simp at * <;> omega)))) (k1.below (by repeat (first | exact Below.refl _ _ | assumption | refine Below.next_ ?_ ?_ (by assumption) | refine Below.drew ?_ | refine below_drewN ?_ _ | refine Below.alloc ?_ ?_ _ | refine Below.setCell ?_ ?_ _ | omega | (dsimp only; omega) | (simp <;> omega) | (simp at * <;> omega)))) (by omega) (by omega)).mono ?_
      rintro e _ ⟨rfl, q1, rfl⟩
      rw [HP.out]
      go_wp2_with fail
      go_ret
      exact ⟨ret_b (by first | exact hfin.out.symm | simpa using hfin.out.symm), by repeat (first | exact Below.refl _ _ | assumption | refine Below.next_ ?_ ?_ (by assumption) | refine Below.drew ?_ | refine below_drewN ?_ _ | refine Below.alloc ?_ ?_ _ | refine Below.setCell ?_ ?_ _ | omega | (dsimp only; omega) | (simp <;> omega) | (simp at * <;> omega))⟩
  · have hb1 : (t == t2) = false := by simpa using ht
    have hfin := hide (eqd_t (ps := ps) (ps2 := ps2) (ss := ss) (ss2 := ss2) ht)
    clear ht
    go_enter Try.func29, Try.ntmps29
    go_wp2_with fail
    rw [HW_W1.out]
    clear HW_W1
    go_ret
    exact ⟨ret_b (by first | exact hfin.out.symm | simpa using hfin.out.symm), by repeat (first | exact Below.refl _ _ | assumption | refine Below.next_ ?_ ?_ (by assumption) | refine Below.drew ?_ | refine below_drewN ?_ _ | refine Below.alloc ?_ ?_ _ | refine Below.setCell ?_ ?_ _ | omega | (dsimp only; omega) | (simp <;> omega) | (simp at * <;> omega))⟩
end Go.Proofs.Ythjdigiaajdnbaa
