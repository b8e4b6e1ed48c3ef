/- Contracts of CountShown of the program and of the reference. For rows of at most 2^40 elements. -/
import Derived.Test.YthjdigiaajdnbaaRed
namespace Go.Proofs.Ythjdigiaajdnbaa
open Go.RowKit Go.WideShapes Go.ChangeShapes Go.Deep
set_option linter.unusedSimpArgs false
set_option linter.unusedVariables false
set_option maxRecDepth 1000000
def cntF (bs : List Bool) : Nat := (bs.filter id).length
theorem cntF_t {bs : List Bool} {k : Nat} (h : bs[k]? = some true) : cntF (bs.take (k + 1)) = cntF (bs.take k) + 1 := by unfold cntF; rw [take_snoc_ h]; simp
theorem cntF_f {bs : List Bool} {k : Nat} (h : bs[k]? = some false) : cntF (bs.take (k + 1)) = cntF (bs.take k) := by unfold cntF; rw [take_snoc_ h]; simp
theorem cntF_le (bs : List Bool) : cntF bs ≤ bs.length := List.length_filter_le _ _
set_option maxHeartbeats 2000000 in
theorem implCountShown_any {t : Int} {M B P S D : Option Addr} {nm nb np ns nd cm cb cp cs cd : Nat} {ms : List Int} {bs : List Bool} {ps : List ByteArray} {ss : List Int} {ds : List (List Int)} {w : World} (h : RdR w M B P S D nm nb np ns nd ms bs ps ss ds) (hn : nb ≤ 1099511627776) :
    Calls Try.prog 17 #[reV t M B P S D nm nb np ns nd cm cb cp cs cd] w fun e w' => e = .returned (.int .i64 (cntF bs)) ∧ Below w.heap.size w w' := by
  obtain ⟨W1, hW_W1⟩ : ∃ W1, w.alloc (.cells #[.int .i64 t, .slice M nm cm, .slice B nb cb, .slice P np cp, .slice S ns cs, .slice D nd cd] 33) = W1 := ⟨_, rfl⟩
  have hc_W10 : W1.cell? ⟨w.heap.size, 0, none⟩ = some (.int .i64 t) := by rw [← hW_W1]; simp
  have hc_W11 : W1.cell? ⟨w.heap.size, 1, none⟩ = some (.slice M nm cm) := by rw [← hW_W1]; simp
  have hc_W12 : W1.cell? ⟨w.heap.size, 2, none⟩ = some (.slice B nb cb) := by rw [← hW_W1]; simp
  have hc_W13 : W1.cell? ⟨w.heap.size, 3, none⟩ = some (.slice P np cp) := by rw [← hW_W1]; simp
  have hc_W14 : W1.cell? ⟨w.heap.size, 4, none⟩ = some (.slice S ns cs) := by rw [← hW_W1]; simp
  have hc_W15 : W1.cell? ⟨w.heap.size, 5, none⟩ = some (.slice D nd cd) := by rw [← hW_W1]; simp
  have hs_W1 : w.heap.size < W1.heap.size := by rw [← hW_W1]; simp
  have hb_W1 : Below w.heap.size w W1 := by rw [← hW_W1]; repeat (first | exact Below.refl _ _ | assumption | refine Below.next_ ?_ ?_ (by assumption) | refine Below.drew ?_ | refine below_drewN ?_ _ | refine Below.alloc ?_ ?_ _ | refine Below.setCell ?_ ?_ _ | omega | (simp <;> omega) | (simp at * <;> omega))
  have HW_W1 := hide hW_W1
  clear hW_W1
  have k1 := h.b.below hb_W1
  have HL := hide k1.maplen
  go_enter Try.func17, Try.ntmps17
  go_wp2_with fail
  rw [HW_W1.out]
  clear HW_W1
  go_loopw [3, 9] (fun c i wr => ∃ k : Nat, k ≤ nb ∧ i = .int .i64 k ∧ c = .int .i64 (cntF (bs.take k)) ∧ wr = W1) (fun _ i _ => nb - (intOf i).toNat)
  case atStart => exact ⟨0, Nat.zero_le _, rfl, rfl, rfl⟩
  case round =>
    obtain ⟨k, hk, rfl, rfl, rfl⟩ := hrel
    have hk0 : (0 : Int) ≤ (k : Int) := by omega
    by_cases hlt : k < nb
    · obtain ⟨ad, x, rfl, hx, hcx⟩ := Rd.bl k1 hlt
      have hkn : (k : Int) < (nb : Int) := by omega
      have hle := cntF_le (bs.take k)
      have hlt2 : (bs.take k).length ≤ k := by simp; omega
      have hw : wrap64 ((cntF (bs.take k) : Int) + 1) = (cntF (bs.take k) : Int) + 1 := by simp only [wrap64]; omega
      cases x with
      | true =>
        have hst := hide (cntF_t hx)
        clear hx hle hlt2
        go_wp2_with fail
        go_roundw
        case rel => exact ⟨k + 1, by omega, by go_num, by rw [hst.out]; go_num, trivial⟩
        case measure => simp [intOf]; omega
      | false =>
        have hst := hide (cntF_f hx)
        clear hx hle hlt2
        go_wp2_with fail
        go_roundw
        case rel => exact ⟨k + 1, by omega, by go_num, by rw [hst.out], trivial⟩
        case measure => simp [intOf]; omega
    · have hfin := hide (show cntF bs = cntF (bs.take k) by rw [List.take_of_length_le (by have := HL.out; omega)])
      have hkn : ¬ (k : Int) < (nb : Int) := by omega
      go_wp2_with fail
      go_ret
      exact ⟨ret_i (by rw [hfin.out]), by repeat (first | exact Below.refl _ _ | assumption | refine Below.next_ ?_ ?_ (by assumption) | refine Below.drew ?_ | refine below_drewN ?_ _ | refine Below.alloc ?_ ?_ _ | refine Below.setCell ?_ ?_ _ | omega | (dsimp only; omega) | (simp <;> omega) | (simp at * <;> omega))⟩
end Go.Proofs.Ythjdigiaajdnbaa
