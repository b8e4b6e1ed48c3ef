/- The contract of the reference's MeetSpans. No condition. -/
import Derived.Test.YtmlkhgekacjidaeSpanM
import Derived.Deep.RegionHeld3
namespace Go.Proofs.Ytmlkhgekacjidae
open Go.RowKit Go.WideShapes Go.ChangeShapes Go.Deep
set_option linter.unusedSimpArgs false
set_option linter.unusedVariables false

set_option maxHeartbeats 800000 in
theorem specMeetSpans_any (af at_ bf bt : Int) (w : World) :
    Calls Try.prog 103 #[spV af at_, spV bf bt] w fun e w' => e = .returned (.tuple #[spV (mtF af at_ bf bt) (mtT af at_ bf bt), .bool (mtOk af at_ bf bt)]) ∧ Below w.heap.size w w' := by
  rcases Bool.eq_false_or_eq_true (isSp af at_) with ha | ha
  · rcases Bool.eq_false_or_eq_true (isSp bf bt) with hb | hb
    · have hfin := hide (show mtF af at_ bf bt = mkF (max af bf) (min at_ bt) ∧ mtT af at_ bf bt = mkT (max af bf) (min at_ bt) ∧ mtOk af at_ bf bt = mkOk (max af bf) (min at_ bt) by
        have e : mtOk af at_ bf bt = mkOk (max af bf) (min at_ bt) := by simp [mtOk, ha, hb]
        have ha' := isSp_true.1 ha
        have hb' := isSp_true.1 hb
        have e1 : max (max af bf) 0 = max af bf := by omega
        have e2 : min (min at_ bt) 10000 = min at_ bt := by omega
        refine ⟨?_, ?_, e⟩
        · rw [mtF, e, mkF, e1]
        · rw [mtT, e, mkT, e2])
      go_enter Try.func103, Try.ntmps103
      go_wp2_with (go_at_call 60; refine (specIsSpan_any _ _ _).mono ?_; rintro e w' ⟨rfl, hb⟩; have hs := hb.size; obtain ⟨hc, hf⟩ := bcell hb; (try simp only [World.size_drew, World.heap_drewN] at hc hf); (try simp at hs); (try (have hz : w.heap.size < w'.heap.size := by omega)); (try (have hz : w.heap.size + 1 < w'.heap.size := by omega)); (try (have hz : w.heap.size + 1 + 1 < w'.heap.size := by omega)); (try (have hz : w.heap.size + 1 + 1 + 1 < w'.heap.size := by omega)); (try (have hz : w.heap.size + 1 + 1 + 1 + 1 < w'.heap.size := by omega)))
      go_region_held3 (fun w' => w'.cell? ⟨w.heap.size, 0, none⟩ = some (.int .i64 af) ∧ w'.cell? ⟨w.heap.size, 1, none⟩ = some (.int .i64 at_) ∧ w'.cell? ⟨w.heap.size + 1, 0, none⟩ = some (.int .i64 bf) ∧ w'.cell? ⟨w.heap.size + 1, 1, none⟩ = some (.int .i64 bt)) (first | go_keep | (simp [*]))
        (first | (go_at_call 131; refine (specMax_any _ _ _).mono ?_; rintro e w' ⟨rfl, rfl⟩) | (go_at_call 147; refine (specMin_any _ _ _).mono ?_; rintro e w' ⟨rfl, rfl⟩) | (go_at_call 146; refine (specMakeSpan_any _ _ _).mono ?_; rintro e w' ⟨rfl, hb⟩; have hs := hb.size; obtain ⟨hc, hf⟩ := bcell hb; (try simp only [World.size_drew, World.heap_drewN] at hc hf); (try simp at hs); (try (have hz : w.heap.size < w'.heap.size := by omega)); (try (have hz : w.heap.size + 1 < w'.heap.size := by omega)); (try (have hz : w.heap.size + 1 + 1 < w'.heap.size := by omega)); (try (have hz : w.heap.size + 1 + 1 + 1 < w'.heap.size := by omega)); (try (have hz : w.heap.size + 1 + 1 + 1 + 1 < w'.heap.size := by omega))))
      go_wp2
      exact bodyPost_ret (v := .tuple #[spV (mkF (max af bf) (min at_ bt)) (mkT (max af bf) (min at_ bt)), .bool (mkOk (max af bf) (min at_ bt))]) (by simp [results, Try.results103, go_sem, *]) rfl ⟨ret_sp ⟨hfin.out.1.symm, hfin.out.2.1.symm, hfin.out.2.2.symm⟩, by repeat (first | exact Below.refl _ _ | assumption | refine Below.next_ ?_ ?_ (by assumption) | refine Below.drew ?_ | refine below_drewN ?_ _ | refine Below.alloc ?_ ?_ _ | refine Below.setCell ?_ ?_ _ | omega | (simp <;> omega) | (simp at * <;> omega))⟩
    · have hfin := hide (show mtF af at_ bf bt = 0 ∧ mtT af at_ bf bt = 0 ∧ mtOk af at_ bf bt = false by
        have e : mtOk af at_ bf bt = false := by simp [mtOk, hb]
        simp [mtF, mtT, e])
      go_enter Try.func103, Try.ntmps103
      go_wp2_with (go_at_call 60; refine (specIsSpan_any _ _ _).mono ?_; rintro e w' ⟨rfl, hb⟩; have hs := hb.size; obtain ⟨hc, hf⟩ := bcell hb; (try simp only [World.size_drew, World.heap_drewN] at hc hf); (try simp at hs); (try (have hz : w.heap.size < w'.heap.size := by omega)); (try (have hz : w.heap.size + 1 < w'.heap.size := by omega)); (try (have hz : w.heap.size + 1 + 1 < w'.heap.size := by omega)); (try (have hz : w.heap.size + 1 + 1 + 1 < w'.heap.size := by omega)); (try (have hz : w.heap.size + 1 + 1 + 1 + 1 < w'.heap.size := by omega)))
      all_goals exact bodyPost_ret (v := .tuple #[spV 0 0, .bool false]) (by simp [results, Try.results103, go_sem, *]) rfl ⟨ret_sp ⟨hfin.out.1.symm, hfin.out.2.1.symm, hfin.out.2.2.symm⟩, by repeat (first | exact Below.refl _ _ | assumption | refine Below.next_ ?_ ?_ (by assumption) | refine Below.drew ?_ | refine below_drewN ?_ _ | refine Below.alloc ?_ ?_ _ | refine Below.setCell ?_ ?_ _ | omega | (simp <;> omega) | (simp at * <;> omega))⟩
  · have hfin := hide (show mtF af at_ bf bt = 0 ∧ mtT af at_ bf bt = 0 ∧ mtOk af at_ bf bt = false by
      have e : mtOk af at_ bf bt = false := by simp [mtOk, ha]
      simp [mtF, mtT, e])
    go_enter Try.func103, Try.ntmps103
    go_wp2_with (go_at_call 60; refine (specIsSpan_any _ _ _).mono ?_; rintro e w' ⟨rfl, hb⟩; have hs := hb.size; obtain ⟨hc, hf⟩ := bcell hb; (try simp only [World.size_drew, World.heap_drewN] at hc hf); (try simp at hs); (try (have hz : w.heap.size < w'.heap.size := by omega)); (try (have hz : w.heap.size + 1 < w'.heap.size := by omega)); (try (have hz : w.heap.size + 1 + 1 < w'.heap.size := by omega)); (try (have hz : w.heap.size + 1 + 1 + 1 < w'.heap.size := by omega)); (try (have hz : w.heap.size + 1 + 1 + 1 + 1 < w'.heap.size := by omega)))
    all_goals exact bodyPost_ret (v := .tuple #[spV 0 0, .bool false]) (by simp [results, Try.results103, go_sem, *]) rfl ⟨ret_sp ⟨hfin.out.1.symm, hfin.out.2.1.symm, hfin.out.2.2.symm⟩, by repeat (first | exact Below.refl _ _ | assumption | refine Below.next_ ?_ ?_ (by assumption) | refine Below.drew ?_ | refine below_drewN ?_ _ | refine Below.alloc ?_ ?_ _ | refine Below.setCell ?_ ?_ _ | omega | (simp <;> omega) | (simp at * <;> omega))⟩
end Go.Proofs.Ytmlkhgekacjidae
