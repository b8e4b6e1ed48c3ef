/- The contract of the program's MeetSpans. No condition. -/
import Derived.Test.YtgeffaohdoeclaaSpanM
namespace Go.Proofs.Ytgeffaohdoeclaa
open Go.RowKit Go.WideShapes Go.ChangeShapes Go.Deep
set_option linter.unusedSimpArgs false
set_option linter.unusedVariables false

set_option maxHeartbeats 4000000 in
theorem implMeetSpans_any (af at_ bf bt : Int) (w : World) :
    Calls Try.prog 49 #[spV af at_, spV bf bt] w fun e w' => e = .returned (.tuple #[spV (mtF af at_ bf bt) (mtT af at_ bf bt), .bool (mtOk af at_ bf bt)]) ∧ Below w.heap.size w w' := by
  rcases Bool.eq_false_or_eq_true (isSp af at_) with ha | ha
  · rcases Bool.eq_false_or_eq_true (isSp bf bt) with hb | hb
    · have ha' := hide (isSp_true.1 ha)
      have hb' := hide (isSp_true.1 hb)
      rcases Int.lt_or_le af bf with k1 | k1
      · rcases Int.lt_or_le bt at_ with k2 | k2
        · have HX : Hid (bf = max af bf) := (by omega : bf = max af bf)
          have HY : Hid (bt = min at_ bt) := (by omega : bt = min at_ bt)
          rcases Bool.eq_false_or_eq_true (isSp bf bt) with hs | hs
          · have hfin := hide (show mtF af at_ bf bt = bf ∧ mtT af at_ bf bt = bt ∧ mtOk af at_ bf bt = true by
              have h' := isSp_true.1 hs
              have e : mtOk af at_ bf bt = true := by
                have e1 : max (max af bf) 0 ≤ min (min at_ bt) 10000 := by omega
                simp only [mtOk, ha, hb, mkOk, Bool.true_and, decide_eq_true_eq]
                exact e1
              simp only [mtF, mtT, e, if_true, ← HX.out, ← HY.out, and_self])
            go_enter Try.func49, Try.ntmps49
            go_wp2_with (go_at_call 42; refine (implIsSpan_any _ _ _).mono ?_; rintro e w' ⟨rfl, hb⟩; have hs := hb.size; obtain ⟨hc, hf⟩ := bcell hb; (try simp only [World.size_drew, World.heap_drewN] at hc hf); (try simp at hs); (try (have hz : w.heap.size < w'.heap.size := by omega)); (try (have hz : w.heap.size + 1 < w'.heap.size := by omega)); (try (have hz : w.heap.size + 1 + 1 < w'.heap.size := by omega)); (try (have hz : w.heap.size + 1 + 1 + 1 < w'.heap.size := by omega)); (try (have hz : w.heap.size + 1 + 1 + 1 + 1 < w'.heap.size := by omega)))
            exact bodyPost_ret (v := .tuple #[spV bf bt, .bool true]) (by simp [results, Try.results49, go_sem, *]) rfl ⟨ret_sp ⟨hfin.out.1.symm, hfin.out.2.1.symm, hfin.out.2.2.symm⟩, by repeat (first | exact Below.refl _ _ | assumption | refine Below.next_ ?_ ?_ (by assumption) | refine Below.drew ?_ | refine below_drewN ?_ _ | refine Below.alloc ?_ ?_ _ | refine Below.setCell ?_ ?_ _ | omega | (simp <;> omega) | (simp at * <;> omega))⟩
          · rw [hb] at hs
            cases hs
        · have HX : Hid (bf = max af bf) := (by omega : bf = max af bf)
          have HY : Hid (at_ = min at_ bt) := (by omega : at_ = min at_ bt)
          rcases Bool.eq_false_or_eq_true (isSp bf at_) with hs | hs
          · have hfin := hide (show mtF af at_ bf bt = bf ∧ mtT af at_ bf bt = at_ ∧ mtOk af at_ bf bt = true by
              have h' := isSp_true.1 hs
              have e : mtOk af at_ bf bt = true := by
                have e1 : max (max af bf) 0 ≤ min (min at_ bt) 10000 := by omega
                simp only [mtOk, ha, hb, mkOk, Bool.true_and, decide_eq_true_eq]
                exact e1
              simp only [mtF, mtT, e, if_true, ← HX.out, ← HY.out, and_self])
            go_enter Try.func49, Try.ntmps49
            go_wp2_with (go_at_call 42; refine (implIsSpan_any _ _ _).mono ?_; rintro e w' ⟨rfl, hb⟩; have hs := hb.size; obtain ⟨hc, hf⟩ := bcell hb; (try simp only [World.size_drew, World.heap_drewN] at hc hf); (try simp at hs); (try (have hz : w.heap.size < w'.heap.size := by omega)); (try (have hz : w.heap.size + 1 < w'.heap.size := by omega)); (try (have hz : w.heap.size + 1 + 1 < w'.heap.size := by omega)); (try (have hz : w.heap.size + 1 + 1 + 1 < w'.heap.size := by omega)); (try (have hz : w.heap.size + 1 + 1 + 1 + 1 < w'.heap.size := by omega)))
            exact bodyPost_ret (v := .tuple #[spV bf at_, .bool true]) (by simp [results, Try.results49, go_sem, *]) rfl ⟨ret_sp ⟨hfin.out.1.symm, hfin.out.2.1.symm, hfin.out.2.2.symm⟩, by repeat (first | exact Below.refl _ _ | assumption | refine Below.next_ ?_ ?_ (by assumption) | refine Below.drew ?_ | refine below_drewN ?_ _ | refine Below.alloc ?_ ?_ _ | refine Below.setCell ?_ ?_ _ | omega | (simp <;> omega) | (simp at * <;> omega))⟩
          · have hfin := hide (show mtF af at_ bf bt = 0 ∧ mtT af at_ bf bt = 0 ∧ mtOk af at_ bf bt = false by
              have h' := isSp_false.1 hs
              have ha2 := ha'.out
              have hb2 := hb'.out
              have e : mtOk af at_ bf bt = false := by
                have e1 : ¬ max (max af bf) 0 ≤ min (min at_ bt) 10000 := by omega
                simp only [mtOk, ha, hb, mkOk, Bool.true_and, decide_eq_false_iff_not]
                exact e1
              simp [mtF, mtT, e])
            go_enter Try.func49, Try.ntmps49
            go_wp2_with (go_at_call 42; refine (implIsSpan_any _ _ _).mono ?_; rintro e w' ⟨rfl, hb⟩; have hs := hb.size; obtain ⟨hc, hf⟩ := bcell hb; (try simp only [World.size_drew, World.heap_drewN] at hc hf); (try simp at hs); (try (have hz : w.heap.size < w'.heap.size := by omega)); (try (have hz : w.heap.size + 1 < w'.heap.size := by omega)); (try (have hz : w.heap.size + 1 + 1 < w'.heap.size := by omega)); (try (have hz : w.heap.size + 1 + 1 + 1 < w'.heap.size := by omega)); (try (have hz : w.heap.size + 1 + 1 + 1 + 1 < w'.heap.size := by omega)))
            exact bodyPost_ret (v := .tuple #[spV 0 0, .bool false]) (by simp [results, Try.results49, go_sem, *]) rfl ⟨ret_sp ⟨hfin.out.1.symm, hfin.out.2.1.symm, hfin.out.2.2.symm⟩, by repeat (first | exact Below.refl _ _ | assumption | refine Below.next_ ?_ ?_ (by assumption) | refine Below.drew ?_ | refine below_drewN ?_ _ | refine Below.alloc ?_ ?_ _ | refine Below.setCell ?_ ?_ _ | omega | (simp <;> omega) | (simp at * <;> omega))⟩
      · rcases Int.lt_or_le bt at_ with k2 | k2
        · have HX : Hid (af = max af bf) := (by omega : af = max af bf)
          have HY : Hid (bt = min at_ bt) := (by omega : bt = min at_ bt)
          rcases Bool.eq_false_or_eq_true (isSp af bt) with hs | hs
          · have hfin := hide (show mtF af at_ bf bt = af ∧ mtT af at_ bf bt = bt ∧ mtOk af at_ bf bt = true by
              have h' := isSp_true.1 hs
              have e : mtOk af at_ bf bt = true := by
                have e1 : max (max af bf) 0 ≤ min (min at_ bt) 10000 := by omega
                simp only [mtOk, ha, hb, mkOk, Bool.true_and, decide_eq_true_eq]
                exact e1
              simp only [mtF, mtT, e, if_true, ← HX.out, ← HY.out, and_self])
            go_enter Try.func49, Try.ntmps49
            go_wp2_with (go_at_call 42; refine (implIsSpan_any _ _ _).mono ?_; rintro e w' ⟨rfl, hb⟩; have hs := hb.size; obtain ⟨hc, hf⟩ := bcell hb; (try simp only [World.size_drew, World.heap_drewN] at hc hf); (try simp at hs); (try (have hz : w.heap.size < w'.heap.size := by omega)); (try (have hz : w.heap.size + 1 < w'.heap.size := by omega)); (try (have hz : w.heap.size + 1 + 1 < w'.heap.size := by omega)); (try (have hz : w.heap.size + 1 + 1 + 1 < w'.heap.size := by omega)); (try (have hz : w.heap.size + 1 + 1 + 1 + 1 < w'.heap.size := by omega)))
            exact bodyPost_ret (v := .tuple #[spV af bt, .bool true]) (by simp [results, Try.results49, go_sem, *]) rfl ⟨ret_sp ⟨hfin.out.1.symm, hfin.out.2.1.symm, hfin.out.2.2.symm⟩, by repeat (first | exact Below.refl _ _ | assumption | refine Below.next_ ?_ ?_ (by assumption) | refine Below.drew ?_ | refine below_drewN ?_ _ | refine Below.alloc ?_ ?_ _ | refine Below.setCell ?_ ?_ _ | omega | (simp <;> omega) | (simp at * <;> omega))⟩
          · have hfin := hide (show mtF af at_ bf bt = 0 ∧ mtT af at_ bf bt = 0 ∧ mtOk af at_ bf bt = false by
              have h' := isSp_false.1 hs
              have ha2 := ha'.out
              have hb2 := hb'.out
              have e : mtOk af at_ bf bt = false := by
                have e1 : ¬ max (max af bf) 0 ≤ min (min at_ bt) 10000 := by omega
                simp only [mtOk, ha, hb, mkOk, Bool.true_and, decide_eq_false_iff_not]
                exact e1
              simp [mtF, mtT, e])
            go_enter Try.func49, Try.ntmps49
            go_wp2_with (go_at_call 42; refine (implIsSpan_any _ _ _).mono ?_; rintro e w' ⟨rfl, hb⟩; have hs := hb.size; obtain ⟨hc, hf⟩ := bcell hb; (try simp only [World.size_drew, World.heap_drewN] at hc hf); (try simp at hs); (try (have hz : w.heap.size < w'.heap.size := by omega)); (try (have hz : w.heap.size + 1 < w'.heap.size := by omega)); (try (have hz : w.heap.size + 1 + 1 < w'.heap.size := by omega)); (try (have hz : w.heap.size + 1 + 1 + 1 < w'.heap.size := by omega)); (try (have hz : w.heap.size + 1 + 1 + 1 + 1 < w'.heap.size := by omega)))
            exact bodyPost_ret (v := .tuple #[spV 0 0, .bool false]) (by simp [results, Try.results49, go_sem, *]) rfl ⟨ret_sp ⟨hfin.out.1.symm, hfin.out.2.1.symm, hfin.out.2.2.symm⟩, by repeat (first | exact Below.refl _ _ | assumption | refine Below.next_ ?_ ?_ (by assumption) | refine Below.drew ?_ | refine below_drewN ?_ _ | refine Below.alloc ?_ ?_ _ | refine Below.setCell ?_ ?_ _ | omega | (simp <;> omega) | (simp at * <;> omega))⟩
        · have HX : Hid (af = max af bf) := (by omega : af = max af bf)
          have HY : Hid (at_ = min at_ bt) := (by omega : at_ = min at_ bt)
          rcases Bool.eq_false_or_eq_true (isSp af at_) with hs | hs
          · have hfin := hide (show mtF af at_ bf bt = af ∧ mtT af at_ bf bt = at_ ∧ mtOk af at_ bf bt = true by
              have h' := isSp_true.1 hs
              have e : mtOk af at_ bf bt = true := by
                have e1 : max (max af bf) 0 ≤ min (min at_ bt) 10000 := by omega
                simp only [mtOk, ha, hb, mkOk, Bool.true_and, decide_eq_true_eq]
                exact e1
              simp only [mtF, mtT, e, if_true, ← HX.out, ← HY.out, and_self])
            go_enter Try.func49, Try.ntmps49
            go_wp2_with (go_at_call 42; refine (implIsSpan_any _ _ _).mono ?_; rintro e w' ⟨rfl, hb⟩; have hs := hb.size; obtain ⟨hc, hf⟩ := bcell hb; (try simp only [World.size_drew, World.heap_drewN] at hc hf); (try simp at hs); (try (have hz : w.heap.size < w'.heap.size := by omega)); (try (have hz : w.heap.size + 1 < w'.heap.size := by omega)); (try (have hz : w.heap.size + 1 + 1 < w'.heap.size := by omega)); (try (have hz : w.heap.size + 1 + 1 + 1 < w'.heap.size := by omega)); (try (have hz : w.heap.size + 1 + 1 + 1 + 1 < w'.heap.size := by omega)))
            exact bodyPost_ret (v := .tuple #[spV af at_, .bool true]) (by simp [results, Try.results49, go_sem, *]) rfl ⟨ret_sp ⟨hfin.out.1.symm, hfin.out.2.1.symm, hfin.out.2.2.symm⟩, by repeat (first | exact Below.refl _ _ | assumption | refine Below.next_ ?_ ?_ (by assumption) | refine Below.drew ?_ | refine below_drewN ?_ _ | refine Below.alloc ?_ ?_ _ | refine Below.setCell ?_ ?_ _ | omega | (simp <;> omega) | (simp at * <;> omega))⟩
          · rw [ha] at hs
            cases hs
    · have hfin := hide (show mtF af at_ bf bt = 0 ∧ mtT af at_ bf bt = 0 ∧ mtOk af at_ bf bt = false by
        have e : mtOk af at_ bf bt = false := by simp [mtOk, hb]
        simp [mtF, mtT, e])
      go_enter Try.func49, Try.ntmps49
      go_wp2_with (go_at_call 42; refine (implIsSpan_any _ _ _).mono ?_; rintro e w' ⟨rfl, hb⟩; have hs := hb.size; obtain ⟨hc, hf⟩ := bcell hb; (try simp only [World.size_drew, World.heap_drewN] at hc hf); (try simp at hs); (try (have hz : w.heap.size < w'.heap.size := by omega)); (try (have hz : w.heap.size + 1 < w'.heap.size := by omega)); (try (have hz : w.heap.size + 1 + 1 < w'.heap.size := by omega)); (try (have hz : w.heap.size + 1 + 1 + 1 < w'.heap.size := by omega)); (try (have hz : w.heap.size + 1 + 1 + 1 + 1 < w'.heap.size := by omega)))
      all_goals exact bodyPost_ret (v := .tuple #[spV 0 0, .bool false]) (by simp [results, Try.results49, go_sem, *]) rfl ⟨ret_sp ⟨hfin.out.1.symm, hfin.out.2.1.symm, hfin.out.2.2.symm⟩, by repeat (first | exact Below.refl _ _ | assumption | refine Below.next_ ?_ ?_ (by assumption) | refine Below.drew ?_ | refine below_drewN ?_ _ | refine Below.alloc ?_ ?_ _ | refine Below.setCell ?_ ?_ _ | omega | (simp <;> omega) | (simp at * <;> omega))⟩
  · have hfin := hide (show mtF af at_ bf bt = 0 ∧ mtT af at_ bf bt = 0 ∧ mtOk af at_ bf bt = false by
      have e : mtOk af at_ bf bt = false := by simp [mtOk, ha]
      simp [mtF, mtT, e])
    go_enter Try.func49, Try.ntmps49
    go_wp2_with (go_at_call 42; refine (implIsSpan_any _ _ _).mono ?_; rintro e w' ⟨rfl, hb⟩; have hs := hb.size; obtain ⟨hc, hf⟩ := bcell hb; (try simp only [World.size_drew, World.heap_drewN] at hc hf); (try simp at hs); (try (have hz : w.heap.size < w'.heap.size := by omega)); (try (have hz : w.heap.size + 1 < w'.heap.size := by omega)); (try (have hz : w.heap.size + 1 + 1 < w'.heap.size := by omega)); (try (have hz : w.heap.size + 1 + 1 + 1 < w'.heap.size := by omega)); (try (have hz : w.heap.size + 1 + 1 + 1 + 1 < w'.heap.size := by omega)))
    all_goals exact bodyPost_ret (v := .tuple #[spV 0 0, .bool false]) (by simp [results, Try.results49, go_sem, *]) rfl ⟨ret_sp ⟨hfin.out.1.symm, hfin.out.2.1.symm, hfin.out.2.2.symm⟩, by repeat (first | exact Below.refl _ _ | assumption | refine Below.next_ ?_ ?_ (by assumption) | refine Below.drew ?_ | refine below_drewN ?_ _ | refine Below.alloc ?_ ?_ _ | refine Below.setCell ?_ ?_ _ | omega | (simp <;> omega) | (simp at * <;> omega))⟩
end Go.Proofs.Ytgeffaohdoeclaa
