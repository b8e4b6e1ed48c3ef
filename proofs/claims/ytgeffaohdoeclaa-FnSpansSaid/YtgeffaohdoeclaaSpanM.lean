/- Contracts of MakeSpan, of the program and of the reference. No condition. -/
import Derived.Test.YtgeffaohdoeclaaSpan
namespace Go.Proofs.Ytgeffaohdoeclaa
open Go.RowKit Go.WideShapes Go.ChangeShapes Go.Deep
set_option linter.unusedSimpArgs false
set_option linter.unusedVariables false

set_option maxHeartbeats 4000000 in
theorem implMakeSpan_any (f t : Int) (w : World) :
    Calls Try.prog 51 #[.int .i64 f, .int .i64 t] w fun e w' => e = .returned (.tuple #[spV (mkF f t) (mkT f t), .bool (mkOk f t)]) ∧ Below w.heap.size w w' := by
  by_cases h0 : t < f
  · have hfin := hide (show mkF f t = 0 ∧ mkT f t = 0 ∧ mkOk f t = false by
      have h : ¬ max f 0 ≤ min t 10000 := by omega
      simp [mkF, mkT, mkOk, h])
    go_enter Try.func51, Try.ntmps51
    go_wp2
    all_goals exact bodyPost_ret (v := .tuple #[spV 0 0, .bool false]) (by simp [results, Try.results51, go_sem, *]) rfl ⟨ret_sp ⟨hfin.out.1.symm, hfin.out.2.1.symm, hfin.out.2.2.symm⟩, by repeat (first | exact Below.refl _ _ | assumption | refine Below.next_ ?_ ?_ (by assumption) | refine Below.drew ?_ | refine below_drewN ?_ _ | refine Below.alloc ?_ ?_ _ | refine Below.setCell ?_ ?_ _ | omega | (simp <;> omega) | (simp at * <;> omega))⟩
  · have h0' : f ≤ t := by omega
    clear h0
    rcases Int.lt_or_le f 0 with k1 | k1
    · rcases Int.lt_or_le 10000 t with k2 | k2
      · have HX : Hid (0 = max f 0) := (by omega : 0 = max f 0)
        have HY : Hid (10000 = min t 10000) := (by omega : 10000 = min t 10000)
        by_cases h : isSp 0 10000 = true
        · have hfin := hide (show mkF f t = 0 ∧ mkT f t = 10000 ∧ mkOk f t = true by
            have h' := isSp_true.1 h
            have e : max f 0 ≤ min t 10000 := by rw [← HX.out, ← HY.out]; exact h'.2.1
            rw [mkF, mkT, mkOk, decide_eq_true e]
            simp
            omega)
          go_enter Try.func51, Try.ntmps51
          go_wp2_with (go_at_call 42; refine (implIsSpan_any _ _ _).mono ?_; rintro e w' ⟨rfl, hb⟩; have hs := hb.size; obtain ⟨hc, hf⟩ := bcell hb; (try simp only [World.size_drew, World.heap_drewN] at hc hf); (try simp at hs); (try (have hz : w.heap.size < w'.heap.size := by omega)); (try (have hz : w.heap.size + 1 < w'.heap.size := by omega)); (try (have hz : w.heap.size + 1 + 1 < w'.heap.size := by omega)); (try (have hz : w.heap.size + 1 + 1 + 1 < w'.heap.size := by omega)); (try (have hz : w.heap.size + 1 + 1 + 1 + 1 < w'.heap.size := by omega)))
          exact bodyPost_ret (v := .tuple #[spV 0 10000, .bool true]) (by simp [results, Try.results51, go_sem, *]) rfl ⟨ret_sp ⟨hfin.out.1.symm, hfin.out.2.1.symm, hfin.out.2.2.symm⟩, by repeat (first | exact Below.refl _ _ | assumption | refine Below.next_ ?_ ?_ (by assumption) | refine Below.drew ?_ | refine below_drewN ?_ _ | refine Below.alloc ?_ ?_ _ | refine Below.setCell ?_ ?_ _ | omega | (simp <;> omega) | (simp at * <;> omega))⟩
        · have h1 : isSp 0 10000 = false := by simpa using h
          have hfin := hide (show mkF f t = 0 ∧ mkT f t = 0 ∧ mkOk f t = false by
            have h' := isSp_false.1 h1
            have e : ¬ max f 0 ≤ min t 10000 := by omega
            simp [mkF, mkT, mkOk, e])
          clear h
          go_enter Try.func51, Try.ntmps51
          go_wp2_with (go_at_call 42; refine (implIsSpan_any _ _ _).mono ?_; rintro e w' ⟨rfl, hb⟩; have hs := hb.size; obtain ⟨hc, hf⟩ := bcell hb; (try simp only [World.size_drew, World.heap_drewN] at hc hf); (try simp at hs); (try (have hz : w.heap.size < w'.heap.size := by omega)); (try (have hz : w.heap.size + 1 < w'.heap.size := by omega)); (try (have hz : w.heap.size + 1 + 1 < w'.heap.size := by omega)); (try (have hz : w.heap.size + 1 + 1 + 1 < w'.heap.size := by omega)); (try (have hz : w.heap.size + 1 + 1 + 1 + 1 < w'.heap.size := by omega)))
          exact bodyPost_ret (v := .tuple #[spV 0 0, .bool false]) (by simp [results, Try.results51, go_sem, *]) rfl ⟨ret_sp ⟨hfin.out.1.symm, hfin.out.2.1.symm, hfin.out.2.2.symm⟩, by repeat (first | exact Below.refl _ _ | assumption | refine Below.next_ ?_ ?_ (by assumption) | refine Below.drew ?_ | refine below_drewN ?_ _ | refine Below.alloc ?_ ?_ _ | refine Below.setCell ?_ ?_ _ | omega | (simp <;> omega) | (simp at * <;> omega))⟩
      · have HX : Hid (0 = max f 0) := (by omega : 0 = max f 0)
        have HY : Hid (t = min t 10000) := (by omega : t = min t 10000)
        by_cases h : isSp 0 t = true
        · have hfin := hide (show mkF f t = 0 ∧ mkT f t = t ∧ mkOk f t = true by
            have h' := isSp_true.1 h
            have e : max f 0 ≤ min t 10000 := by rw [← HX.out, ← HY.out]; exact h'.2.1
            rw [mkF, mkT, mkOk, decide_eq_true e]
            simp
            omega)
          go_enter Try.func51, Try.ntmps51
          go_wp2_with (go_at_call 42; refine (implIsSpan_any _ _ _).mono ?_; rintro e w' ⟨rfl, hb⟩; have hs := hb.size; obtain ⟨hc, hf⟩ := bcell hb; (try simp only [World.size_drew, World.heap_drewN] at hc hf); (try simp at hs); (try (have hz : w.heap.size < w'.heap.size := by omega)); (try (have hz : w.heap.size + 1 < w'.heap.size := by omega)); (try (have hz : w.heap.size + 1 + 1 < w'.heap.size := by omega)); (try (have hz : w.heap.size + 1 + 1 + 1 < w'.heap.size := by omega)); (try (have hz : w.heap.size + 1 + 1 + 1 + 1 < w'.heap.size := by omega)))
          exact bodyPost_ret (v := .tuple #[spV 0 t, .bool true]) (by simp [results, Try.results51, go_sem, *]) rfl ⟨ret_sp ⟨hfin.out.1.symm, hfin.out.2.1.symm, hfin.out.2.2.symm⟩, by repeat (first | exact Below.refl _ _ | assumption | refine Below.next_ ?_ ?_ (by assumption) | refine Below.drew ?_ | refine below_drewN ?_ _ | refine Below.alloc ?_ ?_ _ | refine Below.setCell ?_ ?_ _ | omega | (simp <;> omega) | (simp at * <;> omega))⟩
        · have h1 : isSp 0 t = false := by simpa using h
          have hfin := hide (show mkF f t = 0 ∧ mkT f t = 0 ∧ mkOk f t = false by
            have h' := isSp_false.1 h1
            have e : ¬ max f 0 ≤ min t 10000 := by omega
            simp [mkF, mkT, mkOk, e])
          clear h
          go_enter Try.func51, Try.ntmps51
          go_wp2_with (go_at_call 42; refine (implIsSpan_any _ _ _).mono ?_; rintro e w' ⟨rfl, hb⟩; have hs := hb.size; obtain ⟨hc, hf⟩ := bcell hb; (try simp only [World.size_drew, World.heap_drewN] at hc hf); (try simp at hs); (try (have hz : w.heap.size < w'.heap.size := by omega)); (try (have hz : w.heap.size + 1 < w'.heap.size := by omega)); (try (have hz : w.heap.size + 1 + 1 < w'.heap.size := by omega)); (try (have hz : w.heap.size + 1 + 1 + 1 < w'.heap.size := by omega)); (try (have hz : w.heap.size + 1 + 1 + 1 + 1 < w'.heap.size := by omega)))
          exact bodyPost_ret (v := .tuple #[spV 0 0, .bool false]) (by simp [results, Try.results51, go_sem, *]) rfl ⟨ret_sp ⟨hfin.out.1.symm, hfin.out.2.1.symm, hfin.out.2.2.symm⟩, by repeat (first | exact Below.refl _ _ | assumption | refine Below.next_ ?_ ?_ (by assumption) | refine Below.drew ?_ | refine below_drewN ?_ _ | refine Below.alloc ?_ ?_ _ | refine Below.setCell ?_ ?_ _ | omega | (simp <;> omega) | (simp at * <;> omega))⟩
    · rcases Int.lt_or_le 10000 t with k2 | k2
      · have HX : Hid (f = max f 0) := (by omega : f = max f 0)
        have HY : Hid (10000 = min t 10000) := (by omega : 10000 = min t 10000)
        by_cases h : isSp f 10000 = true
        · have hfin := hide (show mkF f t = f ∧ mkT f t = 10000 ∧ mkOk f t = true by
            have h' := isSp_true.1 h
            have e : max f 0 ≤ min t 10000 := by rw [← HX.out, ← HY.out]; exact h'.2.1
            rw [mkF, mkT, mkOk, decide_eq_true e]
            simp
            omega)
          go_enter Try.func51, Try.ntmps51
          go_wp2_with (go_at_call 42; refine (implIsSpan_any _ _ _).mono ?_; rintro e w' ⟨rfl, hb⟩; have hs := hb.size; obtain ⟨hc, hf⟩ := bcell hb; (try simp only [World.size_drew, World.heap_drewN] at hc hf); (try simp at hs); (try (have hz : w.heap.size < w'.heap.size := by omega)); (try (have hz : w.heap.size + 1 < w'.heap.size := by omega)); (try (have hz : w.heap.size + 1 + 1 < w'.heap.size := by omega)); (try (have hz : w.heap.size + 1 + 1 + 1 < w'.heap.size := by omega)); (try (have hz : w.heap.size + 1 + 1 + 1 + 1 < w'.heap.size := by omega)))
          exact bodyPost_ret (v := .tuple #[spV f 10000, .bool true]) (by simp [results, Try.results51, go_sem, *]) rfl ⟨ret_sp ⟨hfin.out.1.symm, hfin.out.2.1.symm, hfin.out.2.2.symm⟩, by repeat (first | exact Below.refl _ _ | assumption | refine Below.next_ ?_ ?_ (by assumption) | refine Below.drew ?_ | refine below_drewN ?_ _ | refine Below.alloc ?_ ?_ _ | refine Below.setCell ?_ ?_ _ | omega | (simp <;> omega) | (simp at * <;> omega))⟩
        · have h1 : isSp f 10000 = false := by simpa using h
          have hfin := hide (show mkF f t = 0 ∧ mkT f t = 0 ∧ mkOk f t = false by
            have h' := isSp_false.1 h1
            have e : ¬ max f 0 ≤ min t 10000 := by omega
            simp [mkF, mkT, mkOk, e])
          clear h
          go_enter Try.func51, Try.ntmps51
          go_wp2_with (go_at_call 42; refine (implIsSpan_any _ _ _).mono ?_; rintro e w' ⟨rfl, hb⟩; have hs := hb.size; obtain ⟨hc, hf⟩ := bcell hb; (try simp only [World.size_drew, World.heap_drewN] at hc hf); (try simp at hs); (try (have hz : w.heap.size < w'.heap.size := by omega)); (try (have hz : w.heap.size + 1 < w'.heap.size := by omega)); (try (have hz : w.heap.size + 1 + 1 < w'.heap.size := by omega)); (try (have hz : w.heap.size + 1 + 1 + 1 < w'.heap.size := by omega)); (try (have hz : w.heap.size + 1 + 1 + 1 + 1 < w'.heap.size := by omega)))
          exact bodyPost_ret (v := .tuple #[spV 0 0, .bool false]) (by simp [results, Try.results51, go_sem, *]) rfl ⟨ret_sp ⟨hfin.out.1.symm, hfin.out.2.1.symm, hfin.out.2.2.symm⟩, by repeat (first | exact Below.refl _ _ | assumption | refine Below.next_ ?_ ?_ (by assumption) | refine Below.drew ?_ | refine below_drewN ?_ _ | refine Below.alloc ?_ ?_ _ | refine Below.setCell ?_ ?_ _ | omega | (simp <;> omega) | (simp at * <;> omega))⟩
      · have HX : Hid (f = max f 0) := (by omega : f = max f 0)
        have HY : Hid (t = min t 10000) := (by omega : t = min t 10000)
        by_cases h : isSp f t = true
        · have hfin := hide (show mkF f t = f ∧ mkT f t = t ∧ mkOk f t = true by
            have h' := isSp_true.1 h
            have e : max f 0 ≤ min t 10000 := by rw [← HX.out, ← HY.out]; exact h'.2.1
            rw [mkF, mkT, mkOk, decide_eq_true e]
            simp
            omega)
          go_enter Try.func51, Try.ntmps51
          go_wp2_with (go_at_call 42; refine (implIsSpan_any _ _ _).mono ?_; rintro e w' ⟨rfl, hb⟩; have hs := hb.size; obtain ⟨hc, hf⟩ := bcell hb; (try simp only [World.size_drew, World.heap_drewN] at hc hf); (try simp at hs); (try (have hz : w.heap.size < w'.heap.size := by omega)); (try (have hz : w.heap.size + 1 < w'.heap.size := by omega)); (try (have hz : w.heap.size + 1 + 1 < w'.heap.size := by omega)); (try (have hz : w.heap.size + 1 + 1 + 1 < w'.heap.size := by omega)); (try (have hz : w.heap.size + 1 + 1 + 1 + 1 < w'.heap.size := by omega)))
          exact bodyPost_ret (v := .tuple #[spV f t, .bool true]) (by simp [results, Try.results51, go_sem, *]) rfl ⟨ret_sp ⟨hfin.out.1.symm, hfin.out.2.1.symm, hfin.out.2.2.symm⟩, by repeat (first | exact Below.refl _ _ | assumption | refine Below.next_ ?_ ?_ (by assumption) | refine Below.drew ?_ | refine below_drewN ?_ _ | refine Below.alloc ?_ ?_ _ | refine Below.setCell ?_ ?_ _ | omega | (simp <;> omega) | (simp at * <;> omega))⟩
        · have h1 : isSp f t = false := by simpa using h
          have hfin := hide (show mkF f t = 0 ∧ mkT f t = 0 ∧ mkOk f t = false by
            have h' := isSp_false.1 h1
            have e : ¬ max f 0 ≤ min t 10000 := by omega
            simp [mkF, mkT, mkOk, e])
          clear h
          go_enter Try.func51, Try.ntmps51
          go_wp2_with (go_at_call 42; refine (implIsSpan_any _ _ _).mono ?_; rintro e w' ⟨rfl, hb⟩; have hs := hb.size; obtain ⟨hc, hf⟩ := bcell hb; (try simp only [World.size_drew, World.heap_drewN] at hc hf); (try simp at hs); (try (have hz : w.heap.size < w'.heap.size := by omega)); (try (have hz : w.heap.size + 1 < w'.heap.size := by omega)); (try (have hz : w.heap.size + 1 + 1 < w'.heap.size := by omega)); (try (have hz : w.heap.size + 1 + 1 + 1 < w'.heap.size := by omega)); (try (have hz : w.heap.size + 1 + 1 + 1 + 1 < w'.heap.size := by omega)))
          exact bodyPost_ret (v := .tuple #[spV 0 0, .bool false]) (by simp [results, Try.results51, go_sem, *]) rfl ⟨ret_sp ⟨hfin.out.1.symm, hfin.out.2.1.symm, hfin.out.2.2.symm⟩, by repeat (first | exact Below.refl _ _ | assumption | refine Below.next_ ?_ ?_ (by assumption) | refine Below.drew ?_ | refine below_drewN ?_ _ | refine Below.alloc ?_ ?_ _ | refine Below.setCell ?_ ?_ _ | omega | (simp <;> omega) | (simp at * <;> omega))⟩
end Go.Proofs.Ytgeffaohdoeclaa
