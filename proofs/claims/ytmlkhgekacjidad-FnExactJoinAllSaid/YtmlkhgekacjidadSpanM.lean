/- Contracts of MakeSpan, of the program and of the reference. No condition. -/
import Derived.Test.YtmlkhgekacjidadSpan
namespace Go.Proofs.Ytmlkhgekacjidad
open Go.RowKit Go.WideShapes Go.ChangeShapes Go.Deep
set_option linter.unusedSimpArgs false
set_option linter.unusedVariables false

theorem specMakeSpan_any (f t : Int) (w : World) :
    Calls Try.prog 101 #[.int .i64 f, .int .i64 t] w fun e w' => e = .returned (.tuple #[spV (mkF f t) (mkT f t), .bool (mkOk f t)]) ∧ Below w.heap.size w w' := by
  by_cases h : max f 0 ≤ min t 10000
  · have h' : max 0 f ≤ min 10000 t := by omega
    have hfin := hide (show mkF f t = max 0 f ∧ mkT f t = min 10000 t ∧ mkOk f t = true by simp [mkF, mkT, mkOk, h]; omega)
    clear h
    go_enter Try.func101, Try.ntmps101
    go_wp2_with (first | (go_at_call 102; refine (specMax_any _ _ _).mono ?_; rintro e w' ⟨rfl, rfl⟩) | (go_at_call 103; refine (specMin_any _ _ _).mono ?_; rintro e w' ⟨rfl, rfl⟩))
    exact bodyPost_ret (v := .tuple #[spV (max 0 f) (min 10000 t), .bool true]) (by simp [results, Try.results101, go_sem, *]) rfl ⟨ret_sp ⟨hfin.out.1.symm, hfin.out.2.1.symm, hfin.out.2.2.symm⟩, by repeat (first | exact Below.refl _ _ | assumption | refine Below.next_ ?_ ?_ (by assumption) | refine Below.drew ?_ | refine below_drewN ?_ _ | refine Below.alloc ?_ ?_ _ | refine Below.setCell ?_ ?_ _ | omega | (simp <;> omega) | (simp at * <;> omega))⟩
  · have h' : min 10000 t < max 0 f := by omega
    have hfin := hide (show mkF f t = 0 ∧ mkT f t = 0 ∧ mkOk f t = false by simp [mkF, mkT, mkOk, h])
    clear h
    go_enter Try.func101, Try.ntmps101
    go_wp2_with (first | (go_at_call 102; refine (specMax_any _ _ _).mono ?_; rintro e w' ⟨rfl, rfl⟩) | (go_at_call 103; refine (specMin_any _ _ _).mono ?_; rintro e w' ⟨rfl, rfl⟩))
    exact bodyPost_ret (v := .tuple #[spV 0 0, .bool false]) (by simp [results, Try.results101, go_sem, *]) rfl ⟨ret_sp ⟨hfin.out.1.symm, hfin.out.2.1.symm, hfin.out.2.2.symm⟩, by repeat (first | exact Below.refl _ _ | assumption | refine Below.next_ ?_ ?_ (by assumption) | refine Below.drew ?_ | refine below_drewN ?_ _ | refine Below.alloc ?_ ?_ _ | refine Below.setCell ?_ ?_ _ | omega | (simp <;> omega) | (simp at * <;> omega))⟩
end Go.Proofs.Ytmlkhgekacjidad
