/- The program's BestMethod returns what the reference's returns, and changes no argument. For every input. -/
import Derived.Test.YtmlkhgekacjidacArgs
import Derived.Test.YtmlkhgekacjidacArgS
import Derived.Test.YtmlkhgekacjidacMeB
namespace Go.Proofs.Ytmlkhgekacjidac.lawFnExactBestMethod
open Go.ChangeShapes Go.WideShapes Go.ChangeAt Go.RowKit
set_option maxRecDepth 1000000
set_option linter.unusedSimpArgs false
set_option linter.unusedVariables false
theorem own : ownKnob Try.prog.godebug = none := by kernel_rfl
set_option maxHeartbeats 1600000 in
theorem law_any {v0 : Value} {v1 : Value} {W : World} (i0 : InMethods W v0) (i1 : InInt W v1) (w : World) (hWw : w = W) :
    Calls Try.prog 10 #[v0, v1] w fun e w' => e = .returned (.bool true) ∧ Below w.heap.size w w' := by
  subst hWw
  obtain ⟨A0, n0, c0, l0, rfl, hn0, hr0, hI0⟩ := i0
  obtain ⟨x1, rfl, hx1⟩ := i1
  have hx1a := hx1.1
  have hx1b := hx1.2
  by_cases hg0 : n0 ≤ 1048576
  rotate_left
  · have hg0' : (1048576 : Int) < (n0 : Int) := by omega
    go_enter Try.func10, Try.ntmps10
    go_wp2_with fail
    refine (szMethodS_no _ (by omega) (by omega) hn0 hg0').mono ?_
    rintro e w' ⟨rfl, rfl⟩
    go_wp2_with fail
    go_ret
    exact ⟨rfl, by repeat (first | exact Below.refl _ _ | assumption | refine Below.next_ ?_ ?_ (by assumption) | refine Below.drew ?_ | refine below_drewN ?_ _ | refine Below.alloc ?_ ?_ _ | refine Below.setCell ?_ ?_ _ | omega | (simp <;> omega) | (simp at * <;> omega))⟩
  go_enter Try.func10, Try.ntmps10
  go_wp2_with fail
  refine (szMethodS_ok _ (by omega) (by omega) (by omega)).mono ?_
  rintro e w' ⟨rfl, rfl⟩
  go_wp2_with fail
  refine (toMethodS_any (hr0.below (by repeat (first | exact Below.refl _ _ | assumption | refine Below.next_ ?_ ?_ (by assumption) | refine Below.drew ?_ | refine below_drewN ?_ _ | refine Below.alloc ?_ ?_ _ | refine Below.setCell ?_ ?_ _ | omega | (simp <;> omega) | (simp at * <;> omega)))) (by omega)).mono ?_
  rintro e w1 ⟨B1, d1, rfl, ho1, hb_w1⟩; have hs_w1 := hb_w1.size; obtain ⟨hc_w1, hf_w1⟩ := bcell hb_w1; (try simp only [World.size_drew, World.heap_drewN] at hc_w1 hf_w1); (try simp at hs_w1); (try have z_ : w.heap.size ≤ w1.heap.size := (by omega)); (try (have z_ : w.heap.size < w1.heap.size := (by omega); have y_ : ¬ w.heap.size = w1.heap.size := (by omega); have x_ : ¬ w1.heap.size = w.heap.size := (by omega))); (try (have z_ : w.heap.size + 1 < w1.heap.size := (by omega); have y_ : ¬ w.heap.size + 1 = w1.heap.size := (by omega); have x_ : ¬ w1.heap.size = w.heap.size + 1 := (by omega)))
  go_wp2_with fail
  refine (specBestMethod_any ((Rd.of_own ho1).below (by repeat (first | exact Below.refl _ _ | assumption | refine Below.next_ ?_ ?_ (by assumption) | refine Below.drew ?_ | refine below_drewN ?_ _ | refine Below.alloc ?_ ?_ _ | refine Below.setCell ?_ ?_ _ | omega | (simp <;> omega) | (simp at * <;> omega)))) (by omega)).mono ?_
  rintro e w2 ⟨rfl, hb_w2⟩; have hs_w2 := hb_w2.size; obtain ⟨hc_w2, hf_w2⟩ := bcell hb_w2; (try simp only [World.size_drew, World.heap_drewN] at hc_w2 hf_w2); (try simp at hs_w2); (try have z_ : w.heap.size ≤ w2.heap.size := (by omega)); (try (have z_ : w.heap.size < w2.heap.size := (by omega); have y_ : ¬ w.heap.size = w2.heap.size := (by omega); have x_ : ¬ w2.heap.size = w.heap.size := (by omega))); (try (have z_ : w.heap.size + 1 < w2.heap.size := (by omega); have y_ : ¬ w.heap.size + 1 = w2.heap.size := (by omega); have x_ : ¬ w2.heap.size = w.heap.size + 1 := (by omega))); (try have z_ : w1.heap.size ≤ w2.heap.size := (by omega)); (try (have z_ : w1.heap.size < w2.heap.size := (by omega); have y_ : ¬ w1.heap.size = w2.heap.size := (by omega); have x_ : ¬ w2.heap.size = w1.heap.size := (by omega))); (try (have z_ : w1.heap.size + 1 < w2.heap.size := (by omega); have y_ : ¬ w1.heap.size + 1 = w2.heap.size := (by omega); have x_ : ¬ w2.heap.size = w1.heap.size + 1 := (by omega)))
  go_wp2_with fail
  refine (toMethodS_any (hr0.below (by repeat (first | exact Below.refl _ _ | assumption | refine Below.next_ ?_ ?_ (by assumption) | refine Below.drew ?_ | refine below_drewN ?_ _ | refine Below.alloc ?_ ?_ _ | refine Below.setCell ?_ ?_ _ | omega | (simp <;> omega) | (simp at * <;> omega)))) (by omega)).mono ?_
  rintro e w3 ⟨B3, d3, rfl, ho3, hb_w3⟩; have hs_w3 := hb_w3.size; obtain ⟨hc_w3, hf_w3⟩ := bcell hb_w3; (try simp only [World.size_drew, World.heap_drewN] at hc_w3 hf_w3); (try simp at hs_w3); (try have z_ : w.heap.size ≤ w3.heap.size := (by omega)); (try (have z_ : w.heap.size < w3.heap.size := (by omega); have y_ : ¬ w.heap.size = w3.heap.size := (by omega); have x_ : ¬ w3.heap.size = w.heap.size := (by omega))); (try (have z_ : w.heap.size + 1 < w3.heap.size := (by omega); have y_ : ¬ w.heap.size + 1 = w3.heap.size := (by omega); have x_ : ¬ w3.heap.size = w.heap.size + 1 := (by omega))); (try have z_ : w1.heap.size ≤ w3.heap.size := (by omega)); (try (have z_ : w1.heap.size < w3.heap.size := (by omega); have y_ : ¬ w1.heap.size = w3.heap.size := (by omega); have x_ : ¬ w3.heap.size = w1.heap.size := (by omega))); (try (have z_ : w1.heap.size + 1 < w3.heap.size := (by omega); have y_ : ¬ w1.heap.size + 1 = w3.heap.size := (by omega); have x_ : ¬ w3.heap.size = w1.heap.size + 1 := (by omega))); (try have z_ : w2.heap.size ≤ w3.heap.size := (by omega)); (try (have z_ : w2.heap.size < w3.heap.size := (by omega); have y_ : ¬ w2.heap.size = w3.heap.size := (by omega); have x_ : ¬ w3.heap.size = w2.heap.size := (by omega))); (try (have z_ : w2.heap.size + 1 < w3.heap.size := (by omega); have y_ : ¬ w2.heap.size + 1 = w3.heap.size := (by omega); have x_ : ¬ w3.heap.size = w2.heap.size + 1 := (by omega)))
  go_wp2_with fail
  refine (implBestMethod_any ((Rd.of_own ho3).below (by repeat (first | exact Below.refl _ _ | assumption | refine Below.next_ ?_ ?_ (by assumption) | refine Below.drew ?_ | refine below_drewN ?_ _ | refine Below.alloc ?_ ?_ _ | refine Below.setCell ?_ ?_ _ | omega | (simp <;> omega) | (simp at * <;> omega)))) (by omega)).mono ?_
  rintro e w4 ⟨rfl, hb_w4⟩; have hs_w4 := hb_w4.size; obtain ⟨hc_w4, hf_w4⟩ := bcell hb_w4; (try simp only [World.size_drew, World.heap_drewN] at hc_w4 hf_w4); (try simp at hs_w4); (try have z_ : w.heap.size ≤ w4.heap.size := (by omega)); (try (have z_ : w.heap.size < w4.heap.size := (by omega); have y_ : ¬ w.heap.size = w4.heap.size := (by omega); have x_ : ¬ w4.heap.size = w.heap.size := (by omega))); (try (have z_ : w.heap.size + 1 < w4.heap.size := (by omega); have y_ : ¬ w.heap.size + 1 = w4.heap.size := (by omega); have x_ : ¬ w4.heap.size = w.heap.size + 1 := (by omega))); (try have z_ : w1.heap.size ≤ w4.heap.size := (by omega)); (try (have z_ : w1.heap.size < w4.heap.size := (by omega); have y_ : ¬ w1.heap.size = w4.heap.size := (by omega); have x_ : ¬ w4.heap.size = w1.heap.size := (by omega))); (try (have z_ : w1.heap.size + 1 < w4.heap.size := (by omega); have y_ : ¬ w1.heap.size + 1 = w4.heap.size := (by omega); have x_ : ¬ w4.heap.size = w1.heap.size + 1 := (by omega))); (try have z_ : w2.heap.size ≤ w4.heap.size := (by omega)); (try (have z_ : w2.heap.size < w4.heap.size := (by omega); have y_ : ¬ w2.heap.size = w4.heap.size := (by omega); have x_ : ¬ w4.heap.size = w2.heap.size := (by omega))); (try (have z_ : w2.heap.size + 1 < w4.heap.size := (by omega); have y_ : ¬ w2.heap.size + 1 = w4.heap.size := (by omega); have x_ : ¬ w4.heap.size = w2.heap.size + 1 := (by omega))); (try have z_ : w3.heap.size ≤ w4.heap.size := (by omega)); (try (have z_ : w3.heap.size < w4.heap.size := (by omega); have y_ : ¬ w3.heap.size = w4.heap.size := (by omega); have x_ : ¬ w4.heap.size = w3.heap.size := (by omega))); (try (have z_ : w3.heap.size + 1 < w4.heap.size := (by omega); have y_ : ¬ w3.heap.size + 1 = w4.heap.size := (by omega); have x_ : ¬ w4.heap.size = w3.heap.size + 1 := (by omega)))
  go_wp2_with fail
  refine (toMethodS_any (hr0.below (by repeat (first | exact Below.refl _ _ | assumption | refine Below.next_ ?_ ?_ (by assumption) | refine Below.drew ?_ | refine below_drewN ?_ _ | refine Below.alloc ?_ ?_ _ | refine Below.setCell ?_ ?_ _ | omega | (simp <;> omega) | (simp at * <;> omega)))) (by omega)).mono ?_
  rintro e w5 ⟨B5, d5, rfl, ho5, hb_w5⟩; have hs_w5 := hb_w5.size; obtain ⟨hc_w5, hf_w5⟩ := bcell hb_w5; (try simp only [World.size_drew, World.heap_drewN] at hc_w5 hf_w5); (try simp at hs_w5); (try have z_ : w.heap.size ≤ w5.heap.size := (by omega)); (try (have z_ : w.heap.size < w5.heap.size := (by omega); have y_ : ¬ w.heap.size = w5.heap.size := (by omega); have x_ : ¬ w5.heap.size = w.heap.size := (by omega))); (try (have z_ : w.heap.size + 1 < w5.heap.size := (by omega); have y_ : ¬ w.heap.size + 1 = w5.heap.size := (by omega); have x_ : ¬ w5.heap.size = w.heap.size + 1 := (by omega))); (try have z_ : w1.heap.size ≤ w5.heap.size := (by omega)); (try (have z_ : w1.heap.size < w5.heap.size := (by omega); have y_ : ¬ w1.heap.size = w5.heap.size := (by omega); have x_ : ¬ w5.heap.size = w1.heap.size := (by omega))); (try (have z_ : w1.heap.size + 1 < w5.heap.size := (by omega); have y_ : ¬ w1.heap.size + 1 = w5.heap.size := (by omega); have x_ : ¬ w5.heap.size = w1.heap.size + 1 := (by omega))); (try have z_ : w2.heap.size ≤ w5.heap.size := (by omega)); (try (have z_ : w2.heap.size < w5.heap.size := (by omega); have y_ : ¬ w2.heap.size = w5.heap.size := (by omega); have x_ : ¬ w5.heap.size = w2.heap.size := (by omega))); (try (have z_ : w2.heap.size + 1 < w5.heap.size := (by omega); have y_ : ¬ w2.heap.size + 1 = w5.heap.size := (by omega); have x_ : ¬ w5.heap.size = w2.heap.size + 1 := (by omega))); (try have z_ : w3.heap.size ≤ w5.heap.size := (by omega)); (try (have z_ : w3.heap.size < w5.heap.size := (by omega); have y_ : ¬ w3.heap.size = w5.heap.size := (by omega); have x_ : ¬ w5.heap.size = w3.heap.size := (by omega))); (try (have z_ : w3.heap.size + 1 < w5.heap.size := (by omega); have y_ : ¬ w3.heap.size + 1 = w5.heap.size := (by omega); have x_ : ¬ w5.heap.size = w3.heap.size + 1 := (by omega))); (try have z_ : w4.heap.size ≤ w5.heap.size := (by omega)); (try (have z_ : w4.heap.size < w5.heap.size := (by omega); have y_ : ¬ w4.heap.size = w5.heap.size := (by omega); have x_ : ¬ w5.heap.size = w4.heap.size := (by omega))); (try (have z_ : w4.heap.size + 1 < w5.heap.size := (by omega); have y_ : ¬ w4.heap.size + 1 = w5.heap.size := (by omega); have x_ : ¬ w5.heap.size = w4.heap.size + 1 := (by omega)))
  go_wp2_with fail
  refine (eqMethodS_any ((Rd.of_own ho3).below (by repeat (first | exact Below.refl _ _ | assumption | refine Below.next_ ?_ ?_ (by assumption) | refine Below.drew ?_ | refine below_drewN ?_ _ | refine Below.alloc ?_ ?_ _ | refine Below.setCell ?_ ?_ _ | omega | (simp <;> omega) | (simp at * <;> omega)))) ((Rd.of_own ho5).below (by repeat (first | exact Below.refl _ _ | assumption | refine Below.next_ ?_ ?_ (by assumption) | refine Below.drew ?_ | refine below_drewN ?_ _ | refine Below.alloc ?_ ?_ _ | refine Below.setCell ?_ ?_ _ | omega | (simp <;> omega) | (simp at * <;> omega)))) (by omega) (by omega)).mono ?_
  rintro e w6 ⟨rfl, hb_w6⟩; have hs_w6 := hb_w6.size; obtain ⟨hc_w6, hf_w6⟩ := bcell hb_w6; (try simp only [World.size_drew, World.heap_drewN] at hc_w6 hf_w6); (try simp at hs_w6); (try have z_ : w.heap.size ≤ w6.heap.size := (by omega)); (try (have z_ : w.heap.size < w6.heap.size := (by omega); have y_ : ¬ w.heap.size = w6.heap.size := (by omega); have x_ : ¬ w6.heap.size = w.heap.size := (by omega))); (try (have z_ : w.heap.size + 1 < w6.heap.size := (by omega); have y_ : ¬ w.heap.size + 1 = w6.heap.size := (by omega); have x_ : ¬ w6.heap.size = w.heap.size + 1 := (by omega))); (try have z_ : w1.heap.size ≤ w6.heap.size := (by omega)); (try (have z_ : w1.heap.size < w6.heap.size := (by omega); have y_ : ¬ w1.heap.size = w6.heap.size := (by omega); have x_ : ¬ w6.heap.size = w1.heap.size := (by omega))); (try (have z_ : w1.heap.size + 1 < w6.heap.size := (by omega); have y_ : ¬ w1.heap.size + 1 = w6.heap.size := (by omega); have x_ : ¬ w6.heap.size = w1.heap.size + 1 := (by omega))); (try have z_ : w2.heap.size ≤ w6.heap.size := (by omega)); (try (have z_ : w2.heap.size < w6.heap.size := (by omega); have y_ : ¬ w2.heap.size = w6.heap.size := (by omega); have x_ : ¬ w6.heap.size = w2.heap.size := (by omega))); (try (have z_ : w2.heap.size + 1 < w6.heap.size := (by omega); have y_ : ¬ w2.heap.size + 1 = w6.heap.size := (by omega); have x_ : ¬ w6.heap.size = w2.heap.size + 1 := (by omega))); (try have z_ : w3.heap.size ≤ w6.heap.size := (by omega)); (try (have z_ : w3.heap.size < w6.heap.size := (by omega); have y_ : ¬ w3.heap.size = w6.heap.size := (by omega); have x_ : ¬ w6.heap.size = w3.heap.size := (by omega))); (try (have z_ : w3.heap.size + 1 < w6.heap.size := (by omega); have y_ : ¬ w3.heap.size + 1 = w6.heap.size := (by omega); have x_ : ¬ w6.heap.size = w3.heap.size + 1 := (by omega))); (try have z_ : w4.heap.size ≤ w6.heap.size := (by omega)); (try (have z_ : w4.heap.size < w6.heap.size := (by omega); have y_ : ¬ w4.heap.size = w6.heap.size := (by omega); have x_ : ¬ w6.heap.size = w4.heap.size := (by omega))); (try (have z_ : w4.heap.size + 1 < w6.heap.size := (by omega); have y_ : ¬ w4.heap.size + 1 = w6.heap.size := (by omega); have x_ : ¬ w6.heap.size = w4.heap.size + 1 := (by omega))); (try have z_ : w5.heap.size ≤ w6.heap.size := (by omega)); (try (have z_ : w5.heap.size < w6.heap.size := (by omega); have y_ : ¬ w5.heap.size = w6.heap.size := (by omega); have x_ : ¬ w6.heap.size = w5.heap.size := (by omega))); (try (have z_ : w5.heap.size + 1 < w6.heap.size := (by omega); have y_ : ¬ w5.heap.size + 1 = w6.heap.size := (by omega); have x_ : ¬ w6.heap.size = w5.heap.size + 1 := (by omega)))
  go_wp2_with fail
  go_ret
  exact ⟨rfl, by repeat (first | exact Below.refl _ _ | assumption | refine Below.next_ ?_ ?_ (by assumption) | refine Below.drew ?_ | refine below_drewN ?_ _ | refine Below.alloc ?_ ?_ _ | refine Below.setCell ?_ ?_ _ | omega | (simp <;> omega) | (simp at * <;> omega))⟩
theorem lifted (os : Os) (started : os.Started) (H : Type) (enc : TypeId × Value → H) :
    ReturnsInHanded {} Try.checked os 10 .any (Rows.fnExactBestMethodSpec.pre6 enc Try.prog Try.f10 Rows.fnExactBestMethodRow.domain false) (Rows.fnExactBestMethodSpec.post enc Try.prog Try.f10 false true false false) := by
  refine returnsInHanded_of_change (C := Try.checked) own started (by kernel_rfl) Try.func10
    (ChangeSpec.witness6 (enc := enc) (C := Try.checked) false ⟨#[], #[.slice none 0 0, .int .i64 0], []⟩ 8 (by kernel_rfl) (by kernel_rfl) (by kernel_rfl) (by kernel_rfl)) ?_
  intro W base args ds gs before hval0 hW _ _
  have hval : ∀ (j : Nat) t v, Try.f10.params[j]? = some t → args[j]? = some v → Value.okWide Try.prog W .any base t v := hval0
  have hW' := hW
  obtain ⟨p, q, hA0, hV, rfl, _, _⟩ := hW
  have hA : DataW.TrodAll enc Try.prog W 0 (fun _ => true) true Try.f10.params.toList args.toList ds p := hA0
  have hlt : ∀ x ∈ p, x.block < W.heap.size := fun x hx => hW'.lt x (by simp [hx])
  have hkeep : ∀ W' : World, Below W.heap.size W W' → ∀ sp : Nat → Bool, (∀ x ∈ p ++ q, sp x.block = true) → DataW.TrodAll enc Try.prog W' 0 sp true Try.f10.params.toList args.toList ds p :=
    fun W' hb sp hsp => trodAll_stays laid hb _ _ _ _ (by kernel_rfl) hlt (fun x hx => hsp x (by simp [hx])) hA
  rw [Try.params10] at hA hval
  obtain ⟨v0, vs0, d0, ds0, p0, q0, hargs, rfl, rfl, h0, r0⟩ := trodAll_cons hA
  obtain ⟨v1, vs1, d1, ds1, p1, q1, rfl, rfl, rfl, h1, r1⟩ := trodAll_cons r0
  obtain ⟨rfl, rfl, rfl⟩ := trodAll_nil r1
  obtain rfl : args = #[v0, v1] := by cases args; simp_all
  obtain ⟨rfl, rfl⟩ := trodVars_none hV
  have i0 : InMethods W v0 := InMethods.of (hval 0 40 v0 rfl rfl) h0
  have i1 : InInt W v1 := InInt.of (hval 1 3 v1 rfl rfl) h1
  refine (law_any i0 i1 W rfl).mono fun e W' ⟨he, hb⟩ => ?_
  subst he
  exact ⟨_, rfl, post_of_below (pv := []) hW' (fun _ _ _ => (trodAll_cons_mk (shut_bool Try.underlying4 _) trodAll_mk0)) (hkeep W' hb) (fun _ _ => rfl) rfl
    hb (ok_one (by kernel_rfl) rfl (okWide_bool_mk Try.underlying4 _))⟩

theorem over : Rows.fnExactBestMethodRow.holds Try.pinned (OpenSpec.ofChange Rows.fnExactBestMethodSpec) :=
  OpenClaim.holds_of_wide 10 Try.f10 rfl rfl rfl rfl rfl rfl rfl ⟨rfl, rfl, rfl, rfl, rfl⟩ rfl rfl rfl rfl rfl (by kernel_rfl) Try.func10 (by kernel_rfl)
    (of_decide_eq_true (by kernel_rfl)) (by unfold Func.isWrapper; first | (rw [if_pos (by decide +kernel)]; kernel_rfl) | (rw [if_neg (by decide +kernel)]; exact ⟨rfl, rfl⟩))
    (fun os started H enc _ => lifted os started H enc)

theorem proved : Rows.FnExactBestMethodSaid :=
  over
#print axioms proved
end Go.Proofs.Ytmlkhgekacjidac.lawFnExactBestMethod
