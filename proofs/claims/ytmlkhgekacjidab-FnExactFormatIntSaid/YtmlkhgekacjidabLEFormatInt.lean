/- The program's FormatInt returns what the reference's returns. For every input. -/
import Derived.Test.YtmlkhgekacjidabArgs
import Derived.Test.YtmlkhgekacjidabFmt
namespace Go.Proofs.Ytmlkhgekacjidab.lawFnExactFormatInt
open Go.ChangeShapes Go.WideShapes Go.ChangeAt Go.RowKit
set_option maxRecDepth 1000000
set_option linter.unusedSimpArgs false
set_option linter.unusedVariables false
theorem own : ownKnob Try.prog.godebug = none := by kernel_rfl
set_option maxHeartbeats 1600000 in
theorem law_any {v0 : Value} {W : World} (i0 : InInt W v0) (w : World) (hWw : w = W) :
    Calls Try.prog 4 #[v0] w fun e w' => e = .returned (.bool true) ∧ Below w.heap.size w w' := by
  subst hWw
  obtain ⟨x0, rfl, hx0⟩ := i0
  have hx0a := hx0.1
  have hx0b := hx0.2
  go_enter Try.func4, Try.ntmps4
  go_wp2_with fail
  refine (specFormatInt_any _ _ hx0).mono ?_
  rintro e w1 ⟨rfl, hb_w1⟩; have hs_w1 := hb_w1.size; obtain ⟨hc_w1, hf_w1⟩ := bcell hb_w1; (try simp only [World.size_drew, World.heap_drewN] at hc_w1 hf_w1); (try simp at hs_w1); (try have z_ : w.heap.size ≤ w1.heap.size := (by omega)); (try (have z_ : w.heap.size < w1.heap.size := (by omega); have y_ : ¬ w.heap.size = w1.heap.size := (by omega); have x_ : ¬ w1.heap.size = w.heap.size := (by omega))); (try (have z_ : w.heap.size + 1 < w1.heap.size := (by omega); have y_ : ¬ w.heap.size + 1 = w1.heap.size := (by omega); have x_ : ¬ w1.heap.size = w.heap.size + 1 := (by omega)))
  go_wp2_with fail
  refine (implFormatInt_any _ _ hx0).mono ?_
  rintro e w2 ⟨rfl, hb_w2⟩; have hs_w2 := hb_w2.size; obtain ⟨hc_w2, hf_w2⟩ := bcell hb_w2; (try simp only [World.size_drew, World.heap_drewN] at hc_w2 hf_w2); (try simp at hs_w2); (try have z_ : w.heap.size ≤ w2.heap.size := (by omega)); (try (have z_ : w.heap.size < w2.heap.size := (by omega); have y_ : ¬ w.heap.size = w2.heap.size := (by omega); have x_ : ¬ w2.heap.size = w.heap.size := (by omega))); (try (have z_ : w.heap.size + 1 < w2.heap.size := (by omega); have y_ : ¬ w.heap.size + 1 = w2.heap.size := (by omega); have x_ : ¬ w2.heap.size = w.heap.size + 1 := (by omega))); (try have z_ : w1.heap.size ≤ w2.heap.size := (by omega)); (try (have z_ : w1.heap.size < w2.heap.size := (by omega); have y_ : ¬ w1.heap.size = w2.heap.size := (by omega); have x_ : ¬ w2.heap.size = w1.heap.size := (by omega))); (try (have z_ : w1.heap.size + 1 < w2.heap.size := (by omega); have y_ : ¬ w1.heap.size + 1 = w2.heap.size := (by omega); have x_ : ¬ w2.heap.size = w1.heap.size + 1 := (by omega)))
  go_wp2_with fail
  go_ret
  exact ⟨rfl, by repeat (first | exact Below.refl _ _ | assumption | refine Below.next_ ?_ ?_ (by assumption) | refine Below.drew ?_ | refine below_drewN ?_ _ | refine Below.alloc ?_ ?_ _ | refine Below.setCell ?_ ?_ _ | omega | (simp <;> omega) | (simp at * <;> omega))⟩
theorem lifted (os : Os) (started : os.Started) (H : Type) (enc : TypeId × Value → H) :
    ReturnsInHanded {} Try.checked os 4 .any (Rows.fnExactFormatIntSpec.pre6 enc Try.prog Try.f4 Rows.fnExactFormatIntRow.domain false) (Rows.fnExactFormatIntSpec.post enc Try.prog Try.f4 false true false false) := by
  refine returnsInHanded_of_change (C := Try.checked) own started (by kernel_rfl) Try.func4
    (ChangeSpec.witness6 (enc := enc) (C := Try.checked) false ⟨#[], #[.int .i64 0], []⟩ 8 (by kernel_rfl) (by kernel_rfl) (by kernel_rfl) (by kernel_rfl)) ?_
  intro W base args ds gs before hval0 hW _ _
  have hval : ∀ (j : Nat) t v, Try.f4.params[j]? = some t → args[j]? = some v → Value.okWide Try.prog W .any base t v := hval0
  have hW' := hW
  obtain ⟨p, q, hA0, hV, rfl, _, _⟩ := hW
  have hA : DataW.TrodAll enc Try.prog W 0 (fun _ => true) true Try.f4.params.toList args.toList ds p := hA0
  have hlt : ∀ x ∈ p, x.block < W.heap.size := fun x hx => hW'.lt x (by simp [hx])
  have hkeep : ∀ W' : World, Below W.heap.size W W' → ∀ sp : Nat → Bool, (∀ x ∈ p ++ q, sp x.block = true) → DataW.TrodAll enc Try.prog W' 0 sp true Try.f4.params.toList args.toList ds p :=
    fun W' hb sp hsp => trodAll_stays laid hb _ _ _ _ (by kernel_rfl) hlt (fun x hx => hsp x (by simp [hx])) hA
  rw [Try.params4] at hA hval
  obtain ⟨v0, vs0, d0, ds0, p0, q0, hargs, rfl, rfl, h0, r0⟩ := trodAll_cons hA
  obtain ⟨rfl, rfl, rfl⟩ := trodAll_nil r0
  obtain rfl : args = #[v0] := by cases args; simp_all
  obtain ⟨rfl, rfl⟩ := trodVars_none hV
  have i0 : InInt W v0 := InInt.of (hval 0 3 v0 rfl rfl) h0
  refine (law_any i0 W rfl).mono fun e W' ⟨he, hb⟩ => ?_
  subst he
  exact ⟨_, rfl, post_of_below (pv := []) hW' (fun _ _ _ => (trodAll_cons_mk (shut_bool Try.underlying4 _) trodAll_mk0)) (hkeep W' hb) (fun _ _ => rfl) rfl
    hb (ok_one (by kernel_rfl) rfl (okWide_bool_mk Try.underlying4 _))⟩

theorem over : Rows.fnExactFormatIntRow.holds Try.pinned (OpenSpec.ofChange Rows.fnExactFormatIntSpec) :=
  OpenClaim.holds_of_wide 4 Try.f4 rfl rfl rfl rfl rfl rfl rfl ⟨rfl, rfl, rfl, rfl, rfl⟩ rfl rfl rfl rfl rfl (by kernel_rfl) Try.func4 (by kernel_rfl)
    (of_decide_eq_true (by kernel_rfl)) (by unfold Func.isWrapper; first | (rw [if_pos (by decide +kernel)]; kernel_rfl) | (rw [if_neg (by decide +kernel)]; exact ⟨rfl, rfl⟩))
    (fun os started H enc _ => lifted os started H enc)

theorem proved : Rows.FnExactFormatIntSaid :=
  over
#print axioms proved
end Go.Proofs.Ytmlkhgekacjidab.lawFnExactFormatInt
