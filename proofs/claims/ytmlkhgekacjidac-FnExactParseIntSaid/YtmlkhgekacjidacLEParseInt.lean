/- The program's ParseInt returns what the reference's returns. For every input. -/
import Derived.Test.YtmlkhgekacjidacArgs
import Derived.Test.YtmlkhgekacjidacParse
namespace Go.Proofs.Ytmlkhgekacjidac.lawFnExactParseInt
open Go.ChangeShapes Go.WideShapes Go.ChangeAt Go.RowKit
set_option maxRecDepth 1000000
set_option linter.unusedSimpArgs false
set_option linter.unusedVariables false
theorem own : ownKnob Try.prog.godebug = none := by kernel_rfl
set_option maxHeartbeats 1600000 in
theorem law_any {v0 : Value} {W : World} (i0 : InString W v0) (w : World) (hWw : w = W) :
    Calls Try.prog 9 #[v0] w fun e w' => e = .returned (.bool true) ∧ Below w.heap.size w w' := by
  subst hWw
  obtain ⟨s0, rfl, hs0⟩ := i0
  by_cases hg0 : s0.size ≤ 1048576
  rotate_left
  · have hg0' : (1048576 : Int) < (s0.size : Int) := by omega
    go_enter Try.func9, Try.ntmps9
    go_wp2_with fail
    go_ret
    exact ⟨rfl, by repeat (first | exact Below.refl _ _ | assumption | refine Below.next_ ?_ ?_ (by assumption) | refine Below.drew ?_ | refine below_drewN ?_ _ | refine Below.alloc ?_ ?_ _ | refine Below.setCell ?_ ?_ _ | omega | (simp <;> omega) | (simp at * <;> omega))⟩
  go_enter Try.func9, Try.ntmps9
  go_wp2_with fail
  refine (specParseInt_any _ (by omega)).mono ?_
  rintro e w1 ⟨rfl, hb_w1⟩; have hs_w1 := hb_w1.size; obtain ⟨hc_w1, hf_w1⟩ := bcell hb_w1; (try simp only [World.size_drew, World.heap_drewN] at hc_w1 hf_w1); (try simp at hs_w1); (try have z_ : w.heap.size ≤ w1.heap.size := (by omega)); (try (have z_ : w.heap.size < w1.heap.size := (by omega); have y_ : ¬ w.heap.size = w1.heap.size := (by omega); have x_ : ¬ w1.heap.size = w.heap.size := (by omega))); (try (have z_ : w.heap.size + 1 < w1.heap.size := (by omega); have y_ : ¬ w.heap.size + 1 = w1.heap.size := (by omega); have x_ : ¬ w1.heap.size = w.heap.size + 1 := (by omega)))
  unfold prsV
  go_wp2_with fail
  refine (implParseInt_any _ (by omega)).mono ?_
  rintro e w2 ⟨rfl, hb_w2⟩; have hs_w2 := hb_w2.size; obtain ⟨hc_w2, hf_w2⟩ := bcell hb_w2; (try simp only [World.size_drew, World.heap_drewN] at hc_w2 hf_w2); (try simp at hs_w2); (try have z_ : w.heap.size ≤ w2.heap.size := (by omega)); (try (have z_ : w.heap.size < w2.heap.size := (by omega); have y_ : ¬ w.heap.size = w2.heap.size := (by omega); have x_ : ¬ w2.heap.size = w.heap.size := (by omega))); (try (have z_ : w.heap.size + 1 < w2.heap.size := (by omega); have y_ : ¬ w.heap.size + 1 = w2.heap.size := (by omega); have x_ : ¬ w2.heap.size = w.heap.size + 1 := (by omega))); (try have z_ : w1.heap.size ≤ w2.heap.size := (by omega)); (try (have z_ : w1.heap.size < w2.heap.size := (by omega); have y_ : ¬ w1.heap.size = w2.heap.size := (by omega); have x_ : ¬ w2.heap.size = w1.heap.size := (by omega))); (try (have z_ : w1.heap.size + 1 < w2.heap.size := (by omega); have y_ : ¬ w1.heap.size + 1 = w2.heap.size := (by omega); have x_ : ¬ w2.heap.size = w1.heap.size + 1 := (by omega)))
  unfold prsV
  go_wp2_with fail
  go_ret
  exact ⟨rfl, by repeat (first | exact Below.refl _ _ | assumption | refine Below.next_ ?_ ?_ (by assumption) | refine Below.drew ?_ | refine below_drewN ?_ _ | refine Below.alloc ?_ ?_ _ | refine Below.setCell ?_ ?_ _ | omega | (simp <;> omega) | (simp at * <;> omega))⟩
theorem lifted (os : Os) (started : os.Started) (H : Type) (enc : TypeId × Value → H) :
    ReturnsInHanded {} Try.checked os 9 .any (Rows.fnExactParseIntSpec.pre6 enc Try.prog Try.f9 Rows.fnExactParseIntRow.domain false) (Rows.fnExactParseIntSpec.post enc Try.prog Try.f9 false true false false) := by
  refine returnsInHanded_of_change (C := Try.checked) own started (by kernel_rfl) Try.func9
    (ChangeSpec.witness6 (enc := enc) (C := Try.checked) false ⟨#[], #[.string ByteArray.empty], []⟩ 8 (by kernel_rfl) (by kernel_rfl) (by kernel_rfl) (by kernel_rfl)) ?_
  intro W base args ds gs before hval0 hW _ _
  have hval : ∀ (j : Nat) t v, Try.f9.params[j]? = some t → args[j]? = some v → Value.okWide Try.prog W .any base t v := hval0
  have hW' := hW
  obtain ⟨p, q, hA0, hV, rfl, _, _⟩ := hW
  have hA : DataW.TrodAll enc Try.prog W 0 (fun _ => true) true Try.f9.params.toList args.toList ds p := hA0
  have hlt : ∀ x ∈ p, x.block < W.heap.size := fun x hx => hW'.lt x (by simp [hx])
  have hkeep : ∀ W' : World, Below W.heap.size W W' → ∀ sp : Nat → Bool, (∀ x ∈ p ++ q, sp x.block = true) → DataW.TrodAll enc Try.prog W' 0 sp true Try.f9.params.toList args.toList ds p :=
    fun W' hb sp hsp => trodAll_stays laid hb _ _ _ _ (by kernel_rfl) hlt (fun x hx => hsp x (by simp [hx])) hA
  rw [Try.params9] at hA hval
  obtain ⟨v0, vs0, d0, ds0, p0, q0, hargs, rfl, rfl, h0, r0⟩ := trodAll_cons hA
  obtain ⟨rfl, rfl, rfl⟩ := trodAll_nil r0
  obtain rfl : args = #[v0] := by cases args; simp_all
  obtain ⟨rfl, rfl⟩ := trodVars_none hV
  have i0 : InString W v0 := InString.of (hval 0 9 v0 rfl rfl) h0
  refine (law_any i0 W rfl).mono fun e W' ⟨he, hb⟩ => ?_
  subst he
  exact ⟨_, rfl, post_of_below (pv := []) hW' (fun _ _ _ => (trodAll_cons_mk (shut_bool Try.underlying4 _) trodAll_mk0)) (hkeep W' hb) (fun _ _ => rfl) rfl
    hb (ok_one (by kernel_rfl) rfl (okWide_bool_mk Try.underlying4 _))⟩

theorem over : Rows.fnExactParseIntRow.holds Try.pinned (OpenSpec.ofChange Rows.fnExactParseIntSpec) :=
  OpenClaim.holds_of_wide 9 Try.f9 rfl rfl rfl rfl rfl rfl rfl ⟨rfl, rfl, rfl, rfl, rfl⟩ rfl rfl rfl rfl rfl (by kernel_rfl) Try.func9 (by kernel_rfl)
    (of_decide_eq_true (by kernel_rfl)) (by unfold Func.isWrapper; first | (rw [if_pos (by decide +kernel)]; kernel_rfl) | (rw [if_neg (by decide +kernel)]; exact ⟨rfl, rfl⟩))
    (fun os started H enc _ => lifted os started H enc)

theorem proved : Rows.FnExactParseIntSaid :=
  over
#print axioms proved
end Go.Proofs.Ytmlkhgekacjidac.lawFnExactParseInt
