/- The program's MakeSpan returns what the reference's returns. For every input. -/
import Derived.Test.YtmlkhgekacjidabArgs
import Derived.Test.YtmlkhgekacjidabSpanM
namespace Go.Proofs.Ytmlkhgekacjidab.lawFnExactMakeSpan
open Go.ChangeShapes Go.WideShapes Go.ChangeAt Go.RowKit
set_option linter.unusedSimpArgs false
set_option linter.unusedVariables false
theorem own : ownKnob Try.prog.godebug = none := by kernel_rfl
set_option maxHeartbeats 800000 in
theorem law_any {v0 v1 : Value} {W : World} (i0 : InInt W v0) (i1 : InInt W v1) (w : World) :
    Calls Try.prog 6 #[v0, v1] w fun e w' => e = .returned (.bool true) ∧ Below w.heap.size w w' := by
  obtain ⟨a, rfl, _⟩ := i0
  obtain ⟨b, rfl, _⟩ := i1
  have e1 : decide (mkF a b = mkF a b ∧ mkT a b = mkT a b) = true := by simp
  go_enter Try.func6, Try.ntmps6
  go_wp2_with fail
  refine (specMakeSpan_any _ _ _).mono ?_
  rintro e w1 ⟨rfl, hb_w1⟩; have hs_w1 := hb_w1.size; obtain ⟨hc_w1, hf_w1⟩ := bcell hb_w1; (try simp only [World.size_drew, World.heap_drewN] at hc_w1 hf_w1); (try simp at hs_w1); (try have z_ : w.heap.size ≤ w1.heap.size := (by omega)); (try have z_ : w.heap.size < w1.heap.size := (by omega)); (try have z_ : w.heap.size + 1 < w1.heap.size := (by omega)); (try have z_ : w.heap.size + 1 + 1 < w1.heap.size := (by omega)); (try have z_ : w.heap.size + 1 + 1 + 1 < w1.heap.size := (by omega)); (try have z_ : w.heap.size + 1 + 1 + 1 + 1 < w1.heap.size := (by omega))
  go_wp2_with fail
  refine (implMakeSpan_any _ _ _).mono ?_
  rintro e w2 ⟨rfl, hb_w2⟩; have hs_w2 := hb_w2.size; obtain ⟨hc_w2, hf_w2⟩ := bcell hb_w2; (try simp only [World.size_drew, World.heap_drewN] at hc_w2 hf_w2); (try simp at hs_w2); (try have z_ : w.heap.size ≤ w2.heap.size := (by omega)); (try have z_ : w.heap.size < w2.heap.size := (by omega)); (try have z_ : w.heap.size + 1 < w2.heap.size := (by omega)); (try have z_ : w.heap.size + 1 + 1 < w2.heap.size := (by omega)); (try have z_ : w.heap.size + 1 + 1 + 1 < w2.heap.size := (by omega)); (try have z_ : w.heap.size + 1 + 1 + 1 + 1 < w2.heap.size := (by omega)); (try have z_ : w1.heap.size ≤ w2.heap.size := (by omega)); (try have z_ : w1.heap.size < w2.heap.size := (by omega)); (try have z_ : w1.heap.size + 1 < w2.heap.size := (by omega)); (try have z_ : w1.heap.size + 1 + 1 < w2.heap.size := (by omega)); (try have z_ : w1.heap.size + 1 + 1 + 1 < w2.heap.size := (by omega)); (try have z_ : w1.heap.size + 1 + 1 + 1 + 1 < w2.heap.size := (by omega))
  go_wp2_with fail
  refine (eqSpan_any _ _ _ _ _).mono ?_
  rintro e w3 ⟨rfl, hb_w3⟩; have hs_w3 := hb_w3.size; obtain ⟨hc_w3, hf_w3⟩ := bcell hb_w3; (try simp only [World.size_drew, World.heap_drewN] at hc_w3 hf_w3); (try simp at hs_w3); (try have z_ : w.heap.size ≤ w3.heap.size := (by omega)); (try have z_ : w.heap.size < w3.heap.size := (by omega)); (try have z_ : w.heap.size + 1 < w3.heap.size := (by omega)); (try have z_ : w.heap.size + 1 + 1 < w3.heap.size := (by omega)); (try have z_ : w.heap.size + 1 + 1 + 1 < w3.heap.size := (by omega)); (try have z_ : w.heap.size + 1 + 1 + 1 + 1 < w3.heap.size := (by omega)); (try have z_ : w1.heap.size ≤ w3.heap.size := (by omega)); (try have z_ : w1.heap.size < w3.heap.size := (by omega)); (try have z_ : w1.heap.size + 1 < w3.heap.size := (by omega)); (try have z_ : w1.heap.size + 1 + 1 < w3.heap.size := (by omega)); (try have z_ : w1.heap.size + 1 + 1 + 1 < w3.heap.size := (by omega)); (try have z_ : w1.heap.size + 1 + 1 + 1 + 1 < w3.heap.size := (by omega)); (try have z_ : w2.heap.size ≤ w3.heap.size := (by omega)); (try have z_ : w2.heap.size < w3.heap.size := (by omega)); (try have z_ : w2.heap.size + 1 < w3.heap.size := (by omega)); (try have z_ : w2.heap.size + 1 + 1 < w3.heap.size := (by omega)); (try have z_ : w2.heap.size + 1 + 1 + 1 < w3.heap.size := (by omega)); (try have z_ : w2.heap.size + 1 + 1 + 1 + 1 < w3.heap.size := (by omega))
  go_wp2_with fail
  go_ret
  exact ⟨rfl, by repeat (first | exact Below.refl _ _ | assumption | refine Below.next_ ?_ ?_ (by assumption) | refine Below.drew ?_ | refine below_drewN ?_ _ | refine Below.alloc ?_ ?_ _ | refine Below.setCell ?_ ?_ _ | omega | (simp <;> omega) | (simp at * <;> omega))⟩
set_option maxRecDepth 100000 in
theorem lifted (os : Os) (started : os.Started) (H : Type) (enc : TypeId × Value → H) :
    ReturnsInHanded {} Try.checked os 6 .any (Rows.fnExactMakeSpanSpec.pre6 enc Try.prog Try.f6 Rows.fnExactMakeSpanRow.domain false) (Rows.fnExactMakeSpanSpec.post enc Try.prog Try.f6 false true false false) := by
  refine returnsInHanded_of_change (C := Try.checked) own started (by kernel_rfl) Try.func6
    (ChangeSpec.witness6 (enc := enc) (C := Try.checked) false ⟨#[], #[.int .i64 0, .int .i64 0], []⟩ 8 (by kernel_rfl) (by kernel_rfl) (by kernel_rfl) (by kernel_rfl)) ?_
  intro W base args ds gs before hval0 hW _ _
  have hval : ∀ (j : Nat) t v, Try.f6.params[j]? = some t → args[j]? = some v → Value.okWide Try.prog W .any base t v := hval0
  have hW' := hW
  obtain ⟨p, q, hA0, hV, rfl, _, _⟩ := hW
  have hA : DataW.TrodAll enc Try.prog W 0 (fun _ => true) true Try.f6.params.toList args.toList ds p := hA0
  have hlt : ∀ x ∈ p, x.block < W.heap.size := fun x hx => hW'.lt x (by simp [hx])
  have hkeep : ∀ W' : World, Below W.heap.size W W' → ∀ sp : Nat → Bool, (∀ x ∈ p ++ q, sp x.block = true) → DataW.TrodAll enc Try.prog W' 0 sp true Try.f6.params.toList args.toList ds p :=
    fun W' hb sp hsp => trodAll_stays laid hb _ _ _ _ (by kernel_rfl) hlt (fun x hx => hsp x (by simp [hx])) hA
  rw [Try.params6] at hA hval
  obtain ⟨v0, vs0, d0, ds0, p0, q0, hargs, rfl, rfl, h0, r0⟩ := trodAll_cons hA
  obtain ⟨v1, vs1, d1, ds1, p1, q1, rfl, rfl, rfl, h1, r1⟩ := trodAll_cons r0
  obtain ⟨rfl, rfl, rfl⟩ := trodAll_nil r1
  obtain rfl : args = #[v0, v1] := by cases args; simp_all
  obtain ⟨rfl, rfl⟩ := trodVars_none hV
  have i0 : InInt W v0 := InInt.of (hval 0 3 v0 rfl rfl) h0
  have i1 : InInt W v1 := InInt.of (hval 1 3 v1 rfl rfl) h1
  refine (law_any i0 i1 W).mono fun e W' ⟨he, hb⟩ => ?_
  subst he
  exact ⟨_, rfl, post_of_below (pv := []) hW' (fun _ _ _ => (trodAll_cons_mk (shut_bool Try.underlying4 _) trodAll_mk0)) (hkeep W' hb) (fun _ _ => rfl) rfl
    hb (ok_one (by kernel_rfl) rfl (okWide_bool_mk Try.underlying4 _))⟩

theorem over : Rows.fnExactMakeSpanRow.holds Try.pinned (OpenSpec.ofChange Rows.fnExactMakeSpanSpec) :=
  OpenClaim.holds_of_wide 6 Try.f6 rfl rfl rfl rfl rfl rfl rfl ⟨rfl, rfl, rfl, rfl, rfl⟩ rfl rfl rfl rfl rfl (by kernel_rfl) Try.func6 (by kernel_rfl)
    (of_decide_eq_true (by kernel_rfl)) (by unfold Func.isWrapper; first | (rw [if_pos (by decide +kernel)]; kernel_rfl) | (rw [if_neg (by decide +kernel)]; exact ⟨rfl, rfl⟩))
    (fun os started H enc _ => lifted os started H enc)

theorem proved : Rows.FnExactMakeSpanSaid :=
  over
#print axioms proved
end Go.Proofs.Ytmlkhgekacjidab.lawFnExactMakeSpan
