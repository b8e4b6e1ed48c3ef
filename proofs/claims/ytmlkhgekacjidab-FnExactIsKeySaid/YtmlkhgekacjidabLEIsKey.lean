/- The program's IsKey returns what the reference's returns. For every input. -/
import Derived.Test.YtmlkhgekacjidabArgs
import Derived.Test.YtmlkhgekacjidabKey
namespace Go.Proofs.Ytmlkhgekacjidab.lawFnExactIsKey
open Go.ChangeShapes Go.WideShapes Go.ChangeAt Go.RowKit
set_option linter.unusedSimpArgs false
set_option linter.unusedVariables false
theorem own : ownKnob Try.prog.godebug = none := by kernel_rfl
set_option maxHeartbeats 800000 in
theorem law_any {v0 : Value} {W : World} (i0 : InKey W v0) (w : World) :
    Calls Try.prog 3 #[v0] w fun e w' => e = .returned (.bool true) ∧ Below w.heap.size w w' := by
  obtain ⟨a, b, c, d, s, rfl, _⟩ := i0
  go_enter Try.func3, Try.ntmps3
  go_wp2_with (first | (go_at_call 16; refine (toKey_any _ _ _ _ _  _).mono ?_; rintro e w' ⟨rfl, hb⟩; have hs := hb.size; obtain ⟨hc, hf⟩ := bcell hb; (try simp only [World.size_drew, World.heap_drewN] at hc hf); (try simp at hs); (try (have hz : w.heap.size < w'.heap.size := by omega)); (try (have hz : w.heap.size + 1 < w'.heap.size := by omega)); (try (have hz : w.heap.size + 1 + 1 < w'.heap.size := by omega)); (try (have hz : w.heap.size + 1 + 1 + 1 < w'.heap.size := by omega)); (try (have hz : w.heap.size + 1 + 1 + 1 + 1 < w'.heap.size := by omega))) | (go_at_call 15; refine (specIsKey_any _ _ _ _ _  _).mono ?_; rintro e w' ⟨rfl, hb⟩; have hs := hb.size; obtain ⟨hc, hf⟩ := bcell hb; (try simp only [World.size_drew, World.heap_drewN] at hc hf); (try simp at hs); (try (have hz : w.heap.size < w'.heap.size := by omega)); (try (have hz : w.heap.size + 1 < w'.heap.size := by omega)); (try (have hz : w.heap.size + 1 + 1 < w'.heap.size := by omega)); (try (have hz : w.heap.size + 1 + 1 + 1 < w'.heap.size := by omega)); (try (have hz : w.heap.size + 1 + 1 + 1 + 1 < w'.heap.size := by omega))) | (go_at_call 17; refine (implIsKey_any _ _ _ _ _  _).mono ?_; rintro e w' ⟨rfl, hb⟩; have hs := hb.size; obtain ⟨hc, hf⟩ := bcell hb; (try simp only [World.size_drew, World.heap_drewN] at hc hf); (try simp at hs); (try (have hz : w.heap.size < w'.heap.size := by omega)); (try (have hz : w.heap.size + 1 < w'.heap.size := by omega)); (try (have hz : w.heap.size + 1 + 1 < w'.heap.size := by omega)); (try (have hz : w.heap.size + 1 + 1 + 1 < w'.heap.size := by omega)); (try (have hz : w.heap.size + 1 + 1 + 1 + 1 < w'.heap.size := by omega))))
  go_ret
  exact ⟨rfl, by repeat (first | exact Below.refl _ _ | assumption | refine Below.next_ ?_ ?_ (by assumption) | refine Below.drew ?_ | refine below_drewN ?_ _ | refine Below.alloc ?_ ?_ _ | refine Below.setCell ?_ ?_ _ | omega | (simp <;> omega) | (simp at * <;> omega))⟩
set_option maxRecDepth 100000 in
theorem lifted (os : Os) (started : os.Started) (H : Type) (enc : TypeId × Value → H) :
    ReturnsInHanded {} Try.checked os 3 .any (Rows.fnExactIsKeySpec.pre6 enc Try.prog Try.f3 Rows.fnExactIsKeyRow.domain false) (Rows.fnExactIsKeySpec.post enc Try.prog Try.f3 false true false false) := by
  refine returnsInHanded_of_change (C := Try.checked) own started (by kernel_rfl) Try.func3
    (ChangeSpec.witness6 (enc := enc) (C := Try.checked) false ⟨#[], #[.agg #[.int .i64 0, .int .i64 0, .int .i64 0, .int .i64 0, .int .i64 0]], []⟩ 8 (by kernel_rfl) (by kernel_rfl) (by kernel_rfl) (by kernel_rfl)) ?_
  intro W base args ds gs before hval0 hW _ _
  have hval : ∀ (j : Nat) t v, Try.f3.params[j]? = some t → args[j]? = some v → Value.okWide Try.prog W .any base t v := hval0
  have hW' := hW
  obtain ⟨p, q, hA0, hV, rfl, _, _⟩ := hW
  have hA : DataW.TrodAll enc Try.prog W 0 (fun _ => true) true Try.f3.params.toList args.toList ds p := hA0
  have hlt : ∀ x ∈ p, x.block < W.heap.size := fun x hx => hW'.lt x (by simp [hx])
  have hkeep : ∀ W' : World, Below W.heap.size W W' → ∀ sp : Nat → Bool, (∀ x ∈ p ++ q, sp x.block = true) → DataW.TrodAll enc Try.prog W' 0 sp true Try.f3.params.toList args.toList ds p :=
    fun W' hb sp hsp => trodAll_stays laid hb _ _ _ _ (by kernel_rfl) hlt (fun x hx => hsp x (by simp [hx])) hA
  rw [Try.params3] at hA hval
  obtain ⟨v0, vs0, d0, ds0, p0, q0, hargs, rfl, rfl, h0, r0⟩ := trodAll_cons hA
  obtain ⟨rfl, rfl, rfl⟩ := trodAll_nil r0
  obtain rfl : args = #[v0] := by cases args; simp_all
  obtain ⟨rfl, rfl⟩ := trodVars_none hV
  have i0 : InKey W v0 := InKey.of (hval 0 23 v0 rfl rfl) h0
  refine (law_any i0 W).mono fun e W' ⟨he, hb⟩ => ?_
  subst he
  exact ⟨_, rfl, post_of_below (pv := []) hW' (fun _ _ _ => (trodAll_cons_mk (shut_bool Try.underlying4 _) trodAll_mk0)) (hkeep W' hb) (fun _ _ => rfl) rfl
    hb (ok_one (by kernel_rfl) rfl (okWide_bool_mk Try.underlying4 _))⟩

theorem over : Rows.fnExactIsKeyRow.holds Try.pinned (OpenSpec.ofChange Rows.fnExactIsKeySpec) :=
  OpenClaim.holds_of_wide 3 Try.f3 rfl rfl rfl rfl rfl rfl rfl ⟨rfl, rfl, rfl, rfl, rfl⟩ rfl rfl rfl rfl rfl (by kernel_rfl) Try.func3 (by kernel_rfl)
    (of_decide_eq_true (by kernel_rfl)) (by unfold Func.isWrapper; first | (rw [if_pos (by decide +kernel)]; kernel_rfl) | (rw [if_neg (by decide +kernel)]; exact ⟨rfl, rfl⟩))
    (fun os started H enc _ => lifted os started H enc)

theorem proved : Rows.FnExactIsKeySaid :=
  over
#print axioms proved
end Go.Proofs.Ytmlkhgekacjidab.lawFnExactIsKey
