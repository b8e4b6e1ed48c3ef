/- Decryption inverts encryption, and encryption inverts decryption. For every input. -/
import Derived.Test.YtmlkhgekacjidadArgs
import Derived.Test.YtmlkhgekacjidadDr3
import Derived.Test.YtmlkhgekacjidadCip
import Derived.Test.YtmlkhgekacjidadEqI
namespace Go.Proofs.Ytmlkhgekacjidad.lawFnCipher
open Go.ChangeShapes Go.WideShapes Go.ChangeAt Go.RowKit
set_option maxRecDepth 1000000
set_option linter.unusedSimpArgs false
set_option linter.unusedVariables false
theorem own : ownKnob Try.prog.godebug = none := by kernel_rfl
theorem encV_inv {k x : Int} {i : Nat} {a b : Int} (h0 : 0 ≤ x) (h1 : x ≤ 255) (hab : (a = 1 ∧ b = -1) ∨ (a = -1 ∧ b = 1)) : encV k b i (encV k a i x) = x := by
  unfold encV
  generalize keyedF k [(i : Int)] = K
  rcases hab with ⟨rfl, rfl⟩ | ⟨rfl, rfl⟩ <;> omega
theorem ciph_inv {k a b : Int} (hab : (a = 1 ∧ b = -1) ∨ (a = -1 ∧ b = 1)) : ∀ (n : Nat) (l : List Int), l.length = n → (∀ x ∈ l, 0 ≤ x ∧ x ≤ 255) → ciph k b (ciph k a l) = l := by
  intro n
  induction n with
  | zero => intro l h _; rw [List.eq_nil_of_length_eq_zero h]; rfl
  | succ n ih =>
    intro l h hB
    rcases List.eq_nil_or_concat l with rfl | ⟨m, x, rfl⟩
    · simp at h
    · rw [List.concat_eq_append] at *
      have hx := hB x (by simp)
      rw [ciph_snoc, ciph_snoc, ih m (by simpa using h) (fun y hy => hB y (by simp [hy])), ciph_length, encV_inv hx.1 hx.2 hab]
theorem ciph_bd (k a : Int) : ∀ (n : Nat) (l : List Int), l.length = n → ∀ x ∈ ciph k a l, 0 ≤ x ∧ x ≤ 255 := by
  intro n
  induction n with
  | zero => intro l h x hx; rw [List.eq_nil_of_length_eq_zero h] at hx; simp [ciph] at hx
  | succ n ih =>
    intro l h x hx
    rcases List.eq_nil_or_concat l with rfl | ⟨m, y, rfl⟩
    · simp at h
    · rw [List.concat_eq_append] at *
      rw [ciph_snoc] at hx
      rcases List.mem_append.1 hx with hx | hx
      · exact ih m (by simpa using h) x hx
      · simp at hx
        subst hx
        unfold encV
        omega
set_option maxHeartbeats 4000000 in
theorem law_any {v0 : Value} {W : World} (i0 : InBytes W v0) (w : World) (hWw : w = W) :
    Calls Try.prog 5 #[v0] w fun e w' => e = .returned (.bool true) ∧ Below w.heap.size w w' := by
  subst hWw
  obtain ⟨A0, n0, c0, l0, rfl, hn0, hr0, hI0⟩ := i0
  by_cases hg0 : n0 ≤ 1048576
  rotate_left
  · have hg0' : (1048576 : Int) < (n0 : Int) := by omega
    go_enter Try.func5, Try.ntmps5
    go_wp2_with fail
    refine (big_any _).mono ?_
    rintro e _ ⟨rfl, rfl⟩
    go_wp2_with fail
    go_ret
    exact ⟨rfl, by repeat (first | exact Below.refl _ _ | assumption | refine Below.next_ ?_ ?_ (by assumption) | refine Below.drew ?_ | refine below_drewN ?_ _ | refine Below.alloc ?_ ?_ _ | refine Below.setCell ?_ ?_ _ | omega | (dsimp only; omega) | (simp <;> omega) | (simp at * <;> omega))⟩
  have hg0' : ¬ (1048576 : Int) < (n0 : Int) := by omega
  go_enter Try.func5, Try.ntmps5
  go_wp2_with fail
  refine (big_any _).mono ?_
  rintro e _ ⟨rfl, rfl⟩
  go_wp2_with fail
  refine (DrawEncrypt_any hr0 hg0 hI0).mono ?_
  rintro e w1 ⟨k, B, m, d, rfl, hk, hm, bl, ho, hbl, hb1⟩
  have hbe := hide (ciph_inv (k := k) (a := 1) (b := -1) (.inl ⟨rfl, rfl⟩) _ bl rfl hbl)
  have hbd := hide (ciph_inv (k := k) (a := -1) (b := 1) (.inr ⟨rfl, rfl⟩) _ bl rfl hbl)
  have hB1 := ciph_bd k 1 _ bl rfl
  have hB2 := ciph_bd k (-1) _ bl rfl
  have hz1 := hb1.size
  go_wp2_with fail
  refine (implEncrypt_any (Rd.of_own ho) (by omega) hbl hk).mono ?_
  rintro e w2 ⟨B2, d2, rfl, ho2, hb2⟩
  have hz2 := hb2.size
  go_wp2_with fail
  refine (implDecrypt_any (Rd.of_own ho2) (by omega) hB1 hk).mono ?_
  rintro e w3 ⟨B3, d3, rfl, ho3, hb3⟩
  have hz3 := hb3.size
  rw [hbe.out] at ho3
  go_wp2_with fail
  refine (sameBytes_any (Rd.of_own ho3) ((Rd.of_own ho).below (by repeat (first | exact Below.refl _ _ | assumption | refine Below.next_ ?_ ?_ (by assumption) | refine Below.drew ?_ | refine below_drewN ?_ _ | refine Below.alloc ?_ ?_ _ | refine Below.setCell ?_ ?_ _ | omega | (dsimp only; omega) | (simp <;> omega) | (simp at * <;> omega)))) (by omega) (by omega)).mono ?_
  rintro e _ ⟨rfl, q4, rfl⟩
  go_wp2_with fail
  refine (implDecrypt_any ((Rd.of_own ho).below (by repeat (first | exact Below.refl _ _ | assumption | refine Below.next_ ?_ ?_ (by assumption) | refine Below.drew ?_ | refine below_drewN ?_ _ | refine Below.alloc ?_ ?_ _ | refine Below.setCell ?_ ?_ _ | omega | (dsimp only; omega) | (simp <;> omega) | (simp at * <;> omega)))) (by omega) hbl hk).mono ?_
  rintro e w5 ⟨B5, d5, rfl, ho5, hb5⟩
  have hz5 := hb5.size
  simp at hz5
  go_wp2_with fail
  refine (implEncrypt_any (Rd.of_own ho5) (by omega) hB2 hk).mono ?_
  rintro e w6 ⟨B6, d6, rfl, ho6, hb6⟩
  have hz6 := hb6.size
  rw [hbd.out] at ho6
  go_wp2_with fail
  refine (sameBytes_any (Rd.of_own ho6) ((Rd.of_own ho).below (by repeat (first | exact Below.refl _ _ | assumption | refine Below.next_ ?_ ?_ (by assumption) | refine Below.drew ?_ | refine below_drewN ?_ _ | refine Below.alloc ?_ ?_ _ | refine Below.setCell ?_ ?_ _ | omega | (dsimp only; omega) | (simp <;> omega) | (simp at * <;> omega)))) (by omega) (by omega)).mono ?_
  rintro e _ ⟨rfl, q7, rfl⟩
  go_wp2_with fail
  refine (implEncrypt_any ((Rd.of_own ho).below (by repeat (first | exact Below.refl _ _ | assumption | refine Below.next_ ?_ ?_ (by assumption) | refine Below.drew ?_ | refine below_drewN ?_ _ | refine Below.alloc ?_ ?_ _ | refine Below.setCell ?_ ?_ _ | omega | (dsimp only; omega) | (simp <;> omega) | (simp at * <;> omega)))) (by omega) hbl hk).mono ?_
  rintro e w8 ⟨B8, d8, rfl, ho8, hb8⟩
  have hz8 := hb8.size
  simp at hz8
  go_wp2_with fail
  go_ret
  exact ⟨ret_b (by simp), by repeat (first | exact Below.refl _ _ | assumption | refine Below.next_ ?_ ?_ (by assumption) | refine Below.drew ?_ | refine below_drewN ?_ _ | refine Below.alloc ?_ ?_ _ | refine Below.setCell ?_ ?_ _ | omega | (dsimp only; omega) | (simp <;> omega) | (simp at * <;> omega))⟩
theorem lifted (os : Os) (started : os.Started) (H : Type) (enc : TypeId × Value → H) :
    ReturnsInHanded {} Try.checked os 5 .any (Rows.fnCipherSpec.pre6 enc Try.prog Try.f5 Rows.fnCipherRow.domain false) (Rows.fnCipherSpec.post enc Try.prog Try.f5 false true false false) := by
  refine returnsInHanded_of_change (C := Try.checked) own started (by kernel_rfl) Try.func5
    (ChangeSpec.witness6 (enc := enc) (C := Try.checked) false ⟨#[], #[.slice none 0 0], []⟩ 8 (by kernel_rfl) (by kernel_rfl) (by kernel_rfl) (by kernel_rfl)) ?_
  intro W base args ds gs before hval0 hW _ _
  have hval : ∀ (j : Nat) t v, Try.f5.params[j]? = some t → args[j]? = some v → Value.okWide Try.prog W .any base t v := hval0
  have hW' := hW
  obtain ⟨p, q, hA0, hV, rfl, _, _⟩ := hW
  have hA : DataW.TrodAll enc Try.prog W 0 (fun _ => true) true Try.f5.params.toList args.toList ds p := hA0
  have hlt : ∀ x ∈ p, x.block < W.heap.size := fun x hx => hW'.lt x (by simp [hx])
  have hkeep : ∀ W' : World, Below W.heap.size W W' → ∀ sp : Nat → Bool, (∀ x ∈ p ++ q, sp x.block = true) → DataW.TrodAll enc Try.prog W' 0 sp true Try.f5.params.toList args.toList ds p :=
    fun W' hb sp hsp => trodAll_stays laid hb _ _ _ _ (by kernel_rfl) hlt (fun x hx => hsp x (by simp [hx])) hA
  rw [Try.params5] at hA hval
  obtain ⟨v0, vs0, d0, ds0, p0, q0, hargs, rfl, rfl, h0, r0⟩ := trodAll_cons hA
  obtain ⟨rfl, rfl, rfl⟩ := trodAll_nil r0
  obtain rfl : args = #[v0] := by cases args; simp_all
  obtain ⟨rfl, rfl⟩ := trodVars_none hV
  have i0 : InBytes W v0 := InBytes.of (hval 0 22 v0 rfl rfl) h0
  refine (law_any i0 W rfl).mono fun e W' ⟨he, hb⟩ => ?_
  subst he
  exact ⟨_, rfl, post_of_below (pv := []) hW' (fun _ _ _ => (trodAll_cons_mk (shut_bool Try.underlying4 _) trodAll_mk0)) (hkeep W' hb) (fun _ _ => rfl) rfl
    hb (ok_one (by kernel_rfl) rfl (okWide_bool_mk Try.underlying4 _))⟩

theorem over : Rows.fnCipherRow.holds Try.pinned (OpenSpec.ofChange Rows.fnCipherSpec) :=
  OpenClaim.holds_of_wide 5 Try.f5 rfl rfl rfl rfl rfl rfl rfl ⟨rfl, rfl, rfl, rfl, rfl⟩ rfl rfl rfl rfl rfl (by kernel_rfl) Try.func5 (by kernel_rfl)
    (of_decide_eq_true (by kernel_rfl)) (by unfold Func.isWrapper; first | (rw [if_pos (by decide +kernel)]; kernel_rfl) | (rw [if_neg (by decide +kernel)]; exact ⟨rfl, rfl⟩))
    (fun os started H enc _ => lifted os started H enc)

theorem proved : Rows.FnCipherSaid :=
  over
#print axioms proved
end Go.Proofs.Ytmlkhgekacjidad.lawFnCipher
