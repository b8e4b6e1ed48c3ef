/- Integers in range are parsed from their decimal form; CeilDiv and Mod satisfy their defining inequalities. For every input. -/
import Derived.Test.YtmlkhgekacjidaeArgs
import Derived.Test.YtmlkhgekacjidaeDr1
import Derived.Test.YtmlkhgekacjidaePlI
import Derived.Test.YtmlkhgekacjidaeParse
namespace Go.Proofs.Ytmlkhgekacjidae.lawFnIntegers
open Go.ChangeShapes Go.WideShapes Go.ChangeAt Go.RowKit
set_option maxRecDepth 1000000
set_option linter.unusedSimpArgs false
set_option linter.unusedVariables false
theorem own : ownKnob Try.prog.godebug = none := by kernel_rfl
theorem ceil_b0 {a b : Int} (h : ¬ (1 ≤ b ∧ b ≤ 1000000000000)) : ceilDiv a b = 0 := by unfold ceilDiv; rw [inR_false.2 h]; simp
theorem ceil_a0 {a b : Int} (h : ¬ (0 ≤ a ∧ a ≤ 1000000000000)) : ceilDiv a b = 0 := by unfold ceilDiv; rw [inR_false.2 h]; simp
theorem mod_b0 {a b : Int} (h : ¬ (1 ≤ b ∧ b ≤ 1000000000000)) : modI a b = 0 := by unfold modI; rw [if_neg (by rw [inR_false.2 h]; simp)]
theorem mod_facts {a b : Int} (h0 : 1 ≤ b) (h1 : b ≤ 1000000000000) : ∃ R, modI a b = R ∧ ¬ R < 0 ∧ ¬ b ≤ R ∧ (a.tmod b - R).tmod b = 0 ∧ wrap64 (a.tmod b - R) = a.tmod b - R ∧ IntKind.i64.wrap (a.tmod b - R) = a.tmod b - R ∧ R < b ∧ a % b - R = 0 ∧ wrap64 (a % b - R) = 0 := by
  refine ⟨a % b, modI_of h0 h1, ?_, ?_, mod_mod (by omega), ?_, ?_, ?_, by omega, by rw [Int.sub_self]; simp only [wrap64]; omega⟩
  · have := Int.emod_nonneg a (show b ≠ 0 by omega); omega
  · have := Int.emod_lt_of_pos a (show 0 < b by omega); omega
  · have h2 := Int.emod_nonneg a (show b ≠ 0 by omega); have h3 := Int.emod_lt_of_pos a (show 0 < b by omega)
    have h4 : -b < a.tmod b ∧ a.tmod b < b := by rw [Int.tmod_eq_emod]; split <;> omega
    simp only [wrap64]; omega
  · have h2 := Int.emod_nonneg a (show b ≠ 0 by omega); have h3 := Int.emod_lt_of_pos a (show 0 < b by omega)
    have h4 : -b < a.tmod b ∧ a.tmod b < b := by rw [Int.tmod_eq_emod]; split <;> omega
    simp only [IntKind.wrap_i64]; omega
  · exact Int.emod_lt_of_pos a (show 0 < b by omega)
theorem ceil_facts {a b : Int} (a0 : 0 ≤ a) (a1 : a ≤ 1000000000000) (h0 : 1 ≤ b) (h1 : b ≤ 1000000000000) : ∃ Q, ceilDiv a b = Q ∧ a ≤ Q * b ∧ Q * b - a < b ∧ wrap64 (Q * b) = Q * b ∧ wrap64 (Q * b - a) = Q * b - a := by
  have h := ceil_law a0 h0
  refine ⟨(a + b - 1) / b, ?_, h.1, h.2, ?_, ?_⟩
  · unfold ceilDiv; rw [inR_true.2 ⟨a0, a1⟩, inR_true.2 ⟨h0, h1⟩]; simp
  · simp only [wrap64]; omega
  · simp only [wrap64]; omega
theorem prs_form (s : ByteArray) : prs s = (0, false) ∨ ∃ n, prs s = (n, true) ∧ 0 ≤ n ∧ n ≤ 1000000000000 ∧ fmtI n = s := by
  cases h : prs s with
  | mk a b =>
    cases b with
    | false =>
      left
      unfold prs at h
      split at h
      · exact h.symm
      · split at h
        · exact h.symm
        · split at h
          · exact h.symm
          · simp at h
    | true =>
      right
      have hb := prs_back h
      refine ⟨a, rfl, ?_, ?_, hb⟩
      · by_cases h0 : 0 ≤ a ∧ a ≤ 1000000000000
        · exact h0.1
        · have := prs_fmt_no h0; rw [hb, h] at this; simp at this
      · by_cases h0 : 0 ≤ a ∧ a ≤ 1000000000000
        · exact h0.2
        · have := prs_fmt_no h0; rw [hb, h] at this; simp at this
set_option maxHeartbeats 8000000 in
theorem law_any {v0 : Value} {W : World} (i0 : InBytes W v0) (w : World) (hWw : w = W) :
    Calls Try.prog 3 #[v0] w fun e w' => e = .returned (.bool true) ∧ Below w.heap.size w w' := by
  subst hWw
  obtain ⟨A0, n0, c0, l0, rfl, hn0, hr0, hI0⟩ := i0
  by_cases hg0 : n0 ≤ 1048576
  rotate_left
  · have hg0' : (1048576 : Int) < (n0 : Int) := by omega
    go_enter Try.func3, Try.ntmps3
    go_wp2_with fail
    refine (big_any _).mono ?_
    rintro e _ ⟨rfl, rfl⟩
    go_wp2_with fail
    go_ret
    exact ⟨rfl, by repeat (first | exact Below.refl _ _ | assumption | refine Below.next_ ?_ ?_ (by assumption) | refine Below.drew ?_ | refine below_drewN ?_ _ | refine Below.alloc ?_ ?_ _ | refine Below.setCell ?_ ?_ _ | omega | (dsimp only; omega) | (simp <;> omega) | (simp at * <;> omega))⟩
  have hg0' : ¬ (1048576 : Int) < (n0 : Int) := by omega
  go_enter Try.func3, Try.ntmps3
  go_wp2_with fail
  refine (big_any _).mono ?_
  rintro e _ ⟨rfl, rfl⟩
  go_wp2_with fail
  refine (DrawParseInt_any hr0 hg0 hI0).mono ?_
  rintro e w1 ⟨s, rfl, hs, hb1⟩
  have hz1 := hb1.size
  go_wp2_with fail
  refine (implParseInt_any _ (by omega)).mono ?_
  rintro e w2 ⟨rfl, hb2⟩
  have hz2 := hb2.size
  obtain ⟨n1, ok1, hp1, hok1, hn1⟩ : ∃ n1 ok1, prs s = (n1, ok1) ∧ (ok1 = true → fmtI n1 = s) ∧ I64 n1 := by
    rcases prs_form s with h | ⟨n, h, h0, h1, h2⟩
    · exact ⟨0, false, h, by simp, by omega, by omega⟩
    · exact ⟨n, true, h, fun _ => h2, by omega, by omega⟩
  have HP1 := hide hp1
  have HOK1 := hide hok1
  clear hp1 hok1
  rw [HP1.out]
  unfold prsV
  dsimp only
  go_wp2_with fail
  refine (DrawFormatInt_any (hr0.below (by repeat (first | exact Below.refl _ _ | assumption | refine Below.next_ ?_ ?_ (by assumption) | refine Below.drew ?_ | refine below_drewN ?_ _ | refine Below.alloc ?_ ?_ _ | refine Below.setCell ?_ ?_ _ | omega | (dsimp only; omega) | (simp <;> omega) | (simp at * <;> omega)))) hg0 hI0).mono ?_
  rintro e w3 ⟨m, rfl, hm, hb3⟩
  have hz3 := hb3.size
  go_wp2_with fail
  refine (implFormatInt_any _ _ hm).mono ?_
  rintro e w4 ⟨rfl, hb4⟩
  have hz4 := hb4.size
  have hfz : (fmtI m).size ≤ 9223372036854775807 := fmt_small hm
  go_wp2_with fail
  refine (implParseInt_any _ hfz).mono ?_
  rintro e w5 ⟨rfl, hb5⟩
  have hz5 := hb5.size
  obtain ⟨k, fine, hp2, hfine⟩ : ∃ k fine, prs (fmtI m) = (k, fine) ∧ ((fine = true ∧ k = m ∧ 0 ≤ m ∧ m ≤ 1000000000000) ∨ (fine = false ∧ ¬ (0 ≤ m ∧ m ≤ 1000000000000))) := by
    by_cases h : 0 ≤ m ∧ m ≤ 1000000000000
    · exact ⟨m, true, prs_fmt_ok h.1 h.2, .inl ⟨rfl, rfl, h⟩⟩
    · exact ⟨0, false, prs_fmt_no h, .inr ⟨rfl, h⟩⟩
  have HP2 := hide hp2
  have HF := hide hfine
  clear hp2 hfine hfz
  rw [HP2.out]
  unfold prsV
  dsimp only
  go_wp2_with fail
  refine (DrawCeilDiv_any (hr0.below (by repeat (first | exact Below.refl _ _ | assumption | refine Below.next_ ?_ ?_ (by assumption) | refine Below.drew ?_ | refine below_drewN ?_ _ | refine Below.alloc ?_ ?_ _ | refine Below.setCell ?_ ?_ _ | omega | (dsimp only; omega) | (simp <;> omega) | (simp at * <;> omega)))) hg0 hI0).mono ?_
  rintro e w6 ⟨a, b, rfl, ha, hb, hb6⟩
  have hz6 := hb6.size
  obtain ⟨ha0, ha1⟩ := ha
  obtain ⟨hb0_, hb1_⟩ := hb
  go_wp2_with fail
  refine (implCeilDiv_any _ _ _).mono ?_
  rintro e _ ⟨rfl, rfl⟩
  go_wp2_with fail
  refine (implMod_any _ _ _ ha0 ha1).mono ?_
  rintro e _ ⟨rfl, rfl⟩
  have hbA : Below w.heap.size w w6 := by repeat (first | exact Below.refl _ _ | assumption | refine Below.next_ ?_ ?_ (by assumption) | refine Below.drew ?_ | refine below_drewN ?_ _ | refine Below.alloc ?_ ?_ _ | refine Below.setCell ?_ ?_ _ | omega | (dsimp only; omega) | (simp <;> omega) | (simp at * <;> omega))
  have hzA := hbA.size
  clear hb1 hb2 hb3 hb4 hb5 hb6
  rcases HF.out with ⟨rfl, rfl, hm0, hm1⟩ | ⟨rfl, hno⟩
  · clear HF
    cases ok1 with
    | true =>
      go_wp2_with fail
      refine (implFormatInt_any _ _ hn1).mono ?_
      rintro e w7 ⟨rfl, hb7⟩
      rw [HOK1.out (by simp)]
      have hz7 := hb7.size
      by_cases hb1c : b < 1
      · have e1 : ceilDiv a b = 0 := ceil_b0 (by omega)
        have e2 : modI a b = 0 := mod_b0 (by omega)
        go_wp2_with fail
        go_ret
        exact ⟨ret_b (by first | rfl | simp [*] | (simp; omega)), by repeat (first | exact Below.refl _ _ | assumption | refine Below.next_ ?_ ?_ (by assumption) | refine Below.drew ?_ | refine below_drewN ?_ _ | refine Below.alloc ?_ ?_ _ | refine Below.setCell ?_ ?_ _ | omega | (dsimp only; omega) | (simp <;> omega) | (simp at * <;> omega))⟩
      · by_cases hb2c : (1000000000000 : Int) < b
        · have e1 : ceilDiv a b = 0 := ceil_b0 (by omega)
          have e2 : modI a b = 0 := mod_b0 (by omega)
          go_wp2_with fail
          go_ret
          exact ⟨ret_b (by first | rfl | simp [*] | (simp; omega)), by repeat (first | exact Below.refl _ _ | assumption | refine Below.next_ ?_ ?_ (by assumption) | refine Below.drew ?_ | refine below_drewN ?_ _ | refine Below.alloc ?_ ?_ _ | refine Below.setCell ?_ ?_ _ | omega | (dsimp only; omega) | (simp <;> omega) | (simp at * <;> omega))⟩
        · obtain ⟨R, e2, r0, r1, r2, r3, r4, r5, r6, r7⟩ := mod_facts (a := a) (b := b) (by omega) (by omega)
          have hbne : b ≠ 0 := by omega
          by_cases ha1c : a < 0
          · have e1 : ceilDiv a b = 0 := ceil_a0 (by omega)
            go_wp2_with fail
            go_ret
            exact ⟨ret_b (by first | rfl | simp [*] | (simp; omega)), by repeat (first | exact Below.refl _ _ | assumption | refine Below.next_ ?_ ?_ (by assumption) | refine Below.drew ?_ | refine below_drewN ?_ _ | refine Below.alloc ?_ ?_ _ | refine Below.setCell ?_ ?_ _ | omega | (dsimp only; omega) | (simp <;> omega) | (simp at * <;> omega))⟩
          · by_cases ha2c : (1000000000000 : Int) < a
            · have e1 : ceilDiv a b = 0 := ceil_a0 (by omega)
              go_wp2_with fail
              go_ret
              exact ⟨ret_b (by first | rfl | simp [*] | (simp; omega)), by repeat (first | exact Below.refl _ _ | assumption | refine Below.next_ ?_ ?_ (by assumption) | refine Below.drew ?_ | refine below_drewN ?_ _ | refine Below.alloc ?_ ?_ _ | refine Below.setCell ?_ ?_ _ | omega | (dsimp only; omega) | (simp <;> omega) | (simp at * <;> omega))⟩
            · obtain ⟨Q, e1, q0, q1, q2, q3⟩ := ceil_facts (a := a) (b := b) (by omega) (by omega) (by omega) (by omega)
              go_wp2_with fail
              go_ret
              exact ⟨ret_b (by first | rfl | simp [*] | (simp; omega)), by repeat (first | exact Below.refl _ _ | assumption | refine Below.next_ ?_ ?_ (by assumption) | refine Below.drew ?_ | refine below_drewN ?_ _ | refine Below.alloc ?_ ?_ _ | refine Below.setCell ?_ ?_ _ | omega | (dsimp only; omega) | (simp <;> omega) | (simp at * <;> omega))⟩
    | false =>
      by_cases hb1c : b < 1
      · have e1 : ceilDiv a b = 0 := ceil_b0 (by omega)
        have e2 : modI a b = 0 := mod_b0 (by omega)
        go_wp2_with fail
        go_ret
        exact ⟨ret_b (by first | rfl | simp [*] | (simp; omega)), by repeat (first | exact Below.refl _ _ | assumption | refine Below.next_ ?_ ?_ (by assumption) | refine Below.drew ?_ | refine below_drewN ?_ _ | refine Below.alloc ?_ ?_ _ | refine Below.setCell ?_ ?_ _ | omega | (dsimp only; omega) | (simp <;> omega) | (simp at * <;> omega))⟩
      · by_cases hb2c : (1000000000000 : Int) < b
        · have e1 : ceilDiv a b = 0 := ceil_b0 (by omega)
          have e2 : modI a b = 0 := mod_b0 (by omega)
          go_wp2_with fail
          go_ret
          exact ⟨ret_b (by first | rfl | simp [*] | (simp; omega)), by repeat (first | exact Below.refl _ _ | assumption | refine Below.next_ ?_ ?_ (by assumption) | refine Below.drew ?_ | refine below_drewN ?_ _ | refine Below.alloc ?_ ?_ _ | refine Below.setCell ?_ ?_ _ | omega | (dsimp only; omega) | (simp <;> omega) | (simp at * <;> omega))⟩
        · obtain ⟨R, e2, r0, r1, r2, r3, r4, r5, r6, r7⟩ := mod_facts (a := a) (b := b) (by omega) (by omega)
          have hbne : b ≠ 0 := by omega
          by_cases ha1c : a < 0
          · have e1 : ceilDiv a b = 0 := ceil_a0 (by omega)
            go_wp2_with fail
            go_ret
            exact ⟨ret_b (by first | rfl | simp [*] | (simp; omega)), by repeat (first | exact Below.refl _ _ | assumption | refine Below.next_ ?_ ?_ (by assumption) | refine Below.drew ?_ | refine below_drewN ?_ _ | refine Below.alloc ?_ ?_ _ | refine Below.setCell ?_ ?_ _ | omega | (dsimp only; omega) | (simp <;> omega) | (simp at * <;> omega))⟩
          · by_cases ha2c : (1000000000000 : Int) < a
            · have e1 : ceilDiv a b = 0 := ceil_a0 (by omega)
              go_wp2_with fail
              go_ret
              exact ⟨ret_b (by first | rfl | simp [*] | (simp; omega)), by repeat (first | exact Below.refl _ _ | assumption | refine Below.next_ ?_ ?_ (by assumption) | refine Below.drew ?_ | refine below_drewN ?_ _ | refine Below.alloc ?_ ?_ _ | refine Below.setCell ?_ ?_ _ | omega | (dsimp only; omega) | (simp <;> omega) | (simp at * <;> omega))⟩
            · obtain ⟨Q, e1, q0, q1, q2, q3⟩ := ceil_facts (a := a) (b := b) (by omega) (by omega) (by omega) (by omega)
              go_wp2_with fail
              go_ret
              exact ⟨ret_b (by first | rfl | simp [*] | (simp; omega)), by repeat (first | exact Below.refl _ _ | assumption | refine Below.next_ ?_ ?_ (by assumption) | refine Below.drew ?_ | refine below_drewN ?_ _ | refine Below.alloc ?_ ?_ _ | refine Below.setCell ?_ ?_ _ | omega | (dsimp only; omega) | (simp <;> omega) | (simp at * <;> omega))⟩
  · clear HF
    by_cases hmn : m < 0
    · have hmz : ¬ 0 ≤ m := by omega
      cases ok1 with
      | true =>
        go_wp2_with fail
        refine (implFormatInt_any _ _ hn1).mono ?_
        rintro e w7 ⟨rfl, hb7⟩
        rw [HOK1.out (by simp)]
        have hz7 := hb7.size
        by_cases hb1c : b < 1
        · have e1 : ceilDiv a b = 0 := ceil_b0 (by omega)
          have e2 : modI a b = 0 := mod_b0 (by omega)
          go_wp2_with fail
          go_ret
          exact ⟨ret_b (by first | rfl | simp [*] | (simp; omega)), by repeat (first | exact Below.refl _ _ | assumption | refine Below.next_ ?_ ?_ (by assumption) | refine Below.drew ?_ | refine below_drewN ?_ _ | refine Below.alloc ?_ ?_ _ | refine Below.setCell ?_ ?_ _ | omega | (dsimp only; omega) | (simp <;> omega) | (simp at * <;> omega))⟩
        · by_cases hb2c : (1000000000000 : Int) < b
          · have e1 : ceilDiv a b = 0 := ceil_b0 (by omega)
            have e2 : modI a b = 0 := mod_b0 (by omega)
            go_wp2_with fail
            go_ret
            exact ⟨ret_b (by first | rfl | simp [*] | (simp; omega)), by repeat (first | exact Below.refl _ _ | assumption | refine Below.next_ ?_ ?_ (by assumption) | refine Below.drew ?_ | refine below_drewN ?_ _ | refine Below.alloc ?_ ?_ _ | refine Below.setCell ?_ ?_ _ | omega | (dsimp only; omega) | (simp <;> omega) | (simp at * <;> omega))⟩
          · obtain ⟨R, e2, r0, r1, r2, r3, r4, r5, r6, r7⟩ := mod_facts (a := a) (b := b) (by omega) (by omega)
            have hbne : b ≠ 0 := by omega
            by_cases ha1c : a < 0
            · have e1 : ceilDiv a b = 0 := ceil_a0 (by omega)
              go_wp2_with fail
              go_ret
              exact ⟨ret_b (by first | rfl | simp [*] | (simp; omega)), by repeat (first | exact Below.refl _ _ | assumption | refine Below.next_ ?_ ?_ (by assumption) | refine Below.drew ?_ | refine below_drewN ?_ _ | refine Below.alloc ?_ ?_ _ | refine Below.setCell ?_ ?_ _ | omega | (dsimp only; omega) | (simp <;> omega) | (simp at * <;> omega))⟩
            · by_cases ha2c : (1000000000000 : Int) < a
              · have e1 : ceilDiv a b = 0 := ceil_a0 (by omega)
                go_wp2_with fail
                go_ret
                exact ⟨ret_b (by first | rfl | simp [*] | (simp; omega)), by repeat (first | exact Below.refl _ _ | assumption | refine Below.next_ ?_ ?_ (by assumption) | refine Below.drew ?_ | refine below_drewN ?_ _ | refine Below.alloc ?_ ?_ _ | refine Below.setCell ?_ ?_ _ | omega | (dsimp only; omega) | (simp <;> omega) | (simp at * <;> omega))⟩
              · obtain ⟨Q, e1, q0, q1, q2, q3⟩ := ceil_facts (a := a) (b := b) (by omega) (by omega) (by omega) (by omega)
                go_wp2_with fail
                go_ret
                exact ⟨ret_b (by first | rfl | simp [*] | (simp; omega)), by repeat (first | exact Below.refl _ _ | assumption | refine Below.next_ ?_ ?_ (by assumption) | refine Below.drew ?_ | refine below_drewN ?_ _ | refine Below.alloc ?_ ?_ _ | refine Below.setCell ?_ ?_ _ | omega | (dsimp only; omega) | (simp <;> omega) | (simp at * <;> omega))⟩
      | false =>
        by_cases hb1c : b < 1
        · have e1 : ceilDiv a b = 0 := ceil_b0 (by omega)
          have e2 : modI a b = 0 := mod_b0 (by omega)
          go_wp2_with fail
          go_ret
          exact ⟨ret_b (by first | rfl | simp [*] | (simp; omega)), by repeat (first | exact Below.refl _ _ | assumption | refine Below.next_ ?_ ?_ (by assumption) | refine Below.drew ?_ | refine below_drewN ?_ _ | refine Below.alloc ?_ ?_ _ | refine Below.setCell ?_ ?_ _ | omega | (dsimp only; omega) | (simp <;> omega) | (simp at * <;> omega))⟩
        · by_cases hb2c : (1000000000000 : Int) < b
          · have e1 : ceilDiv a b = 0 := ceil_b0 (by omega)
            have e2 : modI a b = 0 := mod_b0 (by omega)
            go_wp2_with fail
            go_ret
            exact ⟨ret_b (by first | rfl | simp [*] | (simp; omega)), by repeat (first | exact Below.refl _ _ | assumption | refine Below.next_ ?_ ?_ (by assumption) | refine Below.drew ?_ | refine below_drewN ?_ _ | refine Below.alloc ?_ ?_ _ | refine Below.setCell ?_ ?_ _ | omega | (dsimp only; omega) | (simp <;> omega) | (simp at * <;> omega))⟩
          · obtain ⟨R, e2, r0, r1, r2, r3, r4, r5, r6, r7⟩ := mod_facts (a := a) (b := b) (by omega) (by omega)
            have hbne : b ≠ 0 := by omega
            by_cases ha1c : a < 0
            · have e1 : ceilDiv a b = 0 := ceil_a0 (by omega)
              go_wp2_with fail
              go_ret
              exact ⟨ret_b (by first | rfl | simp [*] | (simp; omega)), by repeat (first | exact Below.refl _ _ | assumption | refine Below.next_ ?_ ?_ (by assumption) | refine Below.drew ?_ | refine below_drewN ?_ _ | refine Below.alloc ?_ ?_ _ | refine Below.setCell ?_ ?_ _ | omega | (dsimp only; omega) | (simp <;> omega) | (simp at * <;> omega))⟩
            · by_cases ha2c : (1000000000000 : Int) < a
              · have e1 : ceilDiv a b = 0 := ceil_a0 (by omega)
                go_wp2_with fail
                go_ret
                exact ⟨ret_b (by first | rfl | simp [*] | (simp; omega)), by repeat (first | exact Below.refl _ _ | assumption | refine Below.next_ ?_ ?_ (by assumption) | refine Below.drew ?_ | refine below_drewN ?_ _ | refine Below.alloc ?_ ?_ _ | refine Below.setCell ?_ ?_ _ | omega | (dsimp only; omega) | (simp <;> omega) | (simp at * <;> omega))⟩
              · obtain ⟨Q, e1, q0, q1, q2, q3⟩ := ceil_facts (a := a) (b := b) (by omega) (by omega) (by omega) (by omega)
                go_wp2_with fail
                go_ret
                exact ⟨ret_b (by first | rfl | simp [*] | (simp; omega)), by repeat (first | exact Below.refl _ _ | assumption | refine Below.next_ ?_ ?_ (by assumption) | refine Below.drew ?_ | refine below_drewN ?_ _ | refine Below.alloc ?_ ?_ _ | refine Below.setCell ?_ ?_ _ | omega | (dsimp only; omega) | (simp <;> omega) | (simp at * <;> omega))⟩
    · have hmz : 0 ≤ m := by omega
      have hmx : (1000000000000 : Int) < m := by omega
      cases ok1 with
      | true =>
        go_wp2_with fail
        refine (implFormatInt_any _ _ hn1).mono ?_
        rintro e w7 ⟨rfl, hb7⟩
        rw [HOK1.out (by simp)]
        have hz7 := hb7.size
        by_cases hb1c : b < 1
        · have e1 : ceilDiv a b = 0 := ceil_b0 (by omega)
          have e2 : modI a b = 0 := mod_b0 (by omega)
          go_wp2_with fail
          go_ret
          exact ⟨ret_b (by first | rfl | simp [*] | (simp; omega)), by repeat (first | exact Below.refl _ _ | assumption | refine Below.next_ ?_ ?_ (by assumption) | refine Below.drew ?_ | refine below_drewN ?_ _ | refine Below.alloc ?_ ?_ _ | refine Below.setCell ?_ ?_ _ | omega | (dsimp only; omega) | (simp <;> omega) | (simp at * <;> omega))⟩
        · by_cases hb2c : (1000000000000 : Int) < b
          · have e1 : ceilDiv a b = 0 := ceil_b0 (by omega)
            have e2 : modI a b = 0 := mod_b0 (by omega)
            go_wp2_with fail
            go_ret
            exact ⟨ret_b (by first | rfl | simp [*] | (simp; omega)), by repeat (first | exact Below.refl _ _ | assumption | refine Below.next_ ?_ ?_ (by assumption) | refine Below.drew ?_ | refine below_drewN ?_ _ | refine Below.alloc ?_ ?_ _ | refine Below.setCell ?_ ?_ _ | omega | (dsimp only; omega) | (simp <;> omega) | (simp at * <;> omega))⟩
          · obtain ⟨R, e2, r0, r1, r2, r3, r4, r5, r6, r7⟩ := mod_facts (a := a) (b := b) (by omega) (by omega)
            have hbne : b ≠ 0 := by omega
            by_cases ha1c : a < 0
            · have e1 : ceilDiv a b = 0 := ceil_a0 (by omega)
              go_wp2_with fail
              go_ret
              exact ⟨ret_b (by first | rfl | simp [*] | (simp; omega)), by repeat (first | exact Below.refl _ _ | assumption | refine Below.next_ ?_ ?_ (by assumption) | refine Below.drew ?_ | refine below_drewN ?_ _ | refine Below.alloc ?_ ?_ _ | refine Below.setCell ?_ ?_ _ | omega | (dsimp only; omega) | (simp <;> omega) | (simp at * <;> omega))⟩
            · by_cases ha2c : (1000000000000 : Int) < a
              · have e1 : ceilDiv a b = 0 := ceil_a0 (by omega)
                go_wp2_with fail
                go_ret
                exact ⟨ret_b (by first | rfl | simp [*] | (simp; omega)), by repeat (first | exact Below.refl _ _ | assumption | refine Below.next_ ?_ ?_ (by assumption) | refine Below.drew ?_ | refine below_drewN ?_ _ | refine Below.alloc ?_ ?_ _ | refine Below.setCell ?_ ?_ _ | omega | (dsimp only; omega) | (simp <;> omega) | (simp at * <;> omega))⟩
              · obtain ⟨Q, e1, q0, q1, q2, q3⟩ := ceil_facts (a := a) (b := b) (by omega) (by omega) (by omega) (by omega)
                go_wp2_with fail
                go_ret
                exact ⟨ret_b (by first | rfl | simp [*] | (simp; omega)), by repeat (first | exact Below.refl _ _ | assumption | refine Below.next_ ?_ ?_ (by assumption) | refine Below.drew ?_ | refine below_drewN ?_ _ | refine Below.alloc ?_ ?_ _ | refine Below.setCell ?_ ?_ _ | omega | (dsimp only; omega) | (simp <;> omega) | (simp at * <;> omega))⟩
      | false =>
        by_cases hb1c : b < 1
        · have e1 : ceilDiv a b = 0 := ceil_b0 (by omega)
          have e2 : modI a b = 0 := mod_b0 (by omega)
          go_wp2_with fail
          go_ret
          exact ⟨ret_b (by first | rfl | simp [*] | (simp; omega)), by repeat (first | exact Below.refl _ _ | assumption | refine Below.next_ ?_ ?_ (by assumption) | refine Below.drew ?_ | refine below_drewN ?_ _ | refine Below.alloc ?_ ?_ _ | refine Below.setCell ?_ ?_ _ | omega | (dsimp only; omega) | (simp <;> omega) | (simp at * <;> omega))⟩
        · by_cases hb2c : (1000000000000 : Int) < b
          · have e1 : ceilDiv a b = 0 := ceil_b0 (by omega)
            have e2 : modI a b = 0 := mod_b0 (by omega)
            go_wp2_with fail
            go_ret
            exact ⟨ret_b (by first | rfl | simp [*] | (simp; omega)), by repeat (first | exact Below.refl _ _ | assumption | refine Below.next_ ?_ ?_ (by assumption) | refine Below.drew ?_ | refine below_drewN ?_ _ | refine Below.alloc ?_ ?_ _ | refine Below.setCell ?_ ?_ _ | omega | (dsimp only; omega) | (simp <;> omega) | (simp at * <;> omega))⟩
          · obtain ⟨R, e2, r0, r1, r2, r3, r4, r5, r6, r7⟩ := mod_facts (a := a) (b := b) (by omega) (by omega)
            have hbne : b ≠ 0 := by omega
            by_cases ha1c : a < 0
            · have e1 : ceilDiv a b = 0 := ceil_a0 (by omega)
              go_wp2_with fail
              go_ret
              exact ⟨ret_b (by first | rfl | simp [*] | (simp; omega)), by repeat (first | exact Below.refl _ _ | assumption | refine Below.next_ ?_ ?_ (by assumption) | refine Below.drew ?_ | refine below_drewN ?_ _ | refine Below.alloc ?_ ?_ _ | refine Below.setCell ?_ ?_ _ | omega | (dsimp only; omega) | (simp <;> omega) | (simp at * <;> omega))⟩
            · by_cases ha2c : (1000000000000 : Int) < a
              · have e1 : ceilDiv a b = 0 := ceil_a0 (by omega)
                go_wp2_with fail
                go_ret
                exact ⟨ret_b (by first | rfl | simp [*] | (simp; omega)), by repeat (first | exact Below.refl _ _ | assumption | refine Below.next_ ?_ ?_ (by assumption) | refine Below.drew ?_ | refine below_drewN ?_ _ | refine Below.alloc ?_ ?_ _ | refine Below.setCell ?_ ?_ _ | omega | (dsimp only; omega) | (simp <;> omega) | (simp at * <;> omega))⟩
              · obtain ⟨Q, e1, q0, q1, q2, q3⟩ := ceil_facts (a := a) (b := b) (by omega) (by omega) (by omega) (by omega)
                go_wp2_with fail
                go_ret
                exact ⟨ret_b (by first | rfl | simp [*] | (simp; omega)), by repeat (first | exact Below.refl _ _ | assumption | refine Below.next_ ?_ ?_ (by assumption) | refine Below.drew ?_ | refine below_drewN ?_ _ | refine Below.alloc ?_ ?_ _ | refine Below.setCell ?_ ?_ _ | omega | (dsimp only; omega) | (simp <;> omega) | (simp at * <;> omega))⟩
theorem lifted (os : Os) (started : os.Started) (H : Type) (enc : TypeId × Value → H) :
    ReturnsInHanded {} Try.checked os 3 .any (Rows.fnIntegersSpec.pre6 enc Try.prog Try.f3 Rows.fnIntegersRow.domain false) (Rows.fnIntegersSpec.post enc Try.prog Try.f3 false true false false) := by
  refine returnsInHanded_of_change (C := Try.checked) own started (by kernel_rfl) Try.func3
    (ChangeSpec.witness6 (enc := enc) (C := Try.checked) false ⟨#[], #[.slice none 0 0], []⟩ 8 (by kernel_rfl) (by kernel_rfl) (by kernel_rfl) (by kernel_rfl)) ?_
  intro W base args ds gs before hval0 hW _ _
  have hval : ∀ (j : Nat) t v, Try.f3.params[j]? = some t → args[j]? = some v → Value.okWide Try.prog W .any base t v := hval0
  have hW' := hW
  obtain ⟨p, q, hA0, hV, rfl, _, _⟩ := hW
  have hA : DataW.TrodAll enc Try.prog W 0 (fun _ => true) true Try.f3.params.toList args.toList ds p := hA0
  have hlt : ∀ x ∈ p, x.block < W.heap.size := fun x hx => hW'.lt x (by simp [hx])
  have hkeep : ∀ W' : World, Below W.heap.size W W' → ∀ sp : Nat → Bool, (∀ x ∈ p ++ q, sp x.block = true) → DataW.TrodAll enc Try.prog W' 0 sp true Try.f3.params.toList args.toList ds p :=
    fun W' hb sp hsp => trodAll_stays laid hb _ _ _ _ (by kernel_rfl) hlt (fun x hx => hsp x (by simp [hx])) hA
  rw [Try.params3] at hA hval
  obtain ⟨v0, vs0, d0, ds0, p0, q0, hargs, rfl, rfl, h0, r0⟩ := trodAll_cons hA
  obtain ⟨rfl, rfl, rfl⟩ := trodAll_nil r0
  obtain rfl : args = #[v0] := by cases args; simp_all
  obtain ⟨rfl, rfl⟩ := trodVars_none hV
  have i0 : InBytes W v0 := InBytes.of (hval 0 22 v0 rfl rfl) h0
  refine (law_any i0 W rfl).mono fun e W' ⟨he, hb⟩ => ?_
  subst he
  exact ⟨_, rfl, post_of_below (pv := []) hW' (fun _ _ _ => (trodAll_cons_mk (shut_bool Try.underlying4 _) trodAll_mk0)) (hkeep W' hb) (fun _ _ => rfl) rfl
    hb (ok_one (by kernel_rfl) rfl (okWide_bool_mk Try.underlying4 _))⟩

theorem over : Rows.fnIntegersRow.holds Try.pinned (OpenSpec.ofChange Rows.fnIntegersSpec) :=
  OpenClaim.holds_of_wide 3 Try.f3 rfl rfl rfl rfl rfl rfl rfl ⟨rfl, rfl, rfl, rfl, rfl⟩ rfl rfl rfl rfl rfl (by kernel_rfl) Try.func3 (by kernel_rfl)
    (of_decide_eq_true (by kernel_rfl)) (by unfold Func.isWrapper; first | (rw [if_pos (by decide +kernel)]; kernel_rfl) | (rw [if_neg (by decide +kernel)]; exact ⟨rfl, rfl⟩))
    (fun os started H enc _ => lifted os started H enc)

theorem proved : Rows.FnIntegersSaid :=
  over
#print axioms proved
end Go.Proofs.Ytmlkhgekacjidae.lawFnIntegers
