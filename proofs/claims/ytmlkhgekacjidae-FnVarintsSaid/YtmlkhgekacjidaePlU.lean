/- Plain laws of the varints and of byte strings: what was encoded is decoded. No program. -/
import Derived.Test.YtmlkhgekacjidaeRead
import Derived.Test.YtmlkhgekacjidaeEnc
namespace Go.Proofs.Ytmlkhgekacjidae
open Go.RowKit Go.WideShapes Go.ChangeShapes Go.Deep
set_option linter.unusedSimpArgs false
set_option linter.unusedVariables false
theorem rdF_form {l : List Int} {at_ : Int} : ∀ (f k : Nat) (n : Int), 0 ≤ n → rdF l at_ f k n = (0, 0, false) ∨ ∃ (a : Nat) (b : Nat), rdF l at_ f k n = ((a : Int), (b : Int), true) ∧ a ≤ 1000000000000 ∧ 1 ≤ b ∧ b ≤ l.length := by
  intro f
  induction f with
  | zero => intro k n h; left; rfl
  | succ f ih =>
    intro k n h
    simp only [rdF]
    generalize l.getD (at_.toNat + k) 0 = x
    have hp : (0 : Int) ≤ 2 ^ (7 * k) := Int.le_of_lt (Int.pow_pos (by omega))
    have hq : 0 ≤ n + x % 128 * 2 ^ (7 * k) := Int.add_nonneg h (Int.mul_nonneg (by omega) hp)
    generalize n + x % 128 * 2 ^ (7 * k) = m at *
    split
    · left; rfl
    · split
      · split
        · left; rfl
        · right; exact ⟨m.toNat, (at_ + k + 1).toNat, by simp only [Int.toNat_of_nonneg hq]; congr 2; omega, by omega, by omega, by omega⟩
      · exact ih _ _ hq
theorem rdU_form (l : List Int) (at_ : Int) : rdU l at_ = (0, 0, false) ∨ ∃ (a : Nat) (b : Nat), rdU l at_ = ((a : Int), (b : Int), true) ∧ a ≤ 1000000000000 ∧ 1 ≤ b ∧ b ≤ l.length := rdF_form 6 0 0 (by omega)
theorem uvl_pos (m : Nat) : 0 < (uvl m).length := by
  by_cases h : m < 128
  · rw [uvl_lt h]; simp
  · rw [uvl_ge (by omega)]; simp
theorem at_drop {L : List Int} {i : Nat} {x : Int} {t : List Int} (h : L.drop i = x :: t) : L[i]? = some x ∧ L.drop (i + 1) = t := by
  have hi : i < L.length := by
    rcases Nat.lt_or_ge i L.length with h' | h'
    · exact h'
    · rw [List.drop_eq_nil_of_le h'] at h; cases h
  rw [List.drop_eq_getElem_cons hi] at h
  injection h with h1 h2
  exact ⟨by rw [List.getElem?_eq_getElem hi, h1], h2⟩
theorem pow7 (k : Nat) : (2 : Int) ^ (7 * (k + 1)) = 128 * 2 ^ (7 * k) := by
  rw [show 7 * (k + 1) = 7 * k + 7 by omega, Int.pow_add]; omega
theorem rdF_uvl {L : List Int} {p : Nat} : ∀ (f k m : Nat) (n : Int) (tail : List Int), (uvl m).length ≤ f → L.drop (p + k) = uvl m ++ tail → n + (m : Int) * 2 ^ (7 * k) ≤ 1000000000000 → (0 < k → 0 < m) →
    rdF L p f k n = (n + (m : Int) * 2 ^ (7 * k), (p : Int) + k + (uvl m).length, true) := by
  intro f
  induction f with
  | zero => intro k m n tail h; have := uvl_pos m; omega
  | succ f ih =>
    intro k m n tail hf hd hle hpos
    by_cases h : m < 128
    · rw [uvl_lt h] at hd ⊢
      obtain ⟨hx, _⟩ := at_drop hd
      have hm : (m : Int) % 128 = m := Int.emod_eq_of_lt (by omega) (by omega)
      exact rdF_done hx (by omega) (by omega) (by rw [hm]) hle (by simp)
    · have hge : 128 ≤ m := by omega
      rw [uvl_ge hge] at hd hf ⊢
      obtain ⟨hx, hd2⟩ := at_drop hd
      have hxm : (((m % 128 + 128 : Nat) : Int)) % 128 = ((m % 128 : Nat) : Int) := by omega
      rw [rdF_more hx (by omega) rfl, hxm]
      have hmd : (m : Int) = ((m % 128 : Nat) : Int) + 128 * ((m / 128 : Nat) : Int) := by omega
      have hv : n + ((m % 128 : Nat) : Int) * 2 ^ (7 * k) + ((m / 128 : Nat) : Int) * 2 ^ (7 * (k + 1)) = n + (m : Int) * 2 ^ (7 * k) := by
        rw [pow7, Int.mul_left_comm]
        conv => rhs; rw [hmd]
        rw [Int.add_mul, Int.mul_assoc 128, Int.add_assoc]
      have hih := ih (k + 1) (m / 128) (n + ((m % 128 : Nat) : Int) * 2 ^ (7 * k)) tail (by simpa using hf) (by rw [show p + (k + 1) = p + k + 1 by omega, hd2]; rfl) (by rw [hv]; exact hle) (fun _ => by omega)
      rw [hih, hv]
      simp only [List.length_cons, Prod.mk.injEq, and_true, true_and]
      omega
theorem rdU_uvl {b tail : List Int} {m : Nat} (hm : m ≤ 1000000000000) : rdU (b ++ uvl m ++ tail) (b.length : Int) = ((m : Int), (b.length : Int) + (uvl m).length, true) := by
  have h := rdF_uvl (L := b ++ uvl m ++ tail) (p := b.length) 6 0 m 0 tail (uvl_len 5 m (by simp; omega)) (by simp) (by simp; omega) (by omega)
  simpa [rdU] using h
theorem rdF_back {L : List Int} {p : Nat} (hB : ∀ x ∈ L, 0 ≤ x ∧ x ≤ 255) : ∀ (f k : Nat) (n v e : Int), rdF L p f k n = (v, e, true) →
    ∃ m : Nat, v = n + (m : Int) * 2 ^ (7 * k) ∧ e = (p : Int) + k + (uvl m).length ∧ (L.drop (p + k)).take (uvl m).length = uvl m ∧ e ≤ L.length ∧ (0 < k → 0 < m) ∧ v ≤ 1000000000000 := by
  intro f
  induction f with
  | zero => intro k n v e h; simp [rdF] at h
  | succ f ih =>
    intro k n v e h
    by_cases hlt : p + k < L.length
    · have hx := List.getElem?_eq_getElem hlt
      generalize L[p + k] = x at hx
      obtain ⟨hx0, hx1⟩ := hB x (List.mem_of_getElem? hx)
      have hdrop : L.drop (p + k) = x :: L.drop (p + k + 1) := by
        rw [List.getElem?_eq_getElem hlt] at hx
        injection hx with hx
        rw [List.drop_eq_getElem_cons hlt, hx]
      by_cases hx128 : x < 128
      · by_cases h0 : (x = 0 ∧ 0 < k) ∨ 1000000000000 < n + x % 128 * 2 ^ (7 * k)
        · rw [rdF_no hx hx128 rfl h0] at h; simp at h
        · rw [rdF_done hx hx128 (by omega) rfl (by omega) rfl] at h
          simp only [Prod.mk.injEq, and_true] at h
          obtain ⟨h1, h2⟩ := h
          have hxm : x % 128 = x := Int.emod_eq_of_lt hx0 hx128
          rw [hxm] at h1 h0
          refine ⟨x.toNat, ?_, ?_, ?_, ?_, by omega, by omega⟩
          · rw [Int.toNat_of_nonneg hx0]; exact h1.symm
          · rw [uvl_lt (by omega)]; simp; omega
          · rw [uvl_lt (by omega), hdrop]; simp; omega
          · omega
      · rw [rdF_more hx (by omega) rfl] at h
        obtain ⟨m, h1, h2, h3, h4, h5, h6⟩ := ih _ _ _ _ h
        have hm0 := h5 (by omega)
        obtain ⟨y, hy⟩ : ∃ y : Nat, x = y + 128 := ⟨(x - 128).toNat, by omega⟩
        have hy128 : y < 128 := by omega
        have hge : 128 ≤ y + 128 * m := by omega
        have e1 : (y + 128 * m) % 128 = y := by omega
        have e2 : (y + 128 * m) / 128 = m := by omega
        have hu : uvl (y + 128 * m) = x :: uvl m := by rw [uvl_ge hge, e1, e2, hy]; simp
        refine ⟨y + 128 * m, ?_, ?_, ?_, h4, by omega, h6⟩
        · rw [h1, pow7, show x % 128 = (y : Int) by omega]
          have : ((y + 128 * m : Nat) : Int) = (y : Int) + 128 * (m : Int) := by omega
          rw [this, Int.mul_left_comm, Int.add_mul, Int.mul_assoc 128, Int.add_assoc]
        · rw [hu, h2]; simp; omega
        · rw [hu, hdrop]
          simp only [List.length_cons, List.take_succ_cons]
          rw [show p + k + 1 = p + (k + 1) by omega, h3]
    · rw [rdF_bad (by omega)] at h; simp at h
theorem rdU_neg {L : List Int} {at_ : Int} (h : at_ < 0) : rdU L at_ = (0, 0, false) := by unfold rdU; exact rdF_bad (Or.inl h)
/-- a decoded varint is the encoding of its integer -/
theorem rdU_back {L : List Int} {at_ v e : Int} (hB : ∀ x ∈ L, 0 ≤ x ∧ x ≤ 255) (h : rdU L at_ = (v, e, true)) :
    0 ≤ at_ ∧ at_ < e ∧ e ≤ L.length ∧ 0 ≤ v ∧ v ≤ 1000000000000 ∧ (L.drop at_.toNat).take (e - at_).toNat = appU [] v := by
  by_cases h0 : at_ < 0
  · rw [rdU_neg h0] at h; simp at h
  · obtain ⟨p, rfl⟩ := Int.eq_ofNat_of_zero_le (show 0 ≤ at_ by omega)
    obtain ⟨m, h1, h2, h3, h4, _, h6⟩ := rdF_back hB _ _ _ _ _ h
    simp only [Nat.mul_zero, Int.pow_zero, Int.mul_one, Int.zero_add] at h1
    have hu := uvl_pos m
    subst h1
    refine ⟨by omega, by omega, h4, by omega, h6, ?_⟩
    have e1 : (e - (p : Int)).toNat = (uvl m).length := by omega
    rw [e1]
    unfold appU
    rw [if_pos (inR_true.2 ⟨by omega, h6⟩)]
    simpa using h3
theorem rdU_false {L : List Int} {at_ v e : Int} (h : rdU L at_ = (v, e, false)) : v = 0 ∧ e = 0 := by
  rcases rdU_form L at_ with h' | ⟨a, b, h', _⟩
  · rw [h'] at h; simp at h; omega
  · rw [h'] at h; simp at h
theorem rdU_end {L : List Int} {at_ : Int} (h : (L.length : Int) ≤ at_) : rdU L at_ = (0, 0, false) := by unfold rdU; exact rdF_bad (Or.inr (by omega))
end Go.Proofs.Ytmlkhgekacjidae
