/- Plain laws of decimal forms: the form of an integer in range is parsed to it, and no other form is parsed. No program. -/
import Derived.Test.YtmlkhgekacjidaeParse
namespace Go.Proofs.Ytmlkhgekacjidae
open Go.RowKit Go.WideShapes Go.ChangeShapes Go.Deep
set_option linter.unusedSimpArgs false
set_option linter.unusedVariables false
theorem bytesL_fmt (n : Int) : bytesL (fmtI n) = btsI (fmtL n) := by simp [bytesL, fmtI, btsI]
theorem fmt_size (n : Int) : (fmtI n).size = (fmtL n).length := by
  rw [← bytesL_length, bytesL_fmt, btsI_length]
theorem dec_digs : ∀ (m : Nat) (acc : List UInt8), digs (btsI (dec m acc)) 0 = digs (btsI acc) m := by
  intro m
  induction m using Nat.strongRecOn with
  | _ m ih =>
    intro acc
    by_cases h : m = 0
    · subst h; rfl
    · rw [dec_step h, ih (m / 10) (by omega), btsI_cons _ (by omega), digs, if_neg (by omega)]
      congr 1
      omega
theorem dec_len : ∀ (j m : Nat) (acc : List UInt8), m < 10 ^ j → (dec m acc).length ≤ acc.length + j := by
  intro j
  induction j with
  | zero => intro m acc h; obtain rfl : m = 0 := by simpa using h
            exact Nat.le_refl _
  | succ j ih =>
    intro m acc h
    by_cases h0 : m = 0
    · subst h0; rw [dec_zero]; omega
    · rw [dec_step h0]
      have := ih (m / 10) (UInt8.ofNat (48 + m % 10) :: acc) (by rw [Nat.div_lt_iff_lt_mul (by omega)]; rw [Nat.pow_succ] at h; exact h)
      simp only [List.length_cons] at this
      omega
theorem dec_ne {m : Nat} (h : m ≠ 0) (acc : List UInt8) : 0 < (dec m acc).length := by
  have key : ∀ (m : Nat) (acc : List UInt8), acc.length ≤ (dec m acc).length := by
    intro m
    induction m using Nat.strongRecOn with
    | _ m ih =>
      intro acc
      by_cases h : m = 0
      · subst h; exact Nat.le_refl _
      · rw [dec_step h]
        have := ih (m / 10) (by omega) (UInt8.ofNat (48 + m % 10) :: acc)
        simp only [List.length_cons] at this
        omega
  rw [dec_step h]
  have := key (m / 10) (UInt8.ofNat (48 + m % 10) :: acc)
  simp only [List.length_cons] at this
  omega
theorem prs_fmt_ok {n : Int} (h0 : 0 ≤ n) (h1 : n ≤ 1000000000000) : prs (fmtI n) = (n, true) := by
  by_cases hz : n = 0
  · subst hz
    exact prs_yes (by simp [fmt_size, fmtL]) (by rw [bytesL_fmt]; simp [fmtL, btsI, digs]) (by simp)
  · have hf : fmtL n = dec n.natAbs [] := by unfold fmtL; rw [if_neg hz, if_neg (by omega)]
    have hl : (dec n.natAbs []).length ≤ 13 := by simpa using dec_len 13 n.natAbs [] (by omega)
    have hp := dec_ne (m := n.natAbs) (by omega) []
    refine prs_yes (by rw [fmt_size, hf]; omega) ?_ (by simp; omega)
    rw [bytesL_fmt, hf, dec_digs]
    simp only [btsI, List.map_nil, digs, Option.some.injEq]
    omega
theorem prs_fmt_no {n : Int} (h : ¬ (0 ≤ n ∧ n ≤ 1000000000000)) : prs (fmtI n) = (0, false) := by
  by_cases hs : (fmtI n).size = 0 ∨ 13 < (fmtI n).size
  · exact prs_size hs
  · by_cases hneg : n < 0
    · refine prs_none hs ?_
      rw [bytesL_fmt]
      have hf : fmtL n = 45 :: dec n.natAbs [] := by unfold fmtL; rw [if_neg (by omega), if_pos hneg]
      rw [hf]
      simp [btsI, digs]
    · have hf : fmtL n = dec n.natAbs [] := by unfold fmtL; rw [if_neg (by omega), if_neg hneg]
      refine prs_no hs (n := n) ?_ (Or.inl (by omega))
      rw [bytesL_fmt, hf, dec_digs]
      simp only [btsI, List.map_nil, digs, Option.some.injEq]
      omega
theorem prs_back {s : ByteArray} {n : Int} (h : prs s = (n, true)) : fmtI n = s := by
  unfold prs at h
  split at h
  · simp at h
  · split at h
    · simp at h
    · split at h
      · simp at h
      · rename_i m _ hn
        simp only [Prod.mk.injEq, and_true] at h
        subst h
        by_cases he : fmtI m = s
        · exact he
        · exact absurd (Or.inr he) hn
theorem mod_mod {a b : Int} (hb : 0 < b) : (a.tmod b - a % b).tmod b = 0 := by
  have h : a.tmod b - a % b = 0 ∨ a.tmod b - a % b = -b := by
    rw [Int.tmod_eq_emod]
    split
    · left; omega
    · right; omega
  rcases h with h | h
  · rw [h]; simp
  · rw [h]; simp
theorem ceil_law {a b : Int} (ha : 0 ≤ a) (hb : 1 ≤ b) : a ≤ (a + b - 1) / b * b ∧ (a + b - 1) / b * b - a < b := by
  have h1 := Int.emod_add_mul_ediv (a + b - 1) b
  have h2 := Int.emod_nonneg (a + b - 1) (show b ≠ 0 by omega)
  have h3 := Int.emod_lt_of_pos (a + b - 1) (show 0 < b by omega)
  rw [Int.mul_comm b] at h1
  omega
end Go.Proofs.Ytmlkhgekacjidae
