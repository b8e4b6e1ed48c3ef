/- Plain laws of methods: what the best method is, and that its number is found where it stands. No program. -/
import Derived.Test.YtmlkhgekacjidaeMeB
namespace Go.Proofs.Ytmlkhgekacjidae
open Go.RowKit Go.WideShapes Go.ChangeShapes Go.Deep
set_option linter.unusedSimpArgs false
set_option linter.unusedVariables false
def inUse (m : Mt) (t : Int) : Prop := m.b ≤ t ∧ t < m.c
theorem bestTo_spec (l : List Mt) (t : Int) : ∀ k : Nat, k ≤ l.length →
    match bestTo l t k with
    | none => ∀ (i : Nat) (m : Mt), i < k → l[i]? = some m → ¬ inUse m t
    | some j => ∃ x, l[j]? = some x ∧ inUse x t ∧ ∀ (i : Nat) (m : Mt), i < k → l[i]? = some m → inUse m t → m.c ≤ x.c := by
  intro k
  induction k with
  | zero => intro _; simp [bestTo]
  | succ k ih =>
    intro hk
    have ih := ih (by omega)
    have hm := List.getElem?_eq_getElem (show k < l.length by omega)
    generalize l[k] = m at hm
    cases hb : bestTo l t k with
    | none =>
      rw [hb] at ih
      dsimp only at ih
      by_cases hu : inUse m t
      · rw [bestTo_yes0 hm hb hu.1 hu.2]
        refine ⟨m, hm, hu, fun i m' hi hm' hu' => ?_⟩
        rcases Nat.lt_or_ge i k with h | h
        · exact absurd hu' (ih i m' h hm')
        · obtain rfl : i = k := by omega
          rw [hm] at hm'
          injection hm' with e
          rw [e]; omega
      · rw [bestTo_no0 hm hb hu]
        intro i m' hi hm'
        rcases Nat.lt_or_ge i k with h | h
        · exact ih i m' h hm'
        · obtain rfl : i = k := by omega
          rw [hm] at hm'
          injection hm' with e
          exact e ▸ hu
    | some j =>
      rw [hb] at ih
      dsimp only at ih
      obtain ⟨x, hx, hxu, hall⟩ := ih
      have old : ∀ (y : Mt), m.c ≤ y.c → x.c ≤ y.c → ∀ (i : Nat) (m' : Mt), i < k + 1 → l[i]? = some m' → inUse m' t → m'.c ≤ y.c := by
        intro y h1 h2 i m' hi hm' hu'
        rcases Nat.lt_or_ge i k with h | h
        · have := hall i m' h hm' hu'; omega
        · obtain rfl : i = k := by omega
          rw [hm] at hm'
          injection hm' with e
          rw [← e]; exact h1
      by_cases hu : inUse m t
      · by_cases hc : x.c < m.c
        · rw [bestTo_yes1 hm hb hx hu.1 hu.2 hc]
          exact ⟨m, hm, hu, old m (by omega) (by omega)⟩
        · rw [bestTo_no1 hm hb hx hc]
          exact ⟨x, hx, hxu, old x (by omega) (by omega)⟩
      · rw [bestTo_no0 hm hb hu]
        refine ⟨x, hx, hxu, fun i m' hi hm' hu' => ?_⟩
        rcases Nat.lt_or_ge i k with h | h
        · exact hall i m' h hm' hu'
        · obtain rfl : i = k := by omega
          rw [hm] at hm'
          injection hm' with e
          exact absurd (e ▸ hu') hu
theorem areF_at {l : List Mt} (h : areF l = true) {i : Nat} {m : Mt} (hm : l[i]? = some m) : okAt l i = true := by
  unfold areF at h
  rw [Bool.and_eq_true] at h
  have h1 := List.all_eq_true.1 h.1
  exact h1 i (by simpa using get_lt hm)
theorem areF_me {l : List Mt} (h : areF l = true) {i : Nat} {m : Mt} (hm : l[i]? = some m) : isMe m.a m.b m.c m.d = true := by
  have h1 := areF_at h hm
  unfold okAt at h1
  rw [hm] at h1
  dsimp only at h1
  exact (Bool.and_eq_true _ _ ▸ h1).1
theorem areF_lt {l : List Mt} (h : areF l = true) : ∀ (d i : Nat) (m x : Mt), l[i]? = some m → l[i + d + 1]? = some x → m.a < x.a := by
  intro d
  induction d with
  | zero =>
    intro i m x hm hx
    have h1 := areF_at h hx
    rw [okAt_s hx hm (areF_me h hx)] at h1
    simpa using h1
  | succ d ih =>
    intro i m x hm hx
    have hl := get_lt hx
    have hy := List.getElem?_eq_getElem (show i + d + 1 < l.length by omega)
    generalize l[i + d + 1] = y at hy
    have h1 := ih i m y hm hy
    have h2 := areF_at h (show l[(i + d + 1) + 1]? = some x by simpa [Nat.add_assoc] using hx)
    rw [okAt_s (by simpa [Nat.add_assoc] using hx) hy (areF_me h hx)] at h2
    have h3 : y.a < x.a := by simpa using h2
    omega
theorem areF_find {l : List Mt} (h : areF l = true) {j : Nat} {x : Mt} (hx : l[j]? = some x) : findF l x.a = some j := by
  refine findI_hit (fun i m hi hm => ?_) hx rfl
  have := areF_lt h (j - i - 1) i m x hm (by rw [show i + (j - i - 1) + 1 = j by omega]; exact hx)
  omega
/-- the number of the best method: below 0, and no method is in use; or that of a method that is in use, that ends last, and that is found -/
theorem best_law {l : List Mt} {t : Int} (h : areF l = true) :
    (bestI l t < 0 ∧ ∀ (i : Nat) (m : Mt), l[i]? = some m → ¬ inUse m t) ∨
    ∃ (j : Nat) (x : Mt), 0 ≤ bestI l t ∧ findF l (bestI l t) = some j ∧ l[j]? = some x ∧ inUse x t ∧ ∀ (i : Nat) (m : Mt), l[i]? = some m → inUse m t → m.c ≤ x.c := by
  have hs := bestTo_spec l t l.length (Nat.le_refl _)
  unfold bestI bestF
  cases hb : bestTo l t l.length with
  | none =>
    rw [hb] at hs
    left
    exact ⟨by simp, fun i m hm => hs i m (get_lt hm) hm⟩
  | some j =>
    rw [hb] at hs
    obtain ⟨x, hx, hu, hall⟩ := hs
    right
    have e : (l.getD j ⟨0, 0, 0, 0⟩) = x := by simp [hx]
    refine ⟨j, x, ?_, ?_, hx, hu, fun i m hm hu' => hall i m (get_lt hm) hm hu'⟩
    · dsimp only
      rw [e]
      have := areF_me h hx
      unfold isMe at this
      simp only [Bool.and_eq_true, inR_true] at this
      omega
    · dsimp only
      rw [e]
      exact areF_find h hx
end Go.Proofs.Ytmlkhgekacjidae
