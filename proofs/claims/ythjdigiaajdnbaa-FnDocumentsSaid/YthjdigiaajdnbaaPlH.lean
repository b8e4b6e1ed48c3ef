/- Plain law of the hash: where one value is another one modulo the modulus, the hash is another one. No program. -/
import Derived.Test.YthjdigiaajdnbaaKeyed
namespace Go.Proofs.Ythjdigiaajdnbaa
open Go.RowKit Go.WideShapes Go.ChangeShapes Go.Deep
set_option linter.unusedSimpArgs false
set_option linter.unusedVariables false
def hstep (h v : Int) : Int := (h * 1000003 + modI v 2147483647 + 13) % 2147483647
theorem hstep_bd (h v : Int) : 0 ≤ hstep h v ∧ hstep h v ≤ 2147483646 := by unfold hstep; omega
theorem inv_mod {d q : Int} (h : d * 1000003 = 2147483647 * q) : ∃ z, d = 2147483647 * z := by
  have e1 : d * 1000003 * 1523789695 = d + 2147483647 * (d * 709572) := by clear h; omega
  have e3 : d = d * 1000003 * 1523789695 - 2147483647 * (d * 709572) := by rw [e1]; clear h e1; omega
  rw [h, Int.mul_assoc 2147483647 q, ← Int.mul_sub] at e3
  exact ⟨_, e3⟩
theorem hstep_inj {h k v : Int} (h0 : 0 ≤ h ∧ h ≤ 2147483646) (k0 : 0 ≤ k ∧ k ≤ 2147483646) (e : hstep h v = hstep k v) : h = k := by
  unfold hstep at e
  generalize modI v 2147483647 = m at e
  rw [Int.emod_eq_emod_iff_emod_sub_eq_zero] at e
  obtain ⟨q, hq⟩ := Int.dvd_of_emod_eq_zero e
  have h1 : h * 1000003 + m + 13 - (k * 1000003 + m + 13) = (h - k) * 1000003 := by clear e hq h0 k0; omega
  rw [h1] at hq
  obtain ⟨z, hz⟩ := inv_mod hq
  clear hq h1 e
  omega
theorem hstep_ne {h x y : Int} (e : hstep h x = hstep h y) : x % 2147483647 = y % 2147483647 := by
  unfold hstep at e
  rw [modI_of (by omega) (by omega), modI_of (by omega) (by omega)] at e
  omega
theorem hfold_inj : ∀ (l : List Int) (h k : Int), 0 ≤ h ∧ h ≤ 2147483646 → 0 ≤ k ∧ k ≤ 2147483646 → l.foldl hstep h = l.foldl hstep k → h = k
  | [], _, _, _, _, e => e
  | v :: l, h, k, h0, k0, e => hstep_inj h0 k0 (hfold_inj l _ _ (hstep_bd h v) (hstep_bd k v) e)
theorem hashF_fold (l : List Int) : hashF l = l.foldl hstep 11 := rfl
theorem hashF_ne {a b : List Int} {x y : Int} (h : x % 2147483647 ≠ y % 2147483647) : hashF (a ++ x :: b) ≠ hashF (a ++ y :: b) := by
  intro e
  rw [hashF_fold, hashF_fold, List.foldl_append, List.foldl_append, List.foldl_cons, List.foldl_cons] at e
  exact h (hstep_ne (hfold_inj b _ _ (hstep_bd _ _) (hstep_bd _ _) e))
theorem set_split {l : List Int} {i : Nat} {y : Int} (h : l[i]? = some y) (x : Int) : l = l.take i ++ y :: l.drop (i + 1) ∧ l.set i x = l.take i ++ x :: l.drop (i + 1) := by
  have hl := get_lt h
  rw [List.getElem?_eq_getElem hl] at h
  injection h with h
  refine ⟨?_, ?_⟩
  · rw [← h, ← List.drop_eq_getElem_cons hl, List.take_append_drop]
  · rw [List.set_eq_take_append_cons_drop, if_pos hl]
theorem keyedF_set {l : List Int} {i : Nat} {k x y : Int} (h : l[i]? = some y) (hne : x % 2147483647 ≠ y % 2147483647) : keyedF k (l.set i x) ≠ keyedF k l := by
  obtain ⟨h1, h2⟩ := set_split h x
  have h3 := hashF_ne (a := k :: l.take i) (b := l.drop (i + 1) ++ [k]) hne
  intro e
  apply h3
  have e1 : keyedF k (l.set i x) = hashF (k :: l.take i ++ x :: (l.drop (i + 1) ++ [k])) := by unfold keyedF; rw [h2]; simp
  have e2 : keyedF k l = hashF (k :: l.take i ++ y :: (l.drop (i + 1) ++ [k])) := by
    unfold keyedF
    conv => lhs; rw [h1]
    simp
  rw [← e1, ← e2, e]
theorem digestF_set {l : List Int} {i : Nat} {k x y : Int} (h : l[i]? = some y) (hne : x % 2147483647 ≠ y % 2147483647) : digestF k (l.set i x) ≠ digestF k l := by
  obtain ⟨h1, h2⟩ := set_split h x
  have h3 := hashF_ne (a := 7 :: k :: l.take i) (b := l.drop (i + 1)) hne
  intro e
  apply h3
  have e1 : digestF k (l.set i x) = hashF (7 :: k :: l.take i ++ x :: l.drop (i + 1)) := by unfold digestF; rw [h2]; simp
  have e2 : digestF k l = hashF (7 :: k :: l.take i ++ y :: l.drop (i + 1)) := by
    unfold digestF
    conv => lhs; rw [h1]
    simp
  rw [← e1, ← e2, e]
theorem digestF_id {l : List Int} {j k : Int} (hne : j % 2147483647 ≠ k % 2147483647) : digestF j l ≠ digestF k l := hashF_ne (a := [7]) (b := l) hne
end Go.Proofs.Ythjdigiaajdnbaa
