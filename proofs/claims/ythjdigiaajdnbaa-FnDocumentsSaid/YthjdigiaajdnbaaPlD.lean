/- Plain law of documents: a document with another part of the same length has another digest (for the parts that are drawn). No program. -/
import Derived.Test.YthjdigiaajdnbaaPlH
import Derived.Test.YthjdigiaajdnbaaDr6b
import Derived.Test.YthjdigiaajdnbaaRpl
namespace Go.Proofs.Ythjdigiaajdnbaa
open Go.RowKit Go.WideShapes Go.ChangeShapes Go.Deep
set_option linter.unusedSimpArgs false
set_option linter.unusedVariables false
set_option maxRecDepth 1000000
theorem hstep_b {h v : Int} (h0 : 0 ≤ v) (h1 : v ≤ 255) : hstep h v = (h * 1000003 + v + 13) % 2147483647 := by
  unfold hstep
  rw [modI_of (by omega) (by omega)]
  omega
theorem part_fold (m : Int) (s : ByteArray) (salt : Int) : partF m s salt = (bytesL s).foldl hstep (hashF [7, m, salt]) := rfl
theorem one_ne {H a b : Int} (ha : 0 ≤ a ∧ a ≤ 255) (hb : 0 ≤ b ∧ b ≤ 255) (h : a ≠ b) : [a].foldl hstep H ≠ [b].foldl hstep H := by
  intro e
  simp only [List.foldl] at e
  rw [hstep_b ha.1 ha.2, hstep_b hb.1 hb.2] at e
  omega
theorem two_ne {H : Int} : [97, 98].foldl hstep H ≠ [110, 111].foldl hstep H := by
  intro e
  simp only [List.foldl] at e
  rw [hstep_b (h := H) (by omega) (by omega), hstep_b (h := H) (by omega) (by omega), hstep_b (by omega) (by omega), hstep_b (by omega) (by omega)] at e
  omega
theorem by_a : bytesL ⟨#[97]⟩ = [97] := rfl
theorem by_b : bytesL ⟨#[98]⟩ = [98] := rfl
theorem by_x : bytesL ⟨#[120]⟩ = [120] := rfl
theorem by_ab : bytesL ⟨#[97, 98]⟩ = [97, 98] := rfl
theorem by_no : bytesL ⟨#[110, 111]⟩ = [110, 111] := rfl
set_option maxHeartbeats 2000000 in
theorem pt_ne {part x : ByteArray} (h1 : part ∈ TX) (h2 : OkP x) (hs : x.size = part.size) (hne : part ≠ x) (m salt : Int) : partF m part salt ≠ partF m x salt := by
  have h3 : x ∈ TX ∨ x = ⟨#[120]⟩ := by
    rcases h2 with h | h | h
    · exact .inl h
    · exact .inr h
    · have := TX_size h1; omega
  clear h2
  rw [part_fold, part_fold]
  generalize hashF [7, m, salt] = H
  simp only [TX, List.mem_cons, List.not_mem_nil, or_false] at h1 h3
  rcases h1 with rfl | rfl | rfl | rfl | rfl | rfl | rfl <;> rcases h3 with (rfl | rfl | rfl | rfl | rfl | rfl | rfl) | rfl <;> first
    | exact absurd rfl hne
    | exact absurd hs (by decide)
    | (rw [by_a, by_b]; exact one_ne (by omega) (by omega) (by omega))
    | (rw [by_b, by_a]; exact one_ne (by omega) (by omega) (by omega))
    | (rw [by_a, by_x]; exact one_ne (by omega) (by omega) (by omega))
    | (rw [by_b, by_x]; exact one_ne (by omega) (by omega) (by omega))
    | (rw [by_ab, by_no]; exact two_ne)
    | (rw [by_no, by_ab]; exact two_ne.symm)
theorem partsL_set {M : Int} {part : ByteArray} : ∀ {ps : List ByteArray} {ss : List Int} {i : Nat} {x : Int}, ss[i]? = some x → partsL M (ps.set i part) ss = (partsL M ps ss).set i (partF M part x) := by
  intro ps
  induction ps with
  | nil => intro ss i x _; simp [partsL]
  | cons p ps ih =>
    intro ss i x h
    cases ss with
    | nil => simp at h
    | cons s ss =>
      cases i with
      | zero => simp at h; subst h; simp [partsL]
      | succ i =>
        have := @ih ss i x (by simpa using h)
        simp only [partsL] at this
        simp [partsL, this]
theorem isDoc_back {t : Int} {ps : List ByteArray} {ss : List Int} {i : Nat} {old part : ByteArray} (hi : ps[i]? = some old) (hs : old.size = part.size) (hd : isDoc t (ps.set i part) ss = true) : isDoc t ps ss = true := by
  obtain ⟨h1, h2, h3, h4, h5⟩ := isDoc_all hd
  rw [List.length_set] at h2 h3
  refine isDoc_of h1 h2 h3 ?_ h5
  intro p hp
  obtain ⟨j, hj⟩ := List.mem_iff_getElem?.1 hp
  by_cases hij : i = j
  · subst hij
    rw [hi] at hj
    injection hj with hj
    subst hj
    have := h4 part (List.mem_of_getElem? (i := i) (by rw [List.getElem?_set_self (get_lt hi)]))
    omega
  · exact h4 p (List.mem_of_getElem? (i := j) (by rw [List.getElem?_set_ne hij]; exact hj))
theorem dd_law {t M : Int} {ps : List ByteArray} {ss : List Int} {i : Nat} {old part : ByteArray} (hi : ps[i]? = some old) (hp : part ∈ TX) (ho : OkP old) (hs : old.size = part.size) (hne : part ≠ old) (hd : isDoc t (ps.set i part) ss = true) : docDig M t (ps.set i part) ss ≠ docDig M t ps ss := by
  have hd0 := isDoc_back hi hs hd
  obtain ⟨_, _, h3, _, _⟩ := isDoc_all hd0
  have hl := get_lt hi
  have hx : ss[i]? = some ss[i] := List.getElem?_eq_getElem (by omega)
  unfold docDig
  rw [if_pos hd, if_pos hd0, partsL_set hx, ← List.set_cons_succ]
  refine digestF_set (y := partF M old ss[i]) ?_ ?_
  · rw [List.getElem?_cons_succ]; exact partsL_at hi hx
  · have h1 := partF_bd M part ss[i]
    have h2 := partF_bd M old ss[i]
    have h3 := pt_ne hp ho hs hne M ss[i]
    omega
theorem docDig_pos {t M : Int} {ps : List ByteArray} {ss : List Int} (h : isDoc t ps ss = true) : ¬ docDig M t ps ss < 0 := by
  unfold docDig
  rw [if_pos h]
  have := digestF_bd M (t :: partsL M ps ss)
  omega
theorem md_doc {t seed : Int} {ps : List ByteArray} (h : mdOk t ps seed = true) : isDoc t ps (saltF t seed ps.length) = true := by
  unfold mdOk at h
  rw [Bool.and_eq_true] at h
  exact h.1
theorem rp_yes {t i : Int} {ps : List ByteArray} {ss : List Int} {part : ByteArray} (h : rpOk t ps ss i part = true) : 0 ≤ i ∧ i < ps.length ∧ isDoc t (ps.set i.toNat part) ss = true ∧ rpP t ps ss i part = ps.set i.toNat part := by
  have h0 := h
  unfold rpOk at h
  rw [Bool.and_eq_true] at h
  have h1 := inR_true.1 h.1
  exact ⟨h1.1, by omega, h.2, by unfold rpP; rw [if_pos h0]⟩
theorem rp_no {t i : Int} {ps : List ByteArray} {ss : List Int} {part : ByteArray} (h : rpOk t ps ss i part = false) : rpP t ps ss i part = ps := by unfold rpP; rw [if_neg (by simp [h])]
end Go.Proofs.Ythjdigiaajdnbaa
