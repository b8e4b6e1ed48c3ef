/- What RedactedDigest says, in plain words. No condition. -/
import Derived.Test.YthjdigiaajdnbaaIsR
import Derived.Test.YthjdigiaajdnbaaCnt
import Derived.Test.YthjdigiaajdnbaaIdx
import Derived.Test.YthjdigiaajdnbaaDocD
namespace Go.Proofs.Ythjdigiaajdnbaa
open Go.RowKit Go.WideShapes Go.ChangeShapes Go.Deep
set_option linter.unusedSimpArgs false
set_option linter.unusedVariables false
set_option maxRecDepth 1000000
def rdL (m : Int) (at_ : Nat) : List Bool → List ByteArray → List Int → List (List Int) → List Int
  | b :: bs, p :: ps, s :: ss, d :: ds => (if b then partF m p s else d.getD at_ 0) :: rdL m at_ bs ps ss ds
  | _, _, _, _ => []
theorem rdL_at {m : Int} {at_ : Nat} : ∀ {k : Nat} {bs : List Bool} {ps : List ByteArray} {ss : List Int} {ds : List (List Int)} {b : Bool} {p : ByteArray} {s : Int} {d : List Int}, bs[k]? = some b → ps[k]? = some p → ss[k]? = some s → ds[k]? = some d → (rdL m at_ bs ps ss ds)[k]? = some (if b then partF m p s else d.getD at_ 0) := by
  intro k
  induction k with
  | zero =>
    intro bs ps ss ds b p s d h1 h2 h3 h4
    match bs, ps, ss, ds, h1, h2, h3, h4 with
    | _ :: _, _ :: _, _ :: _, _ :: _, h1, h2, h3, h4 =>
      simp at h1 h2 h3 h4
      subst h1 h2 h3 h4
      simp [rdL]
  | succ k ih =>
    intro bs ps ss ds b p s d h1 h2 h3 h4
    match bs, ps, ss, ds, h1, h2, h3, h4 with
    | _ :: _, _ :: _, _ :: _, _ :: _, h1, h2, h3, h4 =>
      simp at h1 h2 h3 h4
      simpa [rdL] using ih h1 h2 h3 h4
theorem rdL_len {m : Int} {at_ : Nat} : ∀ {n : Nat} {bs : List Bool} {ps : List ByteArray} {ss : List Int} {ds : List (List Int)}, bs.length = n → ps.length = n → ss.length = n → ds.length = n → (rdL m at_ bs ps ss ds).length = n := by
  intro n
  induction n with
  | zero =>
    intro bs ps ss ds h1 _ _ _
    have := List.eq_nil_of_length_eq_zero h1
    subst this
    simp [rdL]
  | succ n ih =>
    intro bs ps ss ds h1 h2 h3 h4
    match bs, ps, ss, ds, h1, h2, h3, h4 with
    | _ :: _, _ :: _, _ :: _, _ :: _, h1, h2, h3, h4 => simp at h1 h2 h3 h4; simp [rdL, ih h1 h2 h3 h4]
theorem rdL_I64 {m : Int} {at_ : Nat} : ∀ {bs : List Bool} {ps : List ByteArray} {ss : List Int} {ds : List (List Int)}, (∀ x ∈ ds, ∀ y ∈ x, I64 y) → ∀ x ∈ rdL m at_ bs ps ss ds, I64 x := by
  intro bs
  induction bs with
  | nil => intro ps ss ds _ x hx; simp [rdL] at hx
  | cons b bs ih =>
    intro ps ss ds hI x hx
    match ps, ss, ds, hI, hx with
    | [], _, _, _, hx => simp [rdL] at hx
    | _ :: _, [], _, _, hx => simp [rdL] at hx
    | _ :: _, _ :: _, [], _, hx => simp [rdL] at hx
    | p :: ps, s :: ss, d :: ds, hI, hx =>
      simp only [rdL, List.mem_cons] at hx
      rcases hx with rfl | hx
      · split
        · have := partF_bd m p s
          exact ⟨by omega, by omega⟩
        · rw [List.getD_eq_getElem?_getD]
          cases hq : d[at_]? with
          | none => exact ⟨by simp, by simp⟩
          | some y => exact hI d List.mem_cons_self y (List.mem_of_getElem? hq)
      · exact ih (fun z hz => hI z (List.mem_cons_of_mem _ hz)) x hx
theorem rd_I64 {t m : Int} {at_ : Nat} {bs : List Bool} {ps : List ByteArray} {ss : List Int} {ds : List (List Int)} (ht : I64 t) (hI : ∀ x ∈ ds, ∀ y ∈ x, I64 y) : ∀ x ∈ t :: rdL m at_ bs ps ss ds, I64 x := by
  intro x hx
  rcases List.mem_cons.1 hx with rfl | hx
  · exact ht
  · exact rdL_I64 hI x hx
def redDig (m t : Int) (ms : List Int) (bs : List Bool) (ps : List ByteArray) (ss : List Int) (ds : List (List Int)) : Int :=
  if isRed t ms.length bs ps ss ds = false then -1 else if ms.length ≤ idxF ms m ∧ cntF bs < bs.length then -1 else digestF m (t :: rdL m (idxF ms m) bs ps ss ds)
theorem redDig_no {m t : Int} {ms : List Int} {bs : List Bool} {ps : List ByteArray} {ss : List Int} {ds : List (List Int)} (h : isRed t ms.length bs ps ss ds = false) : redDig m t ms bs ps ss ds = -1 := if_pos h
theorem redDig_hid {m t : Int} {ms : List Int} {bs : List Bool} {ps : List ByteArray} {ss : List Int} {ds : List (List Int)} (h : ms.length ≤ idxF ms m) (h2 : cntF bs < bs.length) : redDig m t ms bs ps ss ds = -1 := by
  unfold redDig
  split
  · rfl
  · exact if_pos ⟨h, h2⟩
theorem redDig_yes {m t : Int} {ms : List Int} {bs : List Bool} {ps : List ByteArray} {ss : List Int} {ds : List (List Int)} (h : isRed t ms.length bs ps ss ds = true) (h2 : ¬ (ms.length ≤ idxF ms m ∧ cntF bs < bs.length)) : redDig m t ms bs ps ss ds = digestF m (t :: rdL m (idxF ms m) bs ps ss ds) := by
  unfold redDig
  rw [if_neg (by simp [h]), if_neg h2]
theorem cntF_all : ∀ {bs : List Bool}, ¬ cntF bs < bs.length → ∀ {k : Nat} {b : Bool}, bs[k]? = some b → b = true := by
  intro bs
  induction bs with
  | nil => intro _ k b hk; simp at hk
  | cons c bs ih =>
    intro h k b hk
    have h1 := cntF_le bs
    cases c with
    | false => exfalso; apply h; simp [cntF] at h1 ⊢; omega
    | true =>
      cases k with
      | zero => simp at hk; first | exact hk | exact hk.symm
      | succ k =>
        simp at hk
        exact ih (by intro h2; apply h; simp [cntF] at h2 ⊢; omega) hk
theorem cntF_lt : ∀ {bs : List Bool}, cntF bs < bs.length → ∃ i, i < bs.length ∧ bs[i]? = some false := by
  intro bs
  induction bs with
  | nil => intro h; simp [cntF] at h
  | cons b bs ih =>
    intro h
    cases b with
    | false => exact ⟨0, by simp, rfl⟩
    | true =>
      obtain ⟨i, hi, hf⟩ := ih (by simp [cntF] at h ⊢; omega)
      exact ⟨i + 1, by simp; omega, by simpa using hf⟩
theorem okAll_at {nm : Nat} {k : Nat} {bs : List Bool} {ps : List ByteArray} {ss : List Int} {ds : List (List Int)} {b : Bool} {p : ByteArray} {s : Int} {d : List Int} (h : okAll nm bs ps ss ds = true) (h1 : bs[k]? = some b) (h2 : ps[k]? = some p) (h3 : ss[k]? = some s) (h4 : ds[k]? = some d) : okAt nm b p s d = true := by
  cases hq : okAt nm b p s d with
  | true => rfl
  | false => rw [okAll_no h1 h2 h3 h4 hq] at h; cases h
theorem isRed_all {t : Int} {nm : Nat} {bs : List Bool} {ps : List ByteArray} {ss : List Int} {ds : List (List Int)} (h : isRed t nm bs ps ss ds = true) :
    (1 ≤ bs.length ∧ bs.length ≤ 6) ∧ ps.length = bs.length ∧ ss.length = bs.length ∧ ds.length = bs.length ∧ okAll nm bs ps ss ds = true := by
  unfold isRed at h
  simp only [Bool.and_eq_true, decide_eq_true_eq, inR_true] at h
  obtain ⟨⟨⟨⟨⟨h1, h2⟩, h3⟩, h4⟩, h5⟩, _⟩ := h
  exact ⟨by omega, h2, h3, h4, h5⟩
theorem okAt_f {nm : Nat} {p : ByteArray} {s : Int} {d : List Int} (h : okAt nm false p s d = true) : d.length = nm := by
  simp [okAt] at h
  exact h.1.1
end Go.Proofs.Ythjdigiaajdnbaa
