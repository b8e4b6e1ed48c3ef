/- Plain laws of lists of spans: what is joined stands in order with gaps and has the times of its parts; what meets has the times of both. No program. -/
import Derived.Test.YtgeffaohdoeclaaSpMA
import Derived.Test.YtgeffaohdoeclaaSpTo
import Derived.Test.YtgeffaohdoeclaaSpCo
namespace Go.Proofs.Ytgeffaohdoeclaa
open Go.RowKit Go.WideShapes Go.ChangeShapes Go.Deep
set_option linter.unusedSimpArgs false
set_option linter.unusedVariables false
/-- y lies behind x, with a gap -/
def Gap (x y : Sp) : Prop := x.t + 1 < y.f
def has (x : Sp) (t : Int) : Prop := x.f ≤ t ∧ t ≤ x.t
def hasL (l : List Sp) (t : Int) : Prop := ∃ x ∈ l, has x t
theorem put_inv : ∀ (l P : List Sp) (S : Sp), AllOk l → AllOk P → okSp S = true → l.Pairwise Gap → P.Pairwise Gap → (∀ x ∈ P, ∀ y ∈ l, Gap x y) → (∀ x ∈ P, Gap x S ∨ Gap S x) →
    (l.foldl putStep (P, S)).1.Pairwise Gap ∧ (∀ x ∈ (l.foldl putStep (P, S)).1, Gap x (l.foldl putStep (P, S)).2 ∨ Gap (l.foldl putStep (P, S)).2 x) ∧
    ∀ t, (hasL (l.foldl putStep (P, S)).1 t ∨ has (l.foldl putStep (P, S)).2 t ↔ (hasL P t ∨ has S t) ∨ hasL l t) := by
  intro l
  induction l with
  | nil => intro P S _ _ _ _ h1 _ h2; exact ⟨h1, h2, fun t => by simp [hasL]⟩
  | cons y l ih =>
    intro P S hl hP hS hg hPg hPl hPS
    have hyok := okSp_iff.1 (hl y (by simp))
    have hSok := okSp_iff.1 hS
    rw [List.pairwise_cons] at hg
    rw [List.foldl_cons]
    by_cases ha : apart y S = true
    · have e : putStep (P, S) y = (P ++ [y], S) := by unfold putStep; rw [if_pos ha]
      rw [e]
      have hap : Gap y S ∨ Gap S y := by
        unfold apart at ha
        rw [Bool.or_eq_true, decide_eq_true_eq, decide_eq_true_eq] at ha
        exact ha
      obtain ⟨h1, h2, h3⟩ := ih (P ++ [y]) S (fun x hx => hl x (by simp [hx])) (fun x hx => by
          rcases List.mem_append.1 hx with h | h
          · exact hP x h
          · simp at h; exact h ▸ hl y (by simp)) hS hg.2 (List.pairwise_append.2 ⟨hPg, by simp, fun x hx z hz => by simp at hz; exact hz ▸ hPl x hx y (by simp)⟩)
        (fun x hx z hz => by
          rcases List.mem_append.1 hx with h | h
          · exact hPl x h z (by simp [hz])
          · simp at h; exact h ▸ hg.1 z hz)
        (fun x hx => by
          rcases List.mem_append.1 hx with h | h
          · exact hPS x h
          · simp at h; exact h ▸ hap)
      refine ⟨h1, h2, fun t => (h3 t).trans ?_⟩
      simp only [hasL, List.mem_append, List.mem_cons, List.not_mem_nil, or_false]
      constructor
      · rintro ((⟨x, hx | rfl, hxt⟩ | h) | ⟨x, hx, hxt⟩)
        · exact .inl (.inl ⟨x, hx, hxt⟩)
        · exact .inr ⟨_, .inl rfl, hxt⟩
        · exact .inl (.inr h)
        · exact .inr ⟨x, .inr hx, hxt⟩
      · rintro ((⟨x, hx, hxt⟩ | h) | ⟨x, rfl | hx, hxt⟩)
        · exact .inl (.inl ⟨x, .inl hx, hxt⟩)
        · exact .inl (.inr h)
        · exact .inl (.inl ⟨_, .inr rfl, hxt⟩)
        · exact .inr ⟨x, hx, hxt⟩
    · have e : putStep (P, S) y = (P, ⟨min S.f y.f, max S.t y.t⟩) := by unfold putStep; rw [if_neg ha]
      rw [e]
      have hna : S.f ≤ y.t + 1 ∧ y.f ≤ S.t + 1 := by
        unfold apart at ha
        rw [Bool.or_eq_true, decide_eq_true_eq, decide_eq_true_eq] at ha
        omega
      obtain ⟨h1, h2, h3⟩ := ih P ⟨min S.f y.f, max S.t y.t⟩ (fun x hx => hl x (by simp [hx])) hP (okSp_iff.2 (by simp only; omega)) hg.2 hPg (fun x hx z hz => hPl x hx z (by simp [hz]))
        (fun x hx => by
          have hxy := hPl x hx y (by simp)
          have hxok := okSp_iff.1 (hP x hx)
          unfold Gap at *
          simp only
          rcases hPS x hx with h | h <;> omega)
      refine ⟨h1, h2, fun t => (h3 t).trans ?_⟩
      have hu : has ⟨min S.f y.f, max S.t y.t⟩ t ↔ has S t ∨ has y t := by unfold has; simp only; omega
      rw [hu]
      simp only [hasL, List.mem_cons]
      constructor
      · rintro ((h | h | h) | ⟨x, hx, hxt⟩)
        · exact .inl (.inl h)
        · exact .inl (.inr h)
        · exact .inr ⟨_, .inl rfl, h⟩
        · exact .inr ⟨x, .inr hx, hxt⟩
      · rintro ((h | h) | ⟨x, rfl | hx, hxt⟩)
        · exact .inl (.inl h)
        · exact .inl (.inr (.inl h))
        · exact .inl (.inr (.inr hxt))
        · exact .inr ⟨x, hx, hxt⟩
theorem putF_law {l : List Sp} {s : Sp} (hl : AllOk l) (hs : okSp s = true) (hg : l.Pairwise Gap) : (putF l s).Pairwise Gap ∧ ∀ t, hasL (putF l s) t ↔ hasL l t ∨ has s t := by
  obtain ⟨h1, h2, h3⟩ := put_inv l [] s hl (fun x hx => absurd hx (by simp)) hs hg .nil (fun x hx => absurd hx (by simp)) (fun x hx => absurd hx (by simp))
  obtain ⟨hPok, hSok⟩ := putN_ok hl hs
  unfold putF
  change (putN l s).1.Pairwise Gap at h1
  change ∀ x ∈ (putN l s).1, Gap x (putN l s).2 ∨ Gap (putN l s).2 x at h2
  change ∀ t, (hasL (putN l s).1 t ∨ has (putN l s).2 t ↔ (hasL [] t ∨ has s t) ∨ hasL l t) at h3
  generalize (putN l s).1 = P at *
  generalize (putN l s).2 = S at *
  have hSb := okSp_iff.1 hSok
  have et : P.take (leadF P S.f) = P.takeWhile (fun x => decide (x.f < S.f)) := by
    unfold leadF
    conv => lhs; arg 2; rw [← List.takeWhile_append_dropWhile (p := fun x : Sp => decide (x.f < S.f)) (l := P)]
    rw [List.take_left']
    rfl
  have ed : P.drop (leadF P S.f) = P.dropWhile (fun x => decide (x.f < S.f)) := by
    unfold leadF
    conv => lhs; arg 2; rw [← List.takeWhile_append_dropWhile (p := fun x : Sp => decide (x.f < S.f)) (l := P)]
    rw [List.drop_left']
    rfl
  have hT : ∀ x ∈ P.takeWhile (fun x => decide (x.f < S.f)), Gap x S := by
    intro x hx
    have hxP : x ∈ P := (List.takeWhile_prefix _).subset hx
    have hlt : x.f < S.f := by
      have hall := List.all_takeWhile (p := fun x : Sp => decide (x.f < S.f)) (l := P)
      have := List.all_eq_true.1 hall x hx
      simpa using this
    rcases h2 x hxP with h | h
    · exact h
    · unfold Gap at h; omega
  have hD : ∀ x ∈ P.dropWhile (fun x => decide (x.f < S.f)), Gap S x := by
    have hsub : (P.dropWhile (fun x => decide (x.f < S.f))).Sublist P := List.dropWhile_sublist _
    have hpw := h1.sublist hsub
    cases hd : P.dropWhile (fun x => decide (x.f < S.f)) with
    | nil => simp
    | cons z r =>
      rw [hd] at hpw hsub
      have hzP : z ∈ P := hsub.subset (by simp)
      have hz : ¬ z.f < S.f := by
        have hne : P.dropWhile (fun x => decide (x.f < S.f)) ≠ [] := by rw [hd]; simp
        have := List.head_dropWhile_not (fun x : Sp => decide (x.f < S.f)) hne
        simp only [hd, List.head_cons] at this
        simpa using this
      have hzok := okSp_iff.1 (hPok z hzP)
      have hzg : Gap S z := by
        rcases h2 z hzP with h | h
        · unfold Gap at h; omega
        · exact h
      intro x hx
      rcases List.mem_cons.1 hx with rfl | hx
      · exact hzg
      · have := (List.pairwise_cons.1 hpw).1 x hx
        unfold Gap at *
        omega
  rw [et, ed]
  refine ⟨?_, fun t => ?_⟩
  · rw [List.append_assoc, List.pairwise_append]
    refine ⟨h1.sublist (List.takeWhile_sublist _), ?_, ?_⟩
    · rw [List.singleton_append, List.pairwise_cons]
      exact ⟨hD, h1.sublist (List.dropWhile_sublist _)⟩
    · intro x hx y hy
      rw [List.singleton_append, List.mem_cons] at hy
      rcases hy with rfl | hy
      · exact hT x hx
      · have a := hT x hx
        have b := hD y hy
        unfold Gap at *
        omega
  · have hsplit : hasL P t ↔ hasL (P.takeWhile fun x => decide (x.f < S.f)) t ∨ hasL (P.dropWhile fun x => decide (x.f < S.f)) t := by
      conv => lhs; rw [← List.takeWhile_append_dropWhile (p := fun x : Sp => decide (x.f < S.f)) (l := P)]
      simp only [hasL, List.mem_append]
      constructor
      · rintro ⟨x, h | h, hx⟩
        · exact .inl ⟨x, h, hx⟩
        · exact .inr ⟨x, h, hx⟩
      · rintro (⟨x, h, hx⟩ | ⟨x, h, hx⟩)
        · exact ⟨x, .inl h, hx⟩
        · exact ⟨x, .inr h, hx⟩
    have h4 := h3 t
    rw [hsplit] at h4
    have h5 : hasL (P.takeWhile (fun x => decide (x.f < S.f)) ++ [S] ++ P.dropWhile (fun x => decide (x.f < S.f))) t ↔ (hasL (P.takeWhile fun x => decide (x.f < S.f)) t ∨ hasL (P.dropWhile fun x => decide (x.f < S.f)) t) ∨ has S t := by
      simp only [hasL, List.mem_append, List.mem_singleton]
      constructor
      · rintro ⟨x, (h | rfl) | h, hx⟩
        · exact .inl (.inl ⟨x, h, hx⟩)
        · exact .inr hx
        · exact .inl (.inr ⟨x, h, hx⟩)
      · rintro ((⟨x, h, hx⟩ | ⟨x, h, hx⟩) | h)
        · exact ⟨x, .inl (.inl h), hx⟩
        · exact ⟨x, .inr h, hx⟩
        · exact ⟨S, .inl (.inr rfl), h⟩
    rw [h5, h4]
    simp [hasL, or_comm]
theorem joinF_gen : ∀ (l out : List Sp), AllOk out → out.Pairwise Gap →
    AllOk (l.foldl (fun out s => if okSp s = true then putF out s else out) out) ∧ (l.foldl (fun out s => if okSp s = true then putF out s else out) out).Pairwise Gap ∧
    ∀ t, (hasL (l.foldl (fun out s => if okSp s = true then putF out s else out) out) t ↔ hasL out t ∨ ∃ x ∈ l, okSp x = true ∧ has x t) := by
  intro l
  induction l with
  | nil => intro out h1 h2; exact ⟨h1, h2, fun t => by simp⟩
  | cons s l ih =>
    intro out h1 h2
    rw [List.foldl_cons]
    by_cases hs : okSp s = true
    · rw [if_pos hs]
      obtain ⟨a, b⟩ := putF_law h1 hs h2
      obtain ⟨c, d, e⟩ := ih _ (putF_ok h1 hs) a
      refine ⟨c, d, fun t => ?_⟩
      rw [e t, b t]
      simp only [List.mem_cons]
      constructor
      · rintro ((h | h) | ⟨x, hx, h⟩)
        · exact .inl h
        · exact .inr ⟨s, .inl rfl, hs, h⟩
        · exact .inr ⟨x, .inr hx, h⟩
      · rintro (h | ⟨x, rfl | hx, h⟩)
        · exact .inl (.inl h)
        · exact .inl (.inr h.2)
        · exact .inr ⟨x, hx, h⟩
    · rw [if_neg hs]
      obtain ⟨c, d, e⟩ := ih out h1 h2
      refine ⟨c, d, fun t => ?_⟩
      rw [e t]
      simp only [List.mem_cons]
      constructor
      · rintro (h | ⟨x, hx, h⟩)
        · exact .inl h
        · exact .inr ⟨x, .inr hx, h⟩
      · rintro (h | ⟨x, rfl | hx, h⟩)
        · exact .inl h
        · exact absurd h.1 hs
        · exact .inr ⟨x, hx, h⟩
theorem joinF_ok_ (l : List Sp) : AllOk (joinF l) := (joinF_gen l [] (fun x hx => absurd hx (by simp)) .nil).1
theorem joinF_gap (l : List Sp) : (joinF l).Pairwise Gap := (joinF_gen l [] (fun x hx => absurd hx (by simp)) .nil).2.1
theorem joinF_has (l : List Sp) (t : Int) : hasL (joinF l) t ↔ ∃ x ∈ l, okSp x = true ∧ has x t := by
  have := (joinF_gen l [] (fun x hx => absurd hx (by simp)) .nil).2.2 t
  simpa [joinF, hasL] using this
theorem joinF_next {l : List Sp} {i : Nat} {x y : Sp} (hx : (joinF l)[i]? = some x) (hy : (joinF l)[i + 1]? = some y) : x.t + 1 < y.f := by
  have h := List.pairwise_iff_getElem.1 (joinF_gap l) i (i + 1) (get_lt hx) (get_lt hy) (by omega)
  rw [List.getElem?_eq_getElem (get_lt hx)] at hx
  rw [List.getElem?_eq_getElem (get_lt hy)] at hy
  injection hx with hx
  injection hy with hy
  rw [hx, hy] at h
  exact h
theorem mtOk_one {x : Sp} {t : Int} (h0 : 0 ≤ t) (h1 : t ≤ 10000) : mtOk x.f x.t t t = true ↔ okSp x = true ∧ has x t := by
  unfold mtOk okSp has mkOk
  rw [Bool.and_eq_true, Bool.and_eq_true, isSp_true, isSp_true, decide_eq_true_eq]
  omega
theorem touchF_one {l : List Sp} {t : Int} (h0 : 0 ≤ t) (h1 : t ≤ 10000) : touchF l t t = true ↔ ∃ x ∈ l, okSp x = true ∧ has x t := by
  unfold touchF
  rw [List.any_eq_true]
  constructor
  · rintro ⟨x, hx, h⟩; exact ⟨x, hx, (mtOk_one h0 h1).1 h⟩
  · rintro ⟨x, hx, h⟩; exact ⟨x, hx, (mtOk_one h0 h1).2 h⟩
theorem touch_join {l : List Sp} {t : Int} (h0 : 0 ≤ t) (h1 : t ≤ 10000) : touchF (joinF l) t t = touchF l t t := by
  rw [Bool.eq_iff_iff, touchF_one h0 h1, touchF_one (l := l) h0 h1]
  have e := joinF_has l t
  constructor
  · rintro ⟨x, hx, _, h⟩; exact e.1 ⟨x, hx, h⟩
  · intro h'
    obtain ⟨x, hx, h⟩ := e.2 h'
    exact ⟨x, hx, joinF_ok_ l x hx, h⟩
theorem cover_one {l : List Sp} {t : Int} (h0 : 0 ≤ t) (h1 : t ≤ 10000) : coverF l t t = touchF l t t := by
  rw [Bool.eq_iff_iff, touchF_one h0 h1, ← joinF_has]
  unfold coverF
  rw [List.any_eq_true]
  constructor
  · rintro ⟨x, hx, h⟩
    refine ⟨x, hx, ?_⟩
    unfold insd at h
    simp only [Bool.and_eq_true, decide_eq_true_eq] at h
    exact ⟨h.1.2, h.2⟩
  · rintro ⟨x, hx, h⟩
    refine ⟨x, hx, ?_⟩
    have hok := joinF_ok_ l x hx
    unfold insd
    simp only [Bool.and_eq_true, decide_eq_true_eq]
    exact ⟨⟨⟨isSp_true.2 (by omega), hok⟩, h.1⟩, h.2⟩
theorem meetL_has {a b : List Sp} {t : Int} (h0 : 0 ≤ t) (h1 : t ≤ 10000) : (∃ x ∈ meetL a b, okSp x = true ∧ has x t) ↔ (∃ x ∈ a, okSp x = true ∧ has x t) ∧ ∃ y ∈ b, okSp y = true ∧ has y t := by
  unfold meetL meetRow
  simp only [List.mem_flatMap]
  constructor
  · rintro ⟨z, ⟨x, hx, y, hy, hz⟩, hzo, hzt⟩
    unfold meet1 at hz
    by_cases hm : mtOk x.f x.t y.f y.t = true
    · rw [if_pos hm] at hz
      simp only [List.mem_singleton] at hz
      subst hz
      have hf : mtF x.f x.t y.f y.t = max x.f y.f := by unfold mtF; rw [if_pos hm]
      have ht : mtT x.f x.t y.f y.t = min x.t y.t := by unfold mtT; rw [if_pos hm]
      unfold mtOk at hm
      simp only [Bool.and_eq_true] at hm
      unfold has at hzt
      simp only at hzt
      rw [hf, ht] at hzt
      exact ⟨⟨x, hx, hm.1.1, by unfold has; omega⟩, y, hy, hm.1.2, by unfold has; omega⟩
    · rw [if_neg hm] at hz
      simp at hz
  · rintro ⟨⟨x, hx, hxo, hxt⟩, y, hy, hyo, hyt⟩
    have hx' := okSp_iff.1 hxo
    have hy' := okSp_iff.1 hyo
    unfold has at hxt hyt
    have hm : mtOk x.f x.t y.f y.t = true := by
      unfold mtOk mkOk
      rw [Bool.and_eq_true, Bool.and_eq_true, decide_eq_true_eq]
      exact ⟨⟨hxo, hyo⟩, by omega⟩
    have hf : mtF x.f x.t y.f y.t = max x.f y.f := by unfold mtF; rw [if_pos hm]
    have ht : mtT x.f x.t y.f y.t = min x.t y.t := by unfold mtT; rw [if_pos hm]
    refine ⟨⟨mtF x.f x.t y.f y.t, mtT x.f x.t y.f y.t⟩, ⟨x, hx, y, hy, by unfold meet1; rw [if_pos hm]; simp⟩, okSp_iff.2 (by simp only; rw [hf, ht]; omega), by unfold has; simp only; rw [hf, ht]; omega⟩
theorem touch_meet {a b : List Sp} {t : Int} (h0 : 0 ≤ t) (h1 : t ≤ 10000) : touchF (meetAllF a b) t t = (touchF a t t && touchF b t t) := by
  unfold meetAllF
  rw [touch_join h0 h1, Bool.eq_iff_iff, Bool.and_eq_true, touchF_one h0 h1, touchF_one h0 h1, touchF_one h0 h1]
  exact meetL_has h0 h1
end Go.Proofs.Ytgeffaohdoeclaa
