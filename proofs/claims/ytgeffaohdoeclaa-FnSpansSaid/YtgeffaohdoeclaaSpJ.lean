/- What JoinAll computes, as a plain function on lists of spans. No program. -/
import Derived.Test.YtgeffaohdoeclaaStr
import Derived.Test.YtgeffaohdoeclaaSpan
namespace Go.Proofs.Ytgeffaohdoeclaa
open Go.RowKit Go.WideShapes Go.ChangeShapes Go.Deep
set_option linter.unusedSimpArgs false
set_option linter.unusedVariables false
/-- do x and s stand apart? -/
def apart (x s : Sp) : Bool := decide (x.t + 1 < s.f) || decide (s.t + 1 < x.f)
/-- one element x of the old list: either it is kept, or s takes it in -/
def putStep (p : List Sp × Sp) (x : Sp) : List Sp × Sp := if apart x p.2 = true then (p.1 ++ [x], p.2) else (p.1, ⟨min p.2.f x.f, max p.2.t x.t⟩)
def putN (l : List Sp) (s : Sp) : List Sp × Sp := l.foldl putStep ([], s)
def leadF (l : List Sp) (f : Int) : Nat := (l.takeWhile fun x => decide (x.f < f)).length
def putF (l : List Sp) (s : Sp) : List Sp := (putN l s).1.take (leadF (putN l s).1 (putN l s).2.f) ++ [(putN l s).2] ++ (putN l s).1.drop (leadF (putN l s).1 (putN l s).2.f)
def okSp (x : Sp) : Bool := isSp x.f x.t
def joinF (l : List Sp) : List Sp := l.foldl (fun out s => if okSp s = true then putF out s else out) []
theorem joinF_snoc (l : List Sp) (x : Sp) : joinF (l ++ [x]) = if okSp x = true then putF (joinF l) x else joinF l := by simp [joinF]
theorem joinF_step {l : List Sp} {k : Nat} {x : Sp} (h : l[k]? = some x) : joinF (l.take (k + 1)) = if okSp x = true then putF (joinF (l.take k)) x else joinF (l.take k) := by rw [take_snoc_ h, joinF_snoc]
theorem putN_step {l : List Sp} {s x : Sp} {k : Nat} (h : l[k]? = some x) : putN (l.take (k + 1)) s = putStep (putN (l.take k) s) x := by rw [take_snoc_ h]; simp [putN]
theorem okSp_iff {x : Sp} : okSp x = true ↔ 0 ≤ x.f ∧ x.f ≤ x.t ∧ x.t ≤ 10000 := isSp_true
/-- all spans of l are spans -/
def AllOk (l : List Sp) : Prop := ∀ x ∈ l, okSp x = true
theorem putStep_ok {p : List Sp × Sp} {x : Sp} (h1 : AllOk p.1) (h2 : okSp p.2 = true) (hx : okSp x = true) : AllOk (putStep p x).1 ∧ okSp (putStep p x).2 = true := by
  unfold putStep
  split
  · refine ⟨fun y hy => ?_, h2⟩
    rcases List.mem_append.1 hy with h | h
    · exact h1 y h
    · simp at h; exact h ▸ hx
  · refine ⟨h1, ?_⟩
    rw [okSp_iff] at *
    simp only
    omega
theorem putN_ok {l : List Sp} {s : Sp} (hl : AllOk l) (hs : okSp s = true) : AllOk (putN l s).1 ∧ okSp (putN l s).2 = true := by
  have key : ∀ (l : List Sp) (p : List Sp × Sp), AllOk l → AllOk p.1 → okSp p.2 = true → AllOk (l.foldl putStep p).1 ∧ okSp (l.foldl putStep p).2 = true := by
    intro l
    induction l with
    | nil => intro p _ h1 h2; exact ⟨h1, h2⟩
    | cons x l ih =>
      intro p hl h1 h2
      obtain ⟨a, b⟩ := putStep_ok h1 h2 (hl x (by simp))
      exact ih _ (fun y hy => hl y (by simp [hy])) a b
  exact key l _ hl (fun y hy => absurd hy (by simp)) hs
theorem putN_len {l : List Sp} {s : Sp} : (putN l s).1.length ≤ l.length := by
  have key : ∀ (l : List Sp) (p : List Sp × Sp), (l.foldl putStep p).1.length ≤ p.1.length + l.length := by
    intro l
    induction l with
    | nil => intro p; simp
    | cons x l ih =>
      intro p
      have h := ih (putStep p x)
      have h2 : (putStep p x).1.length ≤ p.1.length + 1 := by unfold putStep; split <;> simp
      rw [List.foldl_cons, List.length_cons]
      omega
  simpa [putN] using key l ([], s)
theorem leadF_le (l : List Sp) (f : Int) : leadF l f ≤ l.length := by
  unfold leadF
  exact (List.takeWhile_prefix _).length_le
theorem putF_ok {l : List Sp} {s : Sp} (hl : AllOk l) (hs : okSp s = true) : AllOk (putF l s) := by
  obtain ⟨a, b⟩ := putN_ok hl hs
  intro y hy
  unfold putF at hy
  simp only [List.mem_append, List.mem_singleton] at hy
  rcases hy with (h | h) | h
  · exact a y (List.mem_of_mem_take h)
  · exact h ▸ b
  · exact a y (List.mem_of_mem_drop h)
theorem putF_len {l : List Sp} {s : Sp} : (putF l s).length ≤ l.length + 1 := by
  have h := putN_len (l := l) (s := s)
  unfold putF
  simp only [List.length_append, List.length_take, List.length_drop, List.length_singleton]
  have := leadF_le (putN l s).1 (putN l s).2.f
  omega
theorem joinF_ok (l : List Sp) : AllOk (joinF l) := by
  have key : ∀ (l acc : List Sp), AllOk acc → AllOk (l.foldl (fun out s => if okSp s = true then putF out s else out) acc) := by
    intro l
    induction l with
    | nil => intro acc h; exact h
    | cons x l ih =>
      intro acc h
      rw [List.foldl_cons]
      apply ih
      split
      · rename_i hx; exact putF_ok h hx
      · exact h
  exact key l [] (fun y hy => absurd hy (by simp))
theorem joinF_len (l : List Sp) : (joinF l).length ≤ l.length := by
  have key : ∀ (l acc : List Sp), (l.foldl (fun out s => if okSp s = true then putF out s else out) acc).length ≤ acc.length + l.length := by
    intro l
    induction l with
    | nil => intro acc; simp
    | cons x l ih =>
      intro acc
      rw [List.foldl_cons, List.length_cons]
      have h := ih (if okSp x = true then putF acc x else acc)
      have h2 : (if okSp x = true then putF acc x else acc).length ≤ acc.length + 1 := by
        split
        · exact putF_len
        · omega
      omega
  simpa [joinF] using key l []
theorem leadF_more {l : List Sp} {f : Int} {k : Nat} {x : Sp} (h : ∀ j y, j < k → l[j]? = some y → y.f < f) (hx : l[k]? = some x) (hf : x.f < f) : ∀ j y, j < k + 1 → l[j]? = some y → y.f < f := by
  intro j y hj hy
  rcases Nat.lt_or_ge j k with h1 | h1
  · exact h j y h1 hy
  · obtain rfl : j = k := by omega
    rw [hx] at hy
    injection hy with e
    exact e ▸ hf
theorem leadF_stop {l : List Sp} {f : Int} {k : Nat} (hk : k ≤ l.length) (h : ∀ j y, j < k → l[j]? = some y → y.f < f) (hs : ∀ x, l[k]? = some x → ¬ x.f < f) : leadF l f = k := by
  induction l generalizing k with
  | nil => simp at hk; subst hk; rfl
  | cons y l ih =>
    cases k with
    | zero =>
      have := hs y rfl
      unfold leadF
      rw [List.takeWhile_cons_of_neg (by simpa using this)]
      rfl
    | succ k =>
      have h0 := h 0 y (by omega) rfl
      unfold leadF
      rw [List.takeWhile_cons_of_pos (by simpa using h0), List.length_cons]
      have := ih (k := k) (by simpa using hk) (fun j z hj hz => h (j + 1) z (by omega) (by simpa using hz)) (fun x hx => hs x (by simpa using hx))
      unfold leadF at this
      rw [this]
end Go.Proofs.Ytgeffaohdoeclaa
