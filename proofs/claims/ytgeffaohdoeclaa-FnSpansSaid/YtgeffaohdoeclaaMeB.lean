/- Contracts of BestMethod, IsAlive, BreakOf and AreMethods, of the program and of the reference. For slices of at most 2^40 methods. -/
import Derived.Test.YtgeffaohdoeclaaMeS
import Derived.Test.YtgeffaohdoeclaaQui
namespace Go.Proofs.Ytgeffaohdoeclaa
open Go.RowKit Go.WideShapes Go.ChangeShapes Go.Deep
set_option linter.unusedSimpArgs false
set_option linter.unusedVariables false
theorem findF_lt {l : List Mt} {id : Int} {k : Nat} (h : findF l id = some k) : k < l.length := by
  unfold findF at h
  rw [List.findIdx?_eq_some_iff_getElem] at h
  exact h.1
def breakF (l : List Mt) (id : Int) : Int := match findF l id with | none => 0 | some k => (l.getD k ⟨0, 0, 0, 0⟩).d
def aliveF (l : List Mt) (id t : Int) : Bool := match findF l id with | none => false | some k => decide ((l.getD k ⟨0, 0, 0, 0⟩).b ≤ t) && decide (t < (l.getD k ⟨0, 0, 0, 0⟩).d)
theorem breakF_none {l : List Mt} {id : Int} (h : findF l id = none) : breakF l id = 0 := by unfold breakF; rw [h]
theorem breakF_some {l : List Mt} {id : Int} {k : Nat} {m : Mt} (h : findF l id = some k) (hm : l[k]? = some m) : breakF l id = m.d := by unfold breakF; rw [h]; simp [hm]
theorem aliveF_none {l : List Mt} {id t : Int} (h : findF l id = none) : aliveF l id t = false := by unfold aliveF; rw [h]
theorem aliveF_some {l : List Mt} {id t : Int} {k : Nat} {m : Mt} (h : findF l id = some k) (hm : l[k]? = some m) : aliveF l id t = (decide (m.b ≤ t) && decide (t < m.d)) := by unfold aliveF; rw [h]; simp [hm]
def bestStep (l : List Mt) (t : Int) (best : Option Nat) (k : Nat) : Option Nat :=
  match l[k]? with
  | none => best
  | some m => if m.b ≤ t ∧ t < m.c ∧ (match best with | none => true | some j => decide ((l.getD j ⟨0, 0, 0, 0⟩).c < m.c)) = true then some k else best
def bestTo (l : List Mt) (t : Int) (k : Nat) : Option Nat := (List.range k).foldl (bestStep l t) none
def bestF (l : List Mt) (t : Int) : Option Nat := bestTo l t l.length
def bestI (l : List Mt) (t : Int) : Int := match bestF l t with | none => -1 | some j => (l.getD j ⟨0, 0, 0, 0⟩).a
theorem bestTo_succ (l : List Mt) (t : Int) (k : Nat) : bestTo l t (k + 1) = bestStep l t (bestTo l t k) k := by simp [bestTo, List.range_succ]
theorem bestTo_lt (l : List Mt) (t : Int) : ∀ (k j : Nat), bestTo l t k = some j → j < k := by
  intro k
  induction k with
  | zero => intro j h; simp [bestTo] at h
  | succ k ih =>
    intro j h
    rw [bestTo_succ] at h
    unfold bestStep at h
    cases hm : l[k]? with
    | none => rw [hm] at h; have := ih j h; omega
    | some m =>
      rw [hm] at h
      dsimp only at h
      by_cases hc : m.b ≤ t ∧ t < m.c ∧ (match bestTo l t k with | none => true | some j => decide ((l.getD j ⟨0, 0, 0, 0⟩).c < m.c)) = true
      · rw [if_pos hc] at h; injection h with h; omega
      · rw [if_neg hc] at h; have := ih j h; omega
theorem bestTo_yes0 {l : List Mt} {t : Int} {k : Nat} {m : Mt} (hm : l[k]? = some m) (hb : bestTo l t k = none) (h1 : m.b ≤ t) (h2 : t < m.c) : bestTo l t (k + 1) = some k := by
  rw [bestTo_succ, hb]; unfold bestStep; rw [hm]; simp [h1, h2]
theorem bestTo_yes1 {l : List Mt} {t : Int} {k j : Nat} {m x : Mt} (hm : l[k]? = some m) (hb : bestTo l t k = some j) (hx : l[j]? = some x) (h1 : m.b ≤ t) (h2 : t < m.c) (h3 : x.c < m.c) : bestTo l t (k + 1) = some k := by
  rw [bestTo_succ, hb]; unfold bestStep; rw [hm]; simp [h1, h2, hx, h3]
theorem bestTo_no0 {l : List Mt} {t : Int} {k : Nat} {m : Mt} {b : Option Nat} (hm : l[k]? = some m) (hb : bestTo l t k = b) (h : ¬ (m.b ≤ t ∧ t < m.c)) : bestTo l t (k + 1) = b := by
  rw [bestTo_succ, hb]; unfold bestStep; rw [hm]; simp only; rw [if_neg (fun h' => h ⟨h'.1, h'.2.1⟩)]
theorem bestTo_no1 {l : List Mt} {t : Int} {k j : Nat} {m x : Mt} (hm : l[k]? = some m) (hb : bestTo l t k = some j) (hx : l[j]? = some x) (h3 : ¬ x.c < m.c) : bestTo l t (k + 1) = some j := by
  rw [bestTo_succ, hb]; unfold bestStep; rw [hm]; simp [hx, h3]
def obI (b : Option Nat) : Int := match b with | none => -1 | some j => (j : Int)
def okAt (l : List Mt) (i : Nat) : Bool := match l[i]? with | none => true | some m => isMe m.a m.b m.c m.d && (decide (i = 0) || decide ((l.getD (i - 1) ⟨0, 0, 0, 0⟩).a < m.a))
def areF (l : List Mt) : Bool := (List.range l.length).all (okAt l) && decide (l.length ≤ 8)
theorem areF_bad {l : List Mt} {k : Nat} (hk : k < l.length) (h : okAt l k = false) : areF l = false := by
  unfold areF
  rw [Bool.and_eq_false_iff]
  left
  rw [List.all_eq_false]
  exact ⟨k, by simpa using hk, by simp [h]⟩
theorem areF_end {l : List Mt} (h : ∀ j, j < l.length → okAt l j = true) : areF l = decide (l.length ≤ 8) := by
  unfold areF
  rw [show (List.range l.length).all (okAt l) = true by rw [List.all_eq_true]; intro j hj; exact h j (by simpa using hj)]
  simp
theorem okAt_0 {l : List Mt} {m : Mt} (hm : l[0]? = some m) (h : isMe m.a m.b m.c m.d = true) : okAt l 0 = true := by unfold okAt; rw [hm]; simp [h]
theorem okAt_me {l : List Mt} {k : Nat} {m : Mt} (hm : l[k]? = some m) (h : isMe m.a m.b m.c m.d = false) : okAt l k = false := by unfold okAt; rw [hm]; simp [h]
theorem okAt_s {l : List Mt} {k : Nat} {m x : Mt} (hm : l[k + 1]? = some m) (hx : l[k]? = some x) (h : isMe m.a m.b m.c m.d = true) : okAt l (k + 1) = decide (x.a < m.a) := by unfold okAt; rw [hm]; simp [h, hx]
end Go.Proofs.Ytgeffaohdoeclaa
