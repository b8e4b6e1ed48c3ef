/- What IsRedacted says, in plain words. No condition. -/
import Derived.Test.YthjdigiaajdnbaaRec
import Derived.Test.YthjdigiaajdnbaaDocI
import Derived.Test.YthjdigiaajdnbaaStringS
import Derived.Test.YthjdigiaajdnbaaIntS
namespace Go.Proofs.Ythjdigiaajdnbaa
open Go.RowKit Go.WideShapes Go.ChangeShapes Go.Deep
set_option linter.unusedSimpArgs false
set_option linter.unusedVariables false
set_option maxRecDepth 1000000
def okAt (nm : Nat) (b : Bool) (p : ByteArray) (s : Int) (d : List Int) : Bool := if b then decide (d.length = 0) else decide (d.length = nm) && decide (p = ByteArray.empty) && decide (s = 0)
theorem not_empty {p : ByteArray} (h : p ≠ ByteArray.empty) : (p.toList == []) = false := by
  cases hl : p.toList with
  | nil =>
    exfalso
    apply h
    rw [ByteArray.toList_eq] at hl
    apply ByteArray.ext
    exact Array.ext' (hl.trans rfl)
  | cons => rfl
def okAll (nm : Nat) : List Bool → List ByteArray → List Int → List (List Int) → Bool
  | b :: bs, p :: ps, s :: ss, d :: ds => okAt nm b p s d && okAll nm bs ps ss ds
  | _, _, _, _ => true
theorem okAll_no {nm : Nat} : ∀ {k : Nat} {bs : List Bool} {ps : List ByteArray} {ss : List Int} {ds : List (List Int)} {b : Bool} {p : ByteArray} {s : Int} {d : List Int}, bs[k]? = some b → ps[k]? = some p → ss[k]? = some s → ds[k]? = some d → okAt nm b p s d = false → okAll nm bs ps ss ds = false := by
  intro k
  induction k with
  | zero =>
    intro bs ps ss ds b p s d h1 h2 h3 h4 h
    match bs, ps, ss, ds, h1, h2, h3, h4 with
    | _ :: _, _ :: _, _ :: _, _ :: _, h1, h2, h3, h4 =>
      simp at h1 h2 h3 h4
      subst h1 h2 h3 h4
      simp [okAll, h]
  | succ k ih =>
    intro bs ps ss ds b p s d h1 h2 h3 h4 h
    match bs, ps, ss, ds, h1, h2, h3, h4 with
    | _ :: _, _ :: _, _ :: _, _ :: _, h1, h2, h3, h4 =>
      simp at h1 h2 h3 h4
      simp [okAll, ih h1 h2 h3 h4 h]
theorem okAll_yes {nm : Nat} : ∀ {bs : List Bool} {ps : List ByteArray} {ss : List Int} {ds : List (List Int)}, (∀ (k : Nat) (b : Bool) (p : ByteArray) (s : Int) (d : List Int), bs[k]? = some b → ps[k]? = some p → ss[k]? = some s → ds[k]? = some d → okAt nm b p s d = true) → okAll nm bs ps ss ds = true := by
  intro bs
  induction bs with
  | nil => intro ps ss ds _; simp [okAll]
  | cons b bs ih =>
    intro ps ss ds h
    match ps, ss, ds with
    | [], _, _ => simp [okAll]
    | _ :: _, [], _ => simp [okAll]
    | _ :: _, _ :: _, [] => simp [okAll]
    | p :: ps, s :: ss, d :: ds =>
      simp only [okAll, Bool.and_eq_true]
      exact ⟨h 0 b p s d rfl rfl rfl rfl, ih fun k b p s d h1 h2 h3 h4 => h (k + 1) b p s d (by simpa using h1) (by simpa using h2) (by simpa using h3) (by simpa using h4)⟩
def OkTo (nm : Nat) (bs : List Bool) (ps : List ByteArray) (ss : List Int) (ds : List (List Int)) (k : Nat) : Prop := ∀ (j : Nat) (b : Bool) (p : ByteArray) (s : Int) (d : List Int), j < k → bs[j]? = some b → ps[j]? = some p → ss[j]? = some s → ds[j]? = some d → okAt nm b p s d = true
theorem OkTo.zero {nm : Nat} {bs : List Bool} {ps : List ByteArray} {ss : List Int} {ds : List (List Int)} : OkTo nm bs ps ss ds 0 := fun _ _ _ _ _ h => absurd h (Nat.not_lt_zero _)
theorem OkTo.step {nm k : Nat} {bs : List Bool} {ps : List ByteArray} {ss : List Int} {ds : List (List Int)} {b : Bool} {p : ByteArray} {s : Int} {d : List Int} (h : OkTo nm bs ps ss ds k) (h1 : bs[k]? = some b) (h2 : ps[k]? = some p) (h3 : ss[k]? = some s) (h4 : ds[k]? = some d) (ho : okAt nm b p s d = true) : OkTo nm bs ps ss ds (k + 1) := by
  intro j b' p' s' d' hj g1 g2 g3 g4
  rcases Nat.lt_or_ge j k with hlt | hge
  · exact h j b' p' s' d' hlt g1 g2 g3 g4
  · obtain rfl : j = k := by omega
    rw [h1] at g1; rw [h2] at g2; rw [h3] at g3; rw [h4] at g4
    injection g1 with g1; injection g2 with g2; injection g3 with g3; injection g4 with g4
    subst g1 g2 g3 g4
    exact ho
theorem OkTo.all {nm k : Nat} {bs : List Bool} {ps : List ByteArray} {ss : List Int} {ds : List (List Int)} (h : OkTo nm bs ps ss ds k) (hk : bs.length ≤ k) : okAll nm bs ps ss ds = true :=
  okAll_yes fun j b p s d g1 g2 g3 g4 => h j b p s d (by have := get_lt g1; omega) g1 g2 g3 g4
def shV {α : Type} : List Bool → List α → List α
  | true :: bs, x :: xs => x :: shV bs xs
  | false :: bs, _ :: xs => shV bs xs
  | _, _ => []
theorem shV_t {α : Type} : ∀ {k : Nat} {bs : List Bool} {xs : List α} {x : α}, bs[k]? = some true → xs[k]? = some x → shV (bs.take (k + 1)) (xs.take (k + 1)) = shV (bs.take k) (xs.take k) ++ [x] := by
  intro k
  induction k with
  | zero =>
    intro bs xs x h1 h2
    match bs, xs, h1, h2 with
    | b :: bs, y :: xs, h1, h2 => simp at h1 h2; subst h1 h2; simp [shV]
  | succ k ih =>
    intro bs xs x h1 h2
    match bs, xs, h1, h2 with
    | b :: bs, y :: xs, h1, h2 =>
      simp at h1 h2
      cases b <;> simp [shV, ih h1 h2]
theorem shV_f {α : Type} : ∀ {k : Nat} {bs : List Bool} {xs : List α} {x : α}, bs[k]? = some false → xs[k]? = some x → shV (bs.take (k + 1)) (xs.take (k + 1)) = shV (bs.take k) (xs.take k) := by
  intro k
  induction k with
  | zero =>
    intro bs xs x h1 h2
    match bs, xs, h1, h2 with
    | b :: bs, y :: xs, h1, h2 => simp at h1 h2; subst h1; simp [shV]
  | succ k ih =>
    intro bs xs x h1 h2
    match bs, xs, h1, h2 with
    | b :: bs, y :: xs, h1, h2 =>
      simp at h1 h2
      cases b <;> simp [shV, ih h1 h2]
theorem shV_len {α : Type} : ∀ (bs : List Bool) (xs : List α), (shV bs xs).length ≤ bs.length := by
  intro bs
  induction bs with
  | nil => intro xs; simp [shV]
  | cons b bs ih =>
    intro xs
    match xs with
    | [] => cases b <;> simp [shV]
    | x :: xs => have := ih xs; cases b <;> simp [shV] <;> omega
def isRed (t : Int) (nm : Nat) (bs : List Bool) (ps : List ByteArray) (ss : List Int) (ds : List (List Int)) : Bool :=
  inR (bs.length : Int) 1 6 && decide (ps.length = bs.length) && decide (ss.length = bs.length) && decide (ds.length = bs.length) && okAll nm bs ps ss ds &&
    (isDoc t (shV bs ps) (shV bs ss) || decide ((shV bs ps).length = 0) && inR t 0 999)
theorem apart_grow {w w0 : World} {b : Nat} {e : TypeId} {s n m c d : Nat} {A A2 B : Option Addr} {xs : List Value} (ha : ∀ g, blk A = some g → blk B ≠ some g) (hb : w.ownsRow b e s (.slice B m d) m xs) (hz : w.heap.size ≤ w0.heap.size) (h : blk A2 = blk A ∨ blk A2 = some w0.heap.size) : ∀ g, blk A2 = some g → blk B ≠ some g := by
  intro g hg he
  rcases h with h | h
  · exact ha g (h ▸ hg) he
  · have h1 := (hb.lt g (by rw [blk_own]; exact he)).2
    rw [h] at hg
    injection hg with hg
    omega
end Go.Proofs.Ythjdigiaajdnbaa
