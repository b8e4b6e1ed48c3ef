/- A struct variable whose fields are rows of the call's own, and what 'append' onto one field leaves. No condition but those stated. -/
import Derived.Test.YthjdigiaajdnbaaRed
import Derived.Test.YthjdigiaajdnbaaDoc
import Derived.Test.YthjdigiaajdnbaaStep
namespace Go.Proofs.Ythjdigiaajdnbaa
open Go.RowKit Go.WideShapes Go.ChangeShapes Go.Deep
set_option linter.unusedSimpArgs false
set_option linter.unusedVariables false
structure Fld where
  e : TypeId
  A : Option Addr
  n : Nat
  c : Nat
  xs : List Value
abbrev Fld.v (f : Fld) : Value := .slice f.A f.n f.c
structure Rec (W1 w : World) (bx : Nat) (t : Int) (fs : List Fld) : Prop where
  sz : bx < w.heap.size
  blk : Blk w bx (.int .i64 t :: fs.map Fld.v)
  own : ∀ (i : Nat) (f : Fld), fs[i]? = some f → w.ownsRow (bx + 1) f.e 1 (.slice f.A f.n f.c) f.n f.xs
  ap : ∀ (i j : Nat) (f g : Fld), i ≠ j → fs[i]? = some f → fs[j]? = some g → ∀ k, Go.Proofs.Ythjdigiaajdnbaa.blk f.A = some k → Go.Proofs.Ythjdigiaajdnbaa.blk g.A ≠ some k
  bel : Below bx W1 w
theorem Rec.app {W1 w w' w3 : World} {bx : Nat} {t : Int} {fs : List Fld} {i c3 N : Nat} {f : Fld} {A3 : Option Addr} {ys : List Value} (h : Rec W1 w bx t fs) (hi : fs[i]? = some f)
    (hb' : Below w.heap.size w w') (ho3 : w3.ownsRow (bx + 1) f.e 1 (.slice A3 N c3) N ys) (hb3 : Below (bx + 1) w w3) (hg3 : w'.grownBy w3 (Go.Proofs.Ythjdigiaajdnbaa.blk f.A))
    (hat3 : Go.Proofs.Ythjdigiaajdnbaa.blk A3 = Go.Proofs.Ythjdigiaajdnbaa.blk f.A ∨ Go.Proofs.Ythjdigiaajdnbaa.blk A3 = some w'.heap.size) :
    Rec W1 (w3.setCell ⟨bx, i + 1, none⟩ (.slice A3 N c3)) bx t (fs.set i ⟨f.e, A3, N, c3, ys⟩) := by
  have hsz := h.sz
  have hs' := hb'.size
  have hs3 := hb3.size
  have hil := get_lt hi
  refine ⟨by rw [World.size_setCell]; omega, ?_, ?_, ?_, ?_⟩
  · have hb : Blk w3 bx (.int .i64 t :: fs.map Fld.v) := fun j v hv => by
      obtain ⟨h1, h2⟩ := h.blk j v hv
      exact ⟨(hb3.cell (p := ⟨bx, j, none⟩) (by show bx < bx + 1; omega)).trans h1, (hb3.frozen (p := ⟨bx, j, none⟩) (by show bx < bx + 1; omega)).trans h2⟩
    have := hb.set (i + 1) (.slice A3 N c3)
    rw [List.set_cons_succ] at this
    rw [List.map_set]
    exact this
  · intro j g hg
    rw [List.getElem?_set] at hg
    by_cases hij : i = j
    · subst hij
      rw [if_pos rfl, if_pos hil] at hg
      injection hg with hg
      subst hg
      exact own_old ho3 (Nat.lt_succ_self _) _
    · rw [if_neg hij] at hg
      have h1 := own_below (h.own j g hg) hb'
      have h2 : w3.ownsRow (bx + 1) g.e 1 (.slice g.A g.n g.c) g.n g.xs := by
        refine h1.kept hg3 ?_
        rw [blk_own]
        cases hgb : Go.Proofs.Ythjdigiaajdnbaa.blk g.A with
        | none => exact .inl rfl
        | some k =>
          refine .inr fun he => ?_
          exact h.ap i j f g hij hi hg k he.symm hgb
      exact own_old h2 (Nat.lt_succ_self _) _
  · have new : ∀ (j : Nat) (g : Fld), i ≠ j → fs[j]? = some g → ∀ k, Go.Proofs.Ythjdigiaajdnbaa.blk A3 = some k → Go.Proofs.Ythjdigiaajdnbaa.blk g.A ≠ some k := by
      intro j g hij hg k hk he
      rcases hat3 with h1 | h1
      · exact h.ap i j f g hij hi hg k (h1 ▸ hk) he
      · have h2 := ((h.own j g hg).lt k (by rw [blk_own]; exact he)).2
        rw [h1] at hk
        injection hk with hk
        omega
    intro a b f1 g1 hab h1 h2 k hk he
    rw [List.getElem?_set] at h1 h2
    by_cases ha : i = a
    · subst ha
      rw [if_pos rfl, if_pos hil] at h1
      injection h1 with h1
      subst h1
      rw [if_neg hab] at h2
      exact new b g1 hab h2 k hk he
    · rw [if_neg ha] at h1
      by_cases hb : i = b
      · subst hb
        rw [if_pos rfl, if_pos hil] at h2
        injection h2 with h2
        subst h2
        exact new a f1 ha h1 k he hk
      · rw [if_neg hb] at h2
        exact h.ap a b f1 g1 hab h1 h2 k hk he
  · refine Below.setCell (p := ⟨bx, i + 1, none⟩) ?_ (Nat.le_refl _) _
    refine h.bel.trans ⟨hb3.os, hb3.tape, hb3.output, hb3.size, fun k hk => hb3.block k (by omega)⟩
theorem Rec.below {W1 w w' : World} {bx : Nat} {t : Int} {fs : List Fld} (h : Rec W1 w bx t fs) (hb : Below w.heap.size w w') : Rec W1 w' bx t fs := by
  have hsz := h.sz
  have hs' := hb.size
  exact ⟨by omega, h.blk.below hb, fun i f hi => own_below (h.own i f hi) hb, h.ap, h.bel.trans ⟨hb.os, hb.tape, hb.output, hb.size, fun k hk => hb.block k (by omega)⟩⟩
theorem Rec.drewN {W1 w : World} {bx : Nat} {t : Int} {fs : List Fld} (h : Rec W1 w bx t fs) (q : Nat) : Rec W1 (w.drewN q) bx t fs := h.below (below_drewN (Below.refl _ _) q)
section
variable {W1 w : World} {bx : Nat} {t : Int} {e1 e2 e3 e4 e5 : TypeId} {A1 A2 A3 A4 A5 : Option Addr} {n1 n2 n3 n4 n5 c1 c2 c3 c4 c5 : Nat} {x1 x2 x3 x4 x5 : List Value}
theorem Rec.three (h : Rec W1 w bx t [⟨e1, A1, n1, c1, x1⟩, ⟨e2, A2, n2, c2, x2⟩]) :
    (w.cell? ⟨bx, 0, none⟩ = some (.int .i64 t) ∧ w.cell? ⟨bx, 1, none⟩ = some (.slice A1 n1 c1) ∧ w.cell? ⟨bx, 2, none⟩ = some (.slice A2 n2 c2)) ∧
    (w.frozen? ⟨bx, 0, none⟩ = false ∧ w.frozen? ⟨bx, 1, none⟩ = false ∧ w.frozen? ⟨bx, 2, none⟩ = false) ∧ w.ownsRow (bx + 1) e1 1 (.slice A1 n1 c1) n1 x1 ∧ w.ownsRow (bx + 1) e2 1 (.slice A2 n2 c2) n2 x2 :=
  ⟨h.blk.three.1, h.blk.three.2, h.own 0 _ rfl, h.own 1 _ rfl⟩
theorem Rec.six (h : Rec W1 w bx t [⟨e1, A1, n1, c1, x1⟩, ⟨e2, A2, n2, c2, x2⟩, ⟨e3, A3, n3, c3, x3⟩, ⟨e4, A4, n4, c4, x4⟩, ⟨e5, A5, n5, c5, x5⟩]) :
    (w.cell? ⟨bx, 0, none⟩ = some (.int .i64 t) ∧ w.cell? ⟨bx, 1, none⟩ = some (.slice A1 n1 c1) ∧ w.cell? ⟨bx, 2, none⟩ = some (.slice A2 n2 c2) ∧ w.cell? ⟨bx, 3, none⟩ = some (.slice A3 n3 c3) ∧ w.cell? ⟨bx, 4, none⟩ = some (.slice A4 n4 c4) ∧ w.cell? ⟨bx, 5, none⟩ = some (.slice A5 n5 c5)) ∧
    (w.frozen? ⟨bx, 0, none⟩ = false ∧ w.frozen? ⟨bx, 1, none⟩ = false ∧ w.frozen? ⟨bx, 2, none⟩ = false ∧ w.frozen? ⟨bx, 3, none⟩ = false ∧ w.frozen? ⟨bx, 4, none⟩ = false ∧ w.frozen? ⟨bx, 5, none⟩ = false) ∧
    w.ownsRow (bx + 1) e1 1 (.slice A1 n1 c1) n1 x1 ∧ w.ownsRow (bx + 1) e2 1 (.slice A2 n2 c2) n2 x2 ∧ w.ownsRow (bx + 1) e3 1 (.slice A3 n3 c3) n3 x3 ∧ w.ownsRow (bx + 1) e4 1 (.slice A4 n4 c4) n4 x4 ∧ w.ownsRow (bx + 1) e5 1 (.slice A5 n5 c5) n5 x5 :=
  ⟨h.blk.six.1, h.blk.six.2, h.own 0 _ rfl, h.own 1 _ rfl, h.own 2 _ rfl, h.own 3 _ rfl, h.own 4 _ rfl⟩
end
/-- a variable just laid: its rows are nil -/
theorem Rec.new2 {W W2 : World} {k : Nat} {t : Int} {ty e1 e2 : TypeId} (hk : k = W.heap.size) (h : W.alloc (.cells #[.int .i64 t, .slice none 0 0, .slice none 0 0] ty) = W2) : Rec W W2 k t [⟨e1, none, 0, 0, []⟩, ⟨e2, none, 0, 0, []⟩] := by
  subst hk h
  refine ⟨by simp, Blk.new _ _ _, ?_, ?_, (Below.refl _ _).alloc (Nat.le_refl _) _⟩
  · intro i f hi
    match i, hi with
    | 0, hi => simp at hi; subst hi; exact World.ownsRow_nil _ _ _ _
    | 1, hi => simp at hi; subst hi; exact World.ownsRow_nil _ _ _ _
  · intro i j f g _ hi _ k hk
    match i, hi with
    | 0, hi => simp at hi; subst hi; cases hk
    | 1, hi => simp at hi; subst hi; cases hk
end Go.Proofs.Ythjdigiaajdnbaa
