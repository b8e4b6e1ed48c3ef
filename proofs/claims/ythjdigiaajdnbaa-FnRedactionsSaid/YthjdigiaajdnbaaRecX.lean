/- A struct variable whose fields are rows of the call's own (and further rows beside it), and what 'append' onto one field leaves. No condition but those stated. -/
import Derived.Test.YthjdigiaajdnbaaRed
import Derived.Test.YthjdigiaajdnbaaDoc
import Derived.Test.YthjdigiaajdnbaaRec
namespace Go.Proofs.Ythjdigiaajdnbaa
open Go.RowKit Go.WideShapes Go.ChangeShapes Go.Deep
set_option linter.unusedSimpArgs false
set_option linter.unusedVariables false
/-- the rows are the call's own (b on), each apart from the others and from the block k -/
structure Rows_ (w : World) (b k : Nat) (fs : List Fld) : Prop where
  own : ∀ (i : Nat) (f : Fld), fs[i]? = some f → w.ownsRow b f.e 1 (.slice f.A f.n f.c) f.n f.xs
  off : ∀ (i : Nat) (f : Fld), fs[i]? = some f → Go.Proofs.Ythjdigiaajdnbaa.blk f.A ≠ some k
  ap : ∀ (i j : Nat) (f g : Fld), i ≠ j → fs[i]? = some f → fs[j]? = some g → ∀ q, Go.Proofs.Ythjdigiaajdnbaa.blk f.A = some q → Go.Proofs.Ythjdigiaajdnbaa.blk g.A ≠ some q
theorem own_off {w : World} {b g j : Nat} {e : TypeId} {s n c : Nat} {A : Option Addr} {xs : List Value} (h : w.ownsRow b e s (.slice A n c) n xs) (hg : Go.Proofs.Ythjdigiaajdnbaa.blk A ≠ some g) (u : Value) : (w.setCell ⟨g, j, none⟩ u).ownsRow b e s (.slice A n c) n xs := by
  refine h.kept (row := some g) ⟨rfl, rfl, rfl, ?_, ?_⟩ ?_
  · rw [World.size_setCell]; exact Nat.le_refl _
  · intro i hi hne
    simp only [World.setCell, Array.getElem?_modify]
    rw [if_neg (by intro h; exact hne (by rw [h]))]
  · rw [blk_own]; exact .inr hg
theorem Rows_.below {w w' : World} {b k : Nat} {fs : List Fld} (h : Rows_ w b k fs) (hb : Below w.heap.size w w') : Rows_ w' b k fs := ⟨fun i f hi => own_below (h.own i f hi) hb, h.off, h.ap⟩
theorem Rows_.set {w : World} {b k j : Nat} {fs : List Fld} (h : Rows_ w b k fs) (u : Value) : Rows_ (w.setCell ⟨k, j, none⟩ u) b k fs := ⟨fun i f hi => own_off (h.own i f hi) (h.off i f hi) u, h.off, h.ap⟩
theorem Rows_.old {w : World} {b k j g : Nat} {fs : List Fld} (h : Rows_ w b k fs) (hg : g < b) (u : Value) : Rows_ (w.setCell ⟨g, j, none⟩ u) b k fs := ⟨fun i f hi => own_old (h.own i f hi) hg u, h.off, h.ap⟩
/-- one row grows -/
theorem Rows_.app {w w' w3 : World} {b k i c3 N : Nat} {fs : List Fld} {f : Fld} {A3 : Option Addr} {ys : List Value} (h : Rows_ w b k fs) (hk : k < w.heap.size) (hi : fs[i]? = some f) (hb' : Below w.heap.size w w')
    (ho3 : w3.ownsRow b f.e 1 (.slice A3 N c3) N ys) (hg3 : w'.grownBy w3 (Go.Proofs.Ythjdigiaajdnbaa.blk f.A)) (hat3 : Go.Proofs.Ythjdigiaajdnbaa.blk A3 = Go.Proofs.Ythjdigiaajdnbaa.blk f.A ∨ Go.Proofs.Ythjdigiaajdnbaa.blk A3 = some w'.heap.size) :
    Rows_ w3 b k (fs.set i ⟨f.e, A3, N, c3, ys⟩) := by
  have hs' := hb'.size
  have hil := get_lt hi
  have new : ∀ (j : Nat) (g : Fld), i ≠ j → fs[j]? = some g → ∀ q, Go.Proofs.Ythjdigiaajdnbaa.blk A3 = some q → Go.Proofs.Ythjdigiaajdnbaa.blk g.A ≠ some q := by
    intro j g hij hg q hq he
    rcases hat3 with h1 | h1
    · exact h.ap i j f g hij hi hg q (h1 ▸ hq) he
    · have h2 := ((h.own j g hg).lt q (by rw [blk_own]; exact he)).2
      rw [h1] at hq
      injection hq with hq
      omega
  refine ⟨?_, ?_, ?_⟩
  · intro j g hg
    rw [List.getElem?_set] at hg
    by_cases hij : i = j
    · subst hij
      rw [if_pos rfl, if_pos hil] at hg
      injection hg with hg
      subst hg
      exact ho3
    · rw [if_neg hij] at hg
      refine (own_below (h.own j g hg) hb').kept hg3 ?_
      rw [blk_own]
      cases hgb : Go.Proofs.Ythjdigiaajdnbaa.blk g.A with
      | none => exact .inl rfl
      | some q => exact .inr fun he => h.ap i j f g hij hi hg q he.symm hgb
  · intro j g hg
    rw [List.getElem?_set] at hg
    by_cases hij : i = j
    · subst hij
      rw [if_pos rfl, if_pos hil] at hg
      injection hg with hg
      subst hg
      intro he
      rcases hat3 with h1 | h1
      · exact h.off i f hi (h1 ▸ he)
      · rw [h1] at he
        injection he with he
        omega
    · rw [if_neg hij] at hg
      exact h.off j g hg
  · intro x y f1 g1 hab h1 h2 q hq he
    rw [List.getElem?_set] at h1 h2
    by_cases ha : i = x
    · subst ha
      rw [if_pos rfl, if_pos hil] at h1
      injection h1 with h1
      subst h1
      rw [if_neg hab] at h2
      exact new y g1 hab h2 q hq he
    · rw [if_neg ha] at h1
      by_cases hb : i = y
      · subst hb
        rw [if_pos rfl, if_pos hil] at h2
        injection h2 with h2
        subst h2
        exact new x f1 ha h1 q he hq
      · rw [if_neg hb] at h2
        exact h.ap x y f1 g1 hab h1 h2 q hq he
/-- one more row, laid later than all the others -/
theorem Rows_.push {w : World} {b k z : Nat} {fs : List Fld} {f : Fld} (h : Rows_ w b k fs) (hz : ∀ (i : Nat) (g : Fld), fs[i]? = some g → ∀ q, Go.Proofs.Ythjdigiaajdnbaa.blk g.A = some q → q < z) (hk : k < z)
    (ho : w.ownsRow z f.e 1 (.slice f.A f.n f.c) f.n f.xs) (hb : b ≤ z) : Rows_ w b k (fs ++ [f]) := by
  have hlo : ∀ q, Go.Proofs.Ythjdigiaajdnbaa.blk f.A = some q → z ≤ q := fun q hq => (ho.lt q (by rw [blk_own]; exact hq)).1
  have at_ : ∀ (i : Nat) (g : Fld), (fs ++ [f])[i]? = some g → (i < fs.length ∧ fs[i]? = some g) ∨ (i = fs.length ∧ g = f) := by
    intro i g hg
    rcases Nat.lt_or_ge i fs.length with h1 | h1
    · rw [List.getElem?_append_left h1] at hg
      exact .inl ⟨h1, hg⟩
    · rw [List.getElem?_append_right h1] at hg
      have h2 := get_lt hg
      simp at h2
      have h3 : i = fs.length := by omega
      subst h3
      simp at hg
      exact .inr ⟨rfl, hg.symm⟩
  refine ⟨?_, ?_, ?_⟩
  · intro i g hg
    rcases at_ i g hg with ⟨_, h1⟩ | ⟨_, rfl⟩
    · exact h.own i g h1
    · exact own_base ho hb
  · intro i g hg
    rcases at_ i g hg with ⟨_, h1⟩ | ⟨_, rfl⟩
    · exact h.off i g h1
    · intro he
      have := hlo k he
      omega
  · intro i j f1 g1 hij h1 h2 q hq he
    rcases at_ i f1 h1 with ⟨_, k1⟩ | ⟨e1, rfl⟩ <;> rcases at_ j g1 h2 with ⟨_, k2⟩ | ⟨e2, rfl⟩
    · exact h.ap i j f1 g1 hij k1 k2 q hq he
    · have := hz i f1 k1 q hq
      have := hlo q he
      omega
    · have := hz j g1 k2 q he
      have := hlo q hq
      omega
    · omega
/-- a variable in the block bx: a number and the rows 'fs'; the rows 'ex' beside it -/
structure RecX (b : Nat) (W1 w : World) (bx : Nat) (t : Int) (fs ex : List Fld) : Prop where
  sz : bx < w.heap.size
  lo : b ≤ bx
  blk : Blk w bx (.int .i64 t :: fs.map Fld.v)
  rows : Rows_ w b bx (fs ++ ex)
  bel : Below b W1 w
theorem RecX.below {b : Nat} {W1 w w' : World} {bx : Nat} {t : Int} {fs ex : List Fld} (h : RecX b W1 w bx t fs ex) (hb : Below w.heap.size w w') : RecX b W1 w' bx t fs ex := by
  have hsz := h.sz
  have hlo := h.lo
  have hs' := hb.size
  exact ⟨by omega, h.lo, h.blk.below hb, h.rows.below hb, h.bel.trans ⟨hb.os, hb.tape, hb.output, hb.size, fun k hk => hb.block k (by omega)⟩⟩
/-- what an append onto one of the rows leaves of the variable's own block -/
theorem RecX.kept {b : Nat} {W1 w w' w3 : World} {bx : Nat} {t : Int} {fs ex : List Fld} {i : Nat} {f : Fld} (h : RecX b W1 w bx t fs ex) (hi : fs[i]? = some f) (hb' : Below w.heap.size w w') (hg3 : w'.grownBy w3 (Go.Proofs.Ythjdigiaajdnbaa.blk f.A)) :
    Blk w3 bx (.int .i64 t :: fs.map Fld.v) := by
  have hsz := h.sz
  have hs' := hb'.size
  have hne : Go.Proofs.Ythjdigiaajdnbaa.blk f.A ≠ some bx := h.rows.off i f (by rw [List.getElem?_append_left (get_lt hi)]; exact hi)
  have hB := h.blk.below hb'
  intro j v hv
  obtain ⟨h1, h2⟩ := hB j v hv
  have hbl := hg3.block bx (by omega) (fun e => hne e.symm)
  refine ⟨?_, ?_⟩
  · rw [← h1]; unfold World.cell?; simp only [hbl]
  · rw [← h2]; unfold World.frozen?; simp only [hbl]
theorem RecX.app {b : Nat} {W1 w w' w3 : World} {bx : Nat} {t : Int} {fs ex : List Fld} {i c3 N : Nat} {f : Fld} {A3 : Option Addr} {ys : List Value} (h : RecX b W1 w bx t fs ex) (hi : fs[i]? = some f)
    (hb' : Below w.heap.size w w') (ho3 : w3.ownsRow b f.e 1 (.slice A3 N c3) N ys) (hb3 : Below b W1 w3) (hg3 : w'.grownBy w3 (Go.Proofs.Ythjdigiaajdnbaa.blk f.A))
    (hat3 : Go.Proofs.Ythjdigiaajdnbaa.blk A3 = Go.Proofs.Ythjdigiaajdnbaa.blk f.A ∨ Go.Proofs.Ythjdigiaajdnbaa.blk A3 = some w'.heap.size) :
    RecX b W1 (w3.setCell ⟨bx, i + 1, none⟩ (.slice A3 N c3)) bx t (fs.set i ⟨f.e, A3, N, c3, ys⟩) ex := by
  have hsz := h.sz
  have hs' := hb'.size
  have hs3 := hg3.size
  have hil := get_lt hi
  refine ⟨by rw [World.size_setCell]; omega, h.lo, ?_, ?_, hb3.setCell (p := ⟨bx, i + 1, none⟩) h.lo _⟩
  · have := (h.kept hi hb' hg3).set (i + 1) (.slice A3 N c3)
    rw [List.set_cons_succ] at this
    rw [List.map_set]
    exact this
  · have := (h.rows.app hsz (i := i) (by rw [List.getElem?_append_left hil]; exact hi) hb' ho3 hg3 hat3).set (j := i + 1) (.slice A3 N c3)
    rwa [List.set_append_left _ _ hil] at this
theorem RecX.push {b z : Nat} {W1 w : World} {bx : Nat} {t : Int} {fs ex : List Fld} {f : Fld} (h : RecX b W1 w bx t fs ex) (hz : ∀ (i : Nat) (g : Fld), (fs ++ ex)[i]? = some g → ∀ q, Go.Proofs.Ythjdigiaajdnbaa.blk g.A = some q → q < z) (hk : bx < z)
    (ho : w.ownsRow z f.e 1 (.slice f.A f.n f.c) f.n f.xs) : RecX b W1 w bx t fs (ex ++ [f]) :=
  ⟨h.sz, h.lo, h.blk, by rw [← List.append_assoc]; exact h.rows.push hz hk ho (by have := h.lo; omega), h.bel⟩
theorem RecX.lt {b : Nat} {W1 w : World} {bx : Nat} {t : Int} {fs ex : List Fld} (h : RecX b W1 w bx t fs ex) : ∀ (i : Nat) (g : Fld), (fs ++ ex)[i]? = some g → ∀ q, Go.Proofs.Ythjdigiaajdnbaa.blk g.A = some q → q < w.heap.size :=
  fun i g hg q hq => ((h.rows.own i g hg).lt q (by rw [blk_own]; exact hq)).2
abbrev Fld.nil (e : TypeId) : Fld := ⟨e, none, 0, 0, []⟩
/-- a variable just laid: its first row stands, the others are nil -/
theorem RecX.new {b : Nat} {W1 w1 W2 : World} {bx : Nat} {t : Int} {ty : TypeId} {f : Fld} {es : List TypeId} (hk : bx = w1.heap.size) (h : w1.alloc (.cells (.int .i64 t :: (f :: es.map Fld.nil).map Fld.v).toArray ty) = W2)
    (ho : w1.ownsRow b f.e 1 (.slice f.A f.n f.c) f.n f.xs) (hb : b ≤ w1.heap.size) (hbel : Below b W1 w1) : RecX b W1 W2 bx t (f :: es.map Fld.nil) [] := by
  subst hk h
  have key : ∀ (i : Nat) (g : Fld), (f :: es.map Fld.nil)[i]? = some g → (i = 0 ∧ g = f) ∨ (0 < i ∧ g.A = none ∧ g.n = 0 ∧ g.c = 0 ∧ g.xs = []) := by
    intro i g hg
    cases i with
    | zero => simp at hg; exact .inl ⟨rfl, hg.symm⟩
    | succ i =>
      simp only [List.getElem?_cons_succ, List.getElem?_map, Option.map_eq_some_iff] at hg
      obtain ⟨e, _, rfl⟩ := hg
      exact .inr ⟨by omega, rfl, rfl, rfl, rfl⟩
  refine ⟨by simp, hb, Blk.new _ _ _, ?_, hbel.alloc hb _⟩
  rw [List.append_nil]
  refine ⟨?_, ?_, ?_⟩
  · intro i g hg
    rcases key i g hg with ⟨_, rfl⟩ | ⟨_, h1, h2, h3, h4⟩
    · exact ho.alloc _
    · obtain ⟨e, A, n, c, xs⟩ := g
      simp at h1 h2 h3 h4
      subst h1 h2 h3 h4
      exact World.ownsRow_nil _ _ _ _
  · intro i g hg he
    rcases key i g hg with ⟨_, rfl⟩ | ⟨_, h1, _⟩
    · have := (ho.lt _ (by rw [blk_own]; exact he)).2
      omega
    · rw [h1] at he
      cases he
  · intro i j f1 g1 hij h1 h2 q hq he
    rcases key i f1 h1 with ⟨e1, rfl⟩ | ⟨_, h1, _⟩
    · rcases key j g1 h2 with ⟨e2, rfl⟩ | ⟨_, h2, _⟩
      · omega
      · rw [h2] at he; cases he
    · rw [h1] at hq; cases hq
section
variable {b : Nat} {W1 w : World} {bx : Nat} {t : Int} {ex : List Fld} {e1 e2 e3 e4 e5 : TypeId} {A1 A2 A3 A4 A5 : Option Addr} {n1 n2 n3 n4 n5 c1 c2 c3 c4 c5 : Nat} {x1 x2 x3 x4 x5 : List Value}
theorem RecX.three (h : RecX b W1 w bx t [⟨e1, A1, n1, c1, x1⟩, ⟨e2, A2, n2, c2, x2⟩] ex) :
    (w.cell? ⟨bx, 0, none⟩ = some (.int .i64 t) ∧ w.cell? ⟨bx, 1, none⟩ = some (.slice A1 n1 c1) ∧ w.cell? ⟨bx, 2, none⟩ = some (.slice A2 n2 c2)) ∧
    (w.frozen? ⟨bx, 0, none⟩ = false ∧ w.frozen? ⟨bx, 1, none⟩ = false ∧ w.frozen? ⟨bx, 2, none⟩ = false) ∧ w.ownsRow b e1 1 (.slice A1 n1 c1) n1 x1 ∧ w.ownsRow b e2 1 (.slice A2 n2 c2) n2 x2 :=
  ⟨h.blk.three.1, h.blk.three.2, h.rows.own 0 _ rfl, h.rows.own 1 _ rfl⟩
theorem RecX.six (h : RecX b W1 w bx t [⟨e1, A1, n1, c1, x1⟩, ⟨e2, A2, n2, c2, x2⟩, ⟨e3, A3, n3, c3, x3⟩, ⟨e4, A4, n4, c4, x4⟩, ⟨e5, A5, n5, c5, x5⟩] ex) :
    (w.cell? ⟨bx, 0, none⟩ = some (.int .i64 t) ∧ w.cell? ⟨bx, 1, none⟩ = some (.slice A1 n1 c1) ∧ w.cell? ⟨bx, 2, none⟩ = some (.slice A2 n2 c2) ∧ w.cell? ⟨bx, 3, none⟩ = some (.slice A3 n3 c3) ∧ w.cell? ⟨bx, 4, none⟩ = some (.slice A4 n4 c4) ∧ w.cell? ⟨bx, 5, none⟩ = some (.slice A5 n5 c5)) ∧
    (w.frozen? ⟨bx, 0, none⟩ = false ∧ w.frozen? ⟨bx, 1, none⟩ = false ∧ w.frozen? ⟨bx, 2, none⟩ = false ∧ w.frozen? ⟨bx, 3, none⟩ = false ∧ w.frozen? ⟨bx, 4, none⟩ = false ∧ w.frozen? ⟨bx, 5, none⟩ = false) ∧
    w.ownsRow b e1 1 (.slice A1 n1 c1) n1 x1 ∧ w.ownsRow b e2 1 (.slice A2 n2 c2) n2 x2 ∧ w.ownsRow b e3 1 (.slice A3 n3 c3) n3 x3 ∧ w.ownsRow b e4 1 (.slice A4 n4 c4) n4 x4 ∧ w.ownsRow b e5 1 (.slice A5 n5 c5) n5 x5 :=
  ⟨h.blk.six.1, h.blk.six.2, h.rows.own 0 _ rfl, h.rows.own 1 _ rfl, h.rows.own 2 _ rfl, h.rows.own 3 _ rfl, h.rows.own 4 _ rfl⟩
end
end Go.Proofs.Ythjdigiaajdnbaa
