/- Words on redacted documents: a row of rows that reads as a list of lists, a redacted document's value, a block with its cells. -/
import Derived.Test.YthjdigiaajdnbaaQui
import Derived.Test.YthjdigiaajdnbaaDocS
import Derived.Test.YthjdigiaajdnbaaBoolS
import Derived.Test.YthjdigiaajdnbaaOwnB
namespace Go.Proofs.Ythjdigiaajdnbaa
open Go.RowKit Go.WideShapes Go.ChangeShapes Go.Deep
set_option linter.unusedSimpArgs false
set_option linter.unusedVariables false
set_option maxRecDepth 1000000
/-! ### A row of rows -/
abbrev Sr := Option Addr × Nat × Nat
def srV (s : Sr) : Value := .slice s.1 s.2.1 s.2.2
def srs (l : List Sr) : List Value := l.map srV
theorem srs_length (l : List Sr) : (srs l).length = l.length := by simp [srs]
theorem srs_snoc (l : List Sr) (x : Sr) : srs (l ++ [x]) = srs l ++ [srV x] := by simp [srs]
theorem srs_one (l : List Sr) : ∀ u ∈ srs l, u.oneCell' = true := by intro u hu; obtain ⟨x, _, rfl⟩ := List.mem_map.1 hu; rfl
def RdSS (w : World) (A : Option Addr) (n : Nat) (ls : List (List Int)) : Prop :=
  ∃ rs : List Sr, Rd w 1 A n (srs rs) ∧ rs.length = ls.length ∧ ∀ (j : Nat) (r : Sr) (l : List Int), rs[j]? = some r → ls[j]? = some l → Rd w 1 r.1 r.2.1 (ints l)
theorem RdSS.below {w w' : World} {A : Option Addr} {n : Nat} {ls : List (List Int)} (h : RdSS w A n ls) (hb : Below w.heap.size w w') : RdSS w' A n ls := by
  obtain ⟨rs, h1, h2, h3⟩ := h
  exact ⟨rs, h1.below hb, h2, fun j r l hr hl => (h3 j r l hr hl).below hb⟩
theorem RdSS.len {w : World} {A : Option Addr} {n : Nat} {ls : List (List Int)} (h : RdSS w A n ls) : ls.length = n := by
  obtain ⟨rs, h1, h2, _⟩ := h
  have h3 : rs.length = n := h1.maplen
  omega
theorem RdSS.at_ {w : World} {A : Option Addr} {n k : Nat} {ls : List (List Int)} (h : RdSS w A n ls) (hk : k < n) :
    ∃ ad B m c l, A = some ad ∧ ls[k]? = some l ∧ w.cell? (ad.add k) = some (.slice B m c) ∧ Rd w 1 B m (ints l) := by
  have hl := h.len
  obtain ⟨rs, h1, h2, h3⟩ := h
  obtain ⟨ad, r, hA, hr, hc⟩ := Rd.map_ h1 hk
  have hk2 : k < ls.length := by omega
  exact ⟨ad, r.1, r.2.1, r.2.2, ls[k], hA, List.getElem?_eq_getElem hk2, hc, h3 k r _ hr (List.getElem?_eq_getElem hk2)⟩
/-! ### A redacted document -/
abbrev reV (t : Int) (M B P S D : Option Addr) (nm nb np ns nd cm cb cp cs cd : Nat) : Value := .agg #[.int .i64 t, .slice M nm cm, .slice B nb cb, .slice P np cp, .slice S ns cs, .slice D nd cd]
structure RdR (w : World) (M B P S D : Option Addr) (nm nb np ns nd : Nat) (ms : List Int) (bs : List Bool) (ps : List ByteArray) (ss : List Int) (ds : List (List Int)) : Prop where
  m : Rd w 1 M nm (ints ms)
  b : Rd w 1 B nb (bls bs)
  p : Rd w 1 P np (sts ps)
  s : Rd w 1 S ns (ints ss)
  d : RdSS w D nd ds
theorem RdR.below {w w' : World} {M B P S D : Option Addr} {nm nb np ns nd : Nat} {ms : List Int} {bs : List Bool} {ps : List ByteArray} {ss : List Int} {ds : List (List Int)} (h : RdR w M B P S D nm nb np ns nd ms bs ps ss ds) (hb : Below w.heap.size w w') : RdR w' M B P S D nm nb np ns nd ms bs ps ss ds :=
  ⟨h.m.below hb, h.b.below hb, h.p.below hb, h.s.below hb, h.d.below hb⟩
/-- the bounds on a redacted document's rows -/
structure BdR (N nm nb np ns nd : Nat) (ds : List (List Int)) : Prop where
  m : nm ≤ N
  b : nb ≤ N
  p : np ≤ N
  s : ns ≤ N
  d : nd ≤ N
  l : ∀ x ∈ ds, x.length ≤ N
theorem BdR.mono {N N2 nm nb np ns nd : Nat} {ds : List (List Int)} (h : BdR N nm nb np ns nd ds) (hN : N ≤ N2) : BdR N2 nm nb np ns nd ds :=
  ⟨Nat.le_trans h.m hN, Nat.le_trans h.b hN, Nat.le_trans h.p hN, Nat.le_trans h.s hN, Nat.le_trans h.d hN, fun x hx => Nat.le_trans (h.l x hx) hN⟩
/-- what a redacted document is worth -/
structure RedD where
  t : Int
  ms : List Int
  bs : List Bool
  ps : List ByteArray
  ss : List Int
  ds : List (List Int)
theorem RedD.eq_iff {x y : RedD} : x = y ↔ x.t = y.t ∧ x.ms = y.ms ∧ x.bs = y.bs ∧ x.ps = y.ps ∧ x.ss = y.ss ∧ x.ds = y.ds := by cases x; cases y; simp
instance : DecidableEq RedD := fun _ _ => decidable_of_decidable_of_iff RedD.eq_iff.symm
/-! ### A block and its cells -/
def Blk (w : World) (b : Nat) (vs : List Value) : Prop := ∀ (i : Nat) (v : Value), vs[i]? = some v → w.cell? ⟨b, i, none⟩ = some v ∧ w.frozen? ⟨b, i, none⟩ = false
theorem Blk.lt {w : World} {b : Nat} {v : Value} {vs : List Value} (h : Blk w b (v :: vs)) : b < w.heap.size := cell_lt (h 0 v rfl).1
theorem Blk.below {w w' : World} {b : Nat} {v : Value} {vs : List Value} (h : Blk w b (v :: vs)) (hb : Below w.heap.size w w') : Blk w' b (v :: vs) :=
  fun i u hu => ⟨(hb.cell (p := ⟨b, i, none⟩) h.lt).trans (h i u hu).1, (hb.frozen (p := ⟨b, i, none⟩) h.lt).trans (h i u hu).2⟩
theorem Blk.set {w : World} {b : Nat} {vs : List Value} (h : Blk w b vs) (j : Nat) (u : Value) : Blk (w.setCell ⟨b, j, none⟩ u) b (vs.set j u) := by
  intro i v hv
  rw [List.getElem?_set] at hv
  by_cases hij : j = i
  · subst hij
    rw [if_pos rfl] at hv
    by_cases hl : j < vs.length
    · rw [if_pos hl] at hv
      injection hv with hv
      subst hv
      obtain ⟨h1, h2⟩ := h j _ (List.getElem?_eq_getElem hl)
      exact ⟨World.cell?_setCell_same _ _ _ h1, by rw [World.frozen?_setCell]; exact h2⟩
    · rw [if_neg hl] at hv
      cases hv
  · rw [if_neg hij] at hv
    obtain ⟨h1, h2⟩ := h i v hv
    exact ⟨(World.cell?_setCell_other _ _ _ _ (by simp <;> omega)).trans h1, by rw [World.frozen?_setCell]; exact h2⟩
theorem Blk.other {w : World} {b g j : Nat} {vs : List Value} {u : Value} (h : Blk w b vs) (hg : g ≠ b) : Blk (w.setCell ⟨g, j, none⟩ u) b vs := by
  intro i v hv
  obtain ⟨h1, h2⟩ := h i v hv
  exact ⟨(World.cell?_setCell_other _ _ _ _ (by simp <;> omega)).trans h1, by rw [World.frozen?_setCell]; exact h2⟩
theorem Blk.drewN {w : World} {b : Nat} {vs : List Value} (h : Blk w b vs) (q : Nat) : Blk (w.drewN q) b vs := h
theorem Blk.new (w : World) (c : Array Value) (t : TypeId) : Blk (w.alloc (.cells c t)) w.heap.size c.toList := by
  intro i v hv
  refine ⟨by rw [World.cell?_alloc_new]; simpa using hv, World.frozen?_alloc_new _ _ _ _⟩
theorem Blk.new_ (w : World) (c : Array Value) (t : TypeId) {k : Nat} (hk : k = w.heap.size) : Blk (w.alloc (.cells c t)) k c.toList := by subst hk; exact Blk.new w c t
theorem Blk.alloc {w : World} {b : Nat} {v : Value} {vs : List Value} (h : Blk w b (v :: vs)) (o : Obj) : Blk (w.alloc o) b (v :: vs) := h.below ((Below.refl _ _).alloc (Nat.le_refl _) o)
theorem Blk.c0 {w : World} {b : Nat} {v : Value} {vs : List Value} (h : Blk w b (v :: vs)) : w.cell? ⟨b, 0, none⟩ = some v := (h 0 v rfl).1
theorem Blk.six {w : World} {b : Nat} {v0 v1 v2 v3 v4 v5 : Value} (h : Blk w b [v0, v1, v2, v3, v4, v5]) :
    (w.cell? ⟨b, 0, none⟩ = some v0 ∧ w.cell? ⟨b, 1, none⟩ = some v1 ∧ w.cell? ⟨b, 2, none⟩ = some v2 ∧ w.cell? ⟨b, 3, none⟩ = some v3 ∧ w.cell? ⟨b, 4, none⟩ = some v4 ∧ w.cell? ⟨b, 5, none⟩ = some v5) ∧
    (w.frozen? ⟨b, 0, none⟩ = false ∧ w.frozen? ⟨b, 1, none⟩ = false ∧ w.frozen? ⟨b, 2, none⟩ = false ∧ w.frozen? ⟨b, 3, none⟩ = false ∧ w.frozen? ⟨b, 4, none⟩ = false ∧ w.frozen? ⟨b, 5, none⟩ = false) :=
  ⟨⟨(h 0 _ rfl).1, (h 1 _ rfl).1, (h 2 _ rfl).1, (h 3 _ rfl).1, (h 4 _ rfl).1, (h 5 _ rfl).1⟩, (h 0 _ rfl).2, (h 1 _ rfl).2, (h 2 _ rfl).2, (h 3 _ rfl).2, (h 4 _ rfl).2, (h 5 _ rfl).2⟩
theorem Blk.three {w : World} {b : Nat} {v0 v1 v2 : Value} (h : Blk w b [v0, v1, v2]) :
    (w.cell? ⟨b, 0, none⟩ = some v0 ∧ w.cell? ⟨b, 1, none⟩ = some v1 ∧ w.cell? ⟨b, 2, none⟩ = some v2) ∧ (w.frozen? ⟨b, 0, none⟩ = false ∧ w.frozen? ⟨b, 1, none⟩ = false ∧ w.frozen? ⟨b, 2, none⟩ = false) :=
  ⟨⟨(h 0 _ rfl).1, (h 1 _ rfl).1, (h 2 _ rfl).1⟩, (h 0 _ rfl).2, (h 1 _ rfl).2, (h 2 _ rfl).2⟩
end Go.Proofs.Ythjdigiaajdnbaa
