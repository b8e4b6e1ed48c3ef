/- Bounds on what RedactDocument hands back. No condition but those stated. -/
import Derived.Test.YthjdigiaajdnbaaMkR2
namespace Go.Proofs.Ythjdigiaajdnbaa
open Go.RowKit Go.WideShapes Go.ChangeShapes Go.Deep
set_option linter.unusedSimpArgs false
set_option linter.unusedVariables false
set_option maxRecDepth 1000000
theorem Rows_.low {w : World} {b k k2 : Nat} {fs : List Fld} (h : Rows_ w b k fs) (hk : k2 < b) : Rows_ w b k2 fs :=
  ⟨h.own, fun i f hi he => by have := ((h.own i f hi).lt k2 (by rw [blk_own]; exact he)).1; omega, h.ap⟩
theorem Rows_.grown {w w' : World} {b k : Nat} {fs : List Fld} {row : Option Nat} (h : Rows_ w b k fs) (hg : w.grownBy w' row) (hne : ∀ (i : Nat) (f : Fld), fs[i]? = some f → ∀ q, blk f.A = some q → row ≠ some q) : Rows_ w' b k fs :=
  ⟨fun i f hi => own_kept (h.own i f hi) hg (hne i f hi), h.off, h.ap⟩
/-- rows that lie below a row that is written over -/
theorem Rows_.under {w0 w w' : World} {b b0 k k0 bx : Nat} {fs : List Fld} {ex : TypeId} {sx nx cx : Nat} {Ax : Option Addr} {xx : List Value} (h : Rows_ w b k fs) (h0 : Rows_ w0 b0 k0 fs) (hx : w.ownsRow bx ex sx (.slice Ax nx cx) nx xx) (hz : w0.heap.size ≤ bx) (hg : w.grownBy w' (blk Ax)) : Rows_ w' b k fs :=
  h.grown hg fun i f hi q hq he => by
    have h1 := ((h0.own i f hi).lt q (by rw [blk_own]; exact hq)).2
    have h2 := (hx.lt q (by rw [blk_own]; exact he)).1
    omega
/-- rows that lie above a row that is written over -/
theorem Rows_.over {w0 w w' : World} {b k bx : Nat} {fs : List Fld} {ex : TypeId} {sx nx cx : Nat} {Ax : Option Addr} {xx : List Value} (h : Rows_ w b k fs) (hx : w0.ownsRow bx ex sx (.slice Ax nx cx) nx xx) (hz : w0.heap.size ≤ b) (hg : w.grownBy w' (blk Ax)) : Rows_ w' b k fs :=
  h.grown hg fun i f hi q hq he => by
    have h1 := ((h.own i f hi).lt q (by rw [blk_own]; exact hq)).1
    have h2 := (hx.lt q (by rw [blk_own]; exact he)).2
    omega
theorem Blk.same {w w' : World} {b : Nat} {vs : List Value} (h : Blk w b vs) (hs : SameAt w w' b) : Blk w' b vs := by
  unfold SameAt at hs
  intro i u hu
  obtain ⟨h1, h2⟩ := h i u hu
  refine ⟨?_, ?_⟩
  · rw [← h1]; unfold World.cell?; simp only [hs]
  · rw [← h2]; unfold World.frozen?; simp only [hs]
/-- rows that lie below b, where nothing below b was turned -/
theorem Rows_.lowb {w0 w w' : World} {b b0 b2 k k0 : Nat} {fs : List Fld} (h : Rows_ w b k fs) (h0 : Rows_ w0 b0 k0 fs) (hz : w0.heap.size ≤ b2) (hb : Below b2 w w') : Rows_ w' b k fs := by
  refine ⟨fun i f hi => ?_, h.off, h.ap⟩
  have ho := h.own i f hi
  rcases ho.2 with h1 | ⟨g, cap, cur, hv, h1, h2, h3⟩
  · exact ⟨ho.1, .inl h1⟩
  · have hA : f.A = some ⟨g, 0, none⟩ := by injection hv
    have hlt := ((h0.own i f hi).lt g (by rw [blk_own, hA]; rfl)).2
    exact ⟨ho.1, .inr ⟨g, cap, cur, hv, h1, (hb.block g (by omega)).trans h2, h3⟩⟩
theorem sum_le_mul : ∀ {ls : List Nat} {N : Nat}, (∀ x ∈ ls, x ≤ N) → ls.sum ≤ ls.length * N := by
  intro ls N
  induction ls with
  | nil => intro _; simp
  | cons x ls ih =>
    intro h
    have h1 := h x List.mem_cons_self
    have h2 := ih fun y hy => h y (List.mem_cons_of_mem _ hy)
    rw [List.sum_cons, List.length_cons, Nat.add_mul, Nat.one_mul]
    omega
/-- the size of what RedactDocument hands back -/
structure SmallR (X : RedD) (N : Nat) : Prop where
  m : X.ms.length ≤ N
  b : X.bs.length ≤ 6
  p : X.ps.length ≤ 6
  s : X.ss.length ≤ 6
  d : X.ds.length ≤ 6
  l : ∀ x ∈ X.ds, x.length ≤ N
theorem redX_small (ms : List Int) (t : Int) (ps : List ByteArray) (ss hd : List Int) : SmallR (redX ms t ps ss hd) ms.length := by
  unfold redX
  split
  · rename_i h
    obtain ⟨_, ⟨_, h6⟩, _⟩ := isDoc_all h
    refine ⟨Nat.le_refl _, by simp [rB]; omega, by simp [rP]; omega, by simp [rS]; omega, by simp [rD]; omega, ?_⟩
    intro x hx
    simp only [rD, List.mem_map] at hx
    obtain ⟨i, _, rfl⟩ := hx
    split
    · simp
    · simp
  · exact ⟨by simp, by simp, by simp, by simp, by simp, by simp⟩
section
variable {w : World} {b kx N : Nat} {M B P S D : Option Addr} {nm nb np ns nd cm cb cp cs cd : Nat} {X : RedD} {rs : List Sr}
theorem small_of (h : Rows_ w b kx ([⟨3, M, nm, cm, ints X.ms⟩, ⟨4, B, nb, cb, bls X.bs⟩, ⟨9, P, np, cp, sts X.ps⟩, ⟨3, S, ns, cs, ints X.ss⟩, ⟨24, D, nd, cd, srs rs⟩] ++ inn rs X.ds)) (hl : rs.length = X.ds.length) (hX : SmallR X N) (hN : N ≤ 2097152) :
    BdR 1099511627776 nm nb np ns nd X.ds ∧ (lens rs).sum ≤ 4398046511104 := by
  have h1 := (h.rdr hl).m.len
  have h2 := (h.rdr hl).b.maplen
  have h3 := (h.rdr hl).p.maplen
  have h4 := (h.rdr hl).s.len
  have h5 := (h.rdr hl).d.len
  have a1 := hX.m
  have a2 := hX.b
  have a3 := hX.p
  have a4 := hX.s
  have a5 := hX.d
  refine ⟨⟨by omega, by omega, by omega, by omega, by omega, fun x hx => by have := hX.l x hx; omega⟩, ?_⟩
  have hlen : (lens rs).length ≤ 6 := by simp [lens]; omega
  have hall : ∀ x ∈ lens rs, x ≤ N := by
    intro x hx
    obtain ⟨j, hj⟩ := List.mem_iff_getElem?.1 hx
    simp only [lens, List.getElem?_map, Option.map_eq_some_iff] at hj
    obtain ⟨r, hr, rfl⟩ := hj
    have hjl := get_lt hr
    obtain ⟨l, hlj⟩ : ∃ l, X.ds[j]? = some l := ⟨_, List.getElem?_eq_getElem (by omega)⟩
    have ho := h.own (5 + j) _ (by rw [List.getElem?_append_right (by simp)]; simp only [List.length_cons, List.length_nil]; rw [show 5 + j - (0 + 1 + 1 + 1 + 1 + 1) = j by omega]; exact inn_at hr hlj)
    have := (Rd.of_own ho).len
    have := hX.l l (List.mem_of_getElem? hlj)
    dsimp only at *
    omega
  have := sum_le_mul hall
  have h6 : (lens rs).length * N ≤ 6 * N := Nat.mul_le_mul_right _ hlen
  omega
end
end Go.Proofs.Ythjdigiaajdnbaa
