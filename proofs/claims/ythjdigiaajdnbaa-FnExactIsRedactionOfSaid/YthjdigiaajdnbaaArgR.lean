/- What an argument of a law is where it is a redacted document. -/
import Derived.Test.YthjdigiaajdnbaaArgD
import Derived.Test.YthjdigiaajdnbaaRed
import Derived.Deep.Matrix
import Derived.Deep.Grids
namespace Go.Proofs.Ythjdigiaajdnbaa
open Go.RowKit Go.WideShapes Go.ChangeShapes Go.Deep Go.Joins
set_option maxRecDepth 1000000
set_option linter.unusedSimpArgs false
set_option linter.unusedVariables false
theorem range_at {len j x : Nat} (h : (List.range len)[j]? = some x) : j < len ∧ j = x := by
  have h1 := get_lt h
  simp at h1
  rw [List.getElem?_eq_getElem (by simpa using h1)] at h
  simp at h
  exact ⟨h1, h⟩
theorem Rd.of_fn {W : World} {a : Addr} {len : Nat} {f : Nat → Value} (hc : ∀ i, i < len → W.cell? (a.add i) = some (f i)) : Rd W 1 (some a) len ((List.range len).map f) := by
  refine ⟨by simp, fun _ => ⟨a, rfl, fun j u hu => ?_⟩⟩
  simp only [List.getElem?_map, Option.map_eq_some_iff] at hu
  obtain ⟨x, hx, rfl⟩ := hu
  obtain ⟨hj, rfl⟩ := range_at hx
  exact hc _ hj
section
variable {H : Type} {enc : TypeId × Value → H} {W : World} {base : Nat} {v : Value} {d : DataW H} {p : List MemPlace}
/-- a struct of six one-cell fields, by value (howto/extra-structs.md) -/
theorem open_agg6 {P : Program} {w : World} {base : Nat} {spare : Nat → Bool} {held : Bool} {r : Reach} {b0 : Nat} {t : TypeId} {f0 f1 f2 f3 f4 f5 : Field} {v : Value} {d : DataW H} {p : List MemPlace} (hs : P.underlying t = some (.struct #[f0, f1, f2, f3, f4, f5])) (hone : oneCellFields P #[f0, f1, f2, f3, f4, f5] = true) (hC : P.cellsOf t = 6)
    (hv : Value.okWide P w r b0 t v) (h : DataW.Trod enc P w base spare held t v d p) :
    ∃ (v0 v1 v2 v3 v4 v5 : Value) (y0 y1 y2 y3 y4 y5 : DataW H × List MemPlace) (n : Nat), v = .agg #[v0, v1, v2, v3, v4, v5] ∧
      DataW.trod enc P w base spare held n f0.type [v0] = some y0 ∧ DataW.trod enc P w base spare held n f1.type [v1] = some y1 ∧ DataW.trod enc P w base spare held n f2.type [v2] = some y2 ∧ DataW.trod enc P w base spare held n f3.type [v3] = some y3 ∧ DataW.trod enc P w base spare held n f4.type [v4] = some y4 ∧ DataW.trod enc P w base spare held n f5.type [v5] = some y5 := by
  obtain ⟨cs, rfl, hsz⟩ := okWide_struct hs hv
  obtain ⟨l⟩ := cs
  match l, hsz.trans hC with
  | [c0, c1, c2, c3, c4, c5], _ =>
    obtain ⟨fuel, hf⟩ := h
    obtain ⟨xs, n, _, hx, _, hlen, hg⟩ := DataW.trod_struct hs hf
    obtain ⟨o0, k0⟩ := hone_of hone 0 f0 rfl
    obtain ⟨o1, k1⟩ := hone_of hone 1 f1 rfl
    obtain ⟨o2, k2⟩ := hone_of hone 2 f2 rfl
    obtain ⟨o3, k3⟩ := hone_of hone 3 f3 rfl
    obtain ⟨o4, k4⟩ := hone_of hone 4 f4 rfl
    obtain ⟨o5, k5⟩ := hone_of hone 5 f5 rfl
    match xs, hlen with
    | [y0, y1, y2, y3, y4, y5], _ =>
      exact ⟨c0, c1, c2, c3, c4, c5, y0, y1, y2, y3, y4, y5, n, rfl, by simpa [Value.cells, o0, k0] using hg 0 f0 rfl, by simpa [Value.cells, o1, k1] using hg 1 f1 rfl, by simpa [Value.cells, o2, k2] using hg 2 f2 rfl, by simpa [Value.cells, o3, k3] using hg 3 f3 rfl, by simpa [Value.cells, o4, k4] using hg 4 f4 rfl, by simpa [Value.cells, o5, k5] using hg 5 f5 rfl⟩
def InBools (W : World) (v : Value) : Prop := ∃ A n c bs, v = .slice A n c ∧ n ≤ 9223372036854775807 ∧ Rd W 1 A n (bls bs)
theorem InBools.of_cs {fuel : Nat} {hd : Bool} {b0 : Nat} {x : DataW H × List MemPlace} (h : DataW.trod enc Try.prog W b0 (fun _ => true) hd fuel 30 [v] = some x) : InBools W v := by
  rcases open_bools Try.underlying30 Try.underlying4 (by kernel_rfl) h with ⟨hcs, _⟩ | ⟨a, len, cap, B, hcs, _, hl, hm, _, hc⟩
  · injection hcs with hcs
    subst hcs
    exact ⟨none, 0, 0, [], rfl, by omega, Rd.nil _ _ _⟩
  · injection hcs with hcs
    subst hcs
    refine ⟨some a, len, cap, (List.range len).map B, rfl, by unfold maxLen at hm; omega, ?_⟩
    have := Rd.of_fn (W := W) (a := a) (len := len) (f := fun i => .bool (B i)) (fun i hi => hc i (by omega))
    rw [bls, List.map_map]
    exact this
def InIntSS (W : World) (v : Value) : Prop := ∃ A n c ds, v = .slice A n c ∧ n ≤ 9223372036854775807 ∧ RdSS W A n ds ∧ (∀ x ∈ ds, x.length ≤ 9223372036854775807) ∧ ∀ x ∈ ds, ∀ y ∈ x, I64 y
theorem InIntSS.of_cs {fuel : Nat} {hd : Bool} {b0 : Nat} {x : DataW H × List MemPlace} (h : DataW.trod enc Try.prog W b0 (fun _ => true) hd fuel 31 [v] = some x) : InIntSS W v := by
  rcases open_int_rows Try.underlying31 Try.underlying24 Try.underlying3 (by kernel_rfl) (by kernel_rfl) h with ⟨hcs, _⟩ | ⟨a, len, cap, A, L, C, Z, hcs, _, hl, hm, _, hx⟩
  · injection hcs with hcs
    subst hcs
    exact ⟨none, 0, 0, [], rfl, by omega, ⟨[], Rd.nil _ _ _, rfl, by simp⟩, by simp, by simp⟩
  · injection hcs with hcs
    subst hcs
    refine ⟨some a, len, cap, (List.range len).map fun r => (Z r).take (L r), rfl, by unfold maxLen at hm; omega, ⟨(List.range len).map fun r => (A r, L r, C r), ?_, by simp, ?_⟩, ?_, ?_⟩
    · have := Rd.of_fn (W := W) (a := a) (len := len) (f := fun r => srV (A r, L r, C r)) (fun i hi => (hx i (by omega)).1)
      rw [srs, List.map_map]
      exact this
    · intro j r l hr hl2
      simp only [List.getElem?_map, Option.map_eq_some_iff] at hr hl2
      obtain ⟨j1, hj1, rfl⟩ := hr
      obtain ⟨j2, hj2, rfl⟩ := hl2
      obtain ⟨hj, rfl⟩ := range_at hj1
      obtain ⟨_, rfl⟩ := range_at hj2
      obtain ⟨_, hLC, hCm, hZ, _, hnone, hsome⟩ := hx _ (Nat.lt_of_lt_of_le hj hl)
      cases hA : A j with
      | none =>
        have h0 := hnone hA
        have h1 : L j = 0 := by omega
        show Rd W 1 none (L j) (ints ((Z j).take (L j)))
        rw [h1, List.take_zero]
        exact Rd.nil _ _ _
      | some a' =>
        obtain ⟨_, hc⟩ := hsome a' hA
        show Rd W 1 (some a') (L j) (ints ((Z j).take (L j)))
        exact Rd.of_cells (f := Value.int .i64) (dflt := 0) (by omega) (fun i hi => hc i (by omega))
    · intro x hx2
      obtain ⟨r, hr, rfl⟩ := List.mem_map.1 hx2
      obtain ⟨_, hLC, hCm, hZ, _⟩ := hx r (by have := List.mem_range.1 hr; omega)
      unfold maxLen at hCm
      simp
      omega
    · intro x hx2 y hy
      obtain ⟨r, hr, rfl⟩ := List.mem_map.1 hx2
      obtain ⟨_, hLC, hCm, hZ, hw, _⟩ := hx r (by have := List.mem_range.1 hr; omega)
      exact bounds_i64 (hw y (List.mem_of_mem_take hy))
def InRed (W : World) (v : Value) : Prop := ∃ t M B P S D nm nb np ns nd cm cb cp cs cd ms bs ps ss ds, v = reV t M B P S D nm nb np ns nd cm cb cp cs cd ∧ I64 t ∧ RdR W M B P S D nm nb np ns nd ms bs ps ss ds ∧ BdR 9223372036854775807 nm nb np ns nd ds ∧ (∀ x ∈ ps, x.size ≤ 9223372036854775807) ∧ (∀ x ∈ ms, I64 x) ∧ (∀ x ∈ ss, I64 x) ∧ ∀ x ∈ ds, ∀ y ∈ x, I64 y
theorem InRed.of (hv : Value.okWide Try.prog W .any base 45 v) (h : DataW.Trod enc Try.prog W 0 (fun _ => true) true 45 v d p) : InRed W v := by
  obtain ⟨c0, c1, c2, c3, c4, c5, y0, y1, y2, y3, y4, y5, m, rfl, hy0, hy1, hy2, hy3, hy4, hy5⟩ := open_agg6 Try.underlying45 (by kernel_rfl) (by kernel_rfl) hv h
  obtain ⟨a, e0, _, wa⟩ := DataW.trod_int Try.underlying3 hy0
  simp at e0
  subst e0
  obtain ⟨M, nm, cm, ms, rfl, hnm, hM, hms⟩ := InInts.of_cs (sp := fun _ => true) hy1
  obtain ⟨B, nb, cb, bs, rfl, hnb, hB⟩ := InBools.of_cs hy2
  obtain ⟨P, np, cp, ps, rfl, hnp, hP, hps⟩ := InStrings.of_cs hy3
  obtain ⟨S, ns, cs, ss, rfl, hns, hS, hss⟩ := InInts.of_cs (sp := fun _ => true) hy4
  obtain ⟨D, nd, cd, ds, rfl, hnd, hD, hdl, hds⟩ := InIntSS.of_cs hy5
  exact ⟨a, M, B, P, S, D, nm, nb, np, ns, nd, cm, cb, cp, cs, cd, ms, bs, ps, ss, ds, rfl, bounds_i64 wa, ⟨hM, hB, hP, hS, hD⟩, ⟨hnm, hnb, hnp, hns, hnd, hdl⟩, hps, hms, hss, hds⟩
end
end Go.Proofs.Ythjdigiaajdnbaa
