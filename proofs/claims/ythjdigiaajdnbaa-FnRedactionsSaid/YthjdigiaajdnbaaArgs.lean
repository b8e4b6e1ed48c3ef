/- What an argument of a law is, by its type, out of the form's own reading. -/
import Derived.Test.YthjdigiaajdnbaaBase
import Derived.Test.YthjdigiaajdnbaaRows
import Derived.Lib.SmallJoins
namespace Go.Proofs.Ythjdigiaajdnbaa
open Go.RowKit Go.WideShapes Go.ChangeShapes Go.Deep Go.Joins
set_option maxRecDepth 1000000
set_option linter.unusedSimpArgs false
set_option linter.unusedVariables false

theorem laid : laidOutB Try.prog = true := by kernel_rfl


section
variable {H : Type} {enc : TypeId × Value → H} {W : World} {base : Nat} {v : Value} {d : DataW H} {p : List MemPlace}

def InInt (_ : World) (v : Value) : Prop := ∃ x, v = .int .i64 x ∧ I64 x
theorem InInt.of (hv : Value.okWide Try.prog W .any base 3 v) (h : DataW.Trod enc Try.prog W 0 (fun _ => true) true 3 v d p) : InInt W v := by
  obtain ⟨x, rfl, _, _, wx⟩ := open_int Try.underlying3 hv h
  exact ⟨x, rfl, bounds_i64 wx⟩


/-- a struct of five one-cell fields, by value (howto/extra-structs.md) -/
theorem open_agg5 {P : Program} {w : World} {base : Nat} {spare : Nat → Bool} {held : Bool} {r : Reach} {b0 : Nat} {t : TypeId} {f0 f1 f2 f3 f4 : Field} {v : Value} {d : DataW H} {p : List MemPlace} (hs : P.underlying t = some (.struct #[f0, f1, f2, f3, f4])) (hone : oneCellFields P #[f0, f1, f2, f3, f4] = true) (hC : P.cellsOf t = 5)
    (hv : Value.okWide P w r b0 t v) (h : DataW.Trod enc P w base spare held t v d p) :
    ∃ (v0 v1 v2 v3 v4 : Value) (y0 y1 y2 y3 y4 : DataW H × List MemPlace) (n : Nat), v = .agg #[v0, v1, v2, v3, v4] ∧ d = .agg [y0.1, y1.1, y2.1, y3.1, y4.1] ∧ p = y0.2 ++ (y1.2 ++ (y2.2 ++ (y3.2 ++ y4.2))) ∧
      DataW.trod enc P w base spare held n f0.type [v0] = some y0 ∧ DataW.trod enc P w base spare held n f1.type [v1] = some y1 ∧ DataW.trod enc P w base spare held n f2.type [v2] = some y2 ∧ DataW.trod enc P w base spare held n f3.type [v3] = some y3 ∧ DataW.trod enc P w base spare held n f4.type [v4] = some y4 := by
  obtain ⟨cs, rfl, hsz⟩ := okWide_struct hs hv
  obtain ⟨l⟩ := cs
  match l, hsz.trans hC with
  | [c0, c1, c2, c3, c4], _ =>
    obtain ⟨fuel, hf⟩ := h
    obtain ⟨xs, n, _, hx, _, hlen, hg⟩ := DataW.trod_struct hs hf
    obtain ⟨o0, k0⟩ := hone_of hone 0 f0 rfl
    obtain ⟨o1, k1⟩ := hone_of hone 1 f1 rfl
    obtain ⟨o2, k2⟩ := hone_of hone 2 f2 rfl
    obtain ⟨o3, k3⟩ := hone_of hone 3 f3 rfl
    obtain ⟨o4, k4⟩ := hone_of hone 4 f4 rfl
    match xs, hlen with
    | [y0, y1, y2, y3, y4], _ =>
      simp only [Prod.mk.injEq] at hx
      exact ⟨c0, c1, c2, c3, c4, y0, y1, y2, y3, y4, n, rfl, by simpa using hx.1, by simpa using hx.2, by simpa [Value.cells, o0, k0] using hg 0 f0 rfl, by simpa [Value.cells, o1, k1] using hg 1 f1 rfl, by simpa [Value.cells, o2, k2] using hg 2 f2 rfl, by simpa [Value.cells, o3, k3] using hg 3 f3 rfl, by simpa [Value.cells, o4, k4] using hg 4 f4 rfl⟩

/-- the cells of a slice of one-cell elements, out of 'zs' (all up to the capacity) -/
theorem Rd.of_cells {α : Type} {f : α → Value} {W : World} {a : Addr} {len : Nat} {zs : List α} {dflt : α} (hz : len ≤ zs.length) (hc : ∀ i, i < zs.length → W.cell? (a.add i) = some (f (zs.getD i dflt))) :
    Rd W 1 (some a) len ((zs.take len).map f) := by
  refine ⟨by simp; omega, fun _ => ⟨a, rfl, fun j u hu => ?_⟩⟩
  simp only [List.getElem?_map, Option.map_eq_some_iff] at hu
  obtain ⟨x, hx, rfl⟩ := hu
  have hj : j < len := by
    have := get_lt hx
    simp at this
    omega
  rw [List.getElem?_take, if_pos hj] at hx
  rw [hc j (by omega), List.getD, hx]
  rfl

def InInts (W : World) (v : Value) : Prop := ∃ A n c l, v = .slice A n c ∧ n ≤ 9223372036854775807 ∧ Rd W 1 A n (ints l) ∧ ∀ x ∈ l, I64 x
theorem InInts.of_cs {fuel : Nat} {sp : Nat → Bool} {hd : Bool} {b0 : Nat} {x : DataW H × List MemPlace} (h : DataW.trod enc Try.prog W b0 (fun _ => true) hd fuel 24 [v] = some x) : InInts W v := by
  rcases open_ints Try.underlying24 Try.underlying3 (by kernel_rfl) h with ⟨hcs, _⟩ | ⟨a, len, cap, zs, hcs, _, hl, hm, hz, _, hc, hw⟩
  · injection hcs with hcs
    subst hcs
    exact ⟨none, 0, 0, [], rfl, by omega, Rd.nil _ _ _, by simp⟩
  · injection hcs with hcs
    subst hcs
    simp at hz
    exact ⟨some a, len, cap, zs.take len, rfl, by unfold maxLen at hm; omega, Rd.of_cells (f := Value.int .i64) (by omega) hc, fun x hx => bounds_i64 (hw x (List.mem_of_mem_take hx))⟩
theorem InInts.of (hv : Value.okWide Try.prog W .any base 24 v) (h : DataW.Trod enc Try.prog W 0 (fun _ => true) true 24 v d p) : InInts W v := by
  obtain ⟨a0, len, cap, rfl⟩ := okWide_slice Try.underlying24 hv
  obtain ⟨fuel, hf⟩ := h
  exact InInts.of_cs (sp := fun _ => true) hf
def InBytes (W : World) (v : Value) : Prop := ∃ A n c l, v = .slice A n c ∧ n ≤ 9223372036854775807 ∧ Rd W 1 A n (u8s l) ∧ ∀ x ∈ l, 0 ≤ x ∧ x ≤ 255
theorem InBytes.of (hv : Value.okWide Try.prog W .any base 22 v) (h : DataW.Trod enc Try.prog W 0 (fun _ => true) true 22 v d p) : InBytes W v := by
  obtain ⟨a0, len, cap, rfl⟩ := okWide_slice Try.underlying22 hv
  obtain ⟨fuel, hf⟩ := h
  rcases open_ints Try.underlying22 Try.underlying5 (by kernel_rfl) hf with ⟨hcs, _⟩ | ⟨a, len, cap, zs, hcs, _, hl, hm, hz, _, hc, hw⟩
  · injection (List.head_eq_of_cons_eq hcs) with e1 e2 e3
    subst e1 e2 e3
    exact ⟨none, 0, 0, [], rfl, by omega, Rd.nil _ _ _, by simp⟩
  · injection (List.head_eq_of_cons_eq hcs) with e1 e2 e3
    subst e1 e2 e3
    simp at hz
    exact ⟨some a, _, _, zs.take _, rfl, by unfold maxLen at hm; omega, Rd.of_cells (f := Value.int .u8) (by omega) hc, fun x hx => bounds_u8 (hw x (List.mem_of_mem_take hx))⟩
def InString (_ : World) (v : Value) : Prop := ∃ s, v = .string s ∧ s.size ≤ 9223372036854775807
theorem InString.of (hv : Value.okWide Try.prog W .any base 9 v) (h : DataW.Trod enc Try.prog W 0 (fun _ => true) true 9 v d p) : InString W v := by
  obtain ⟨s, rfl, _, _, hs⟩ := Go.ChangeMaps.open_string Try.underlying9 hv h
  exact ⟨s, rfl, by unfold maxLen at hs; omega⟩
end
end Go.Proofs.Ythjdigiaajdnbaa
