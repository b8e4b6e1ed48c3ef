/- What an argument of a law is where it is a document. -/
import Derived.Test.YthjdigiaajdnbaaArgs
import Derived.Test.YthjdigiaajdnbaaDoc
import Derived.SliceStrings
import Derived.Deep.Strs
namespace Go.Proofs.Ythjdigiaajdnbaa
open Go.RowKit Go.WideShapes Go.ChangeShapes Go.Deep Go.Joins
set_option maxRecDepth 1000000
set_option linter.unusedSimpArgs false
set_option linter.unusedVariables false
section
variable {H : Type} {enc : TypeId × Value → H} {W : World} {base : Nat} {v : Value} {d : DataW H} {p : List MemPlace}
def InStrings (W : World) (v : Value) : Prop := ∃ A n c ps, v = .slice A n c ∧ n ≤ 9223372036854775807 ∧ Rd W 1 A n (sts ps) ∧ ∀ x ∈ ps, x.size ≤ 9223372036854775807
theorem InStrings.of_cs {fuel : Nat} {hd : Bool} {b0 : Nat} {x : DataW H × List MemPlace} (h : DataW.trod enc Try.prog W b0 (fun _ => true) hd fuel 25 [v] = some x) : InStrings W v := by
  rcases open_strings Try.underlying25 Try.underlying9 (by kernel_rfl) h with ⟨hcs, _⟩ | ⟨a, len, cap, zs, hcs, _, hl, hm, hz, _, hc, hw⟩
  · injection hcs with hcs
    subst hcs
    exact ⟨none, 0, 0, [], rfl, by omega, Rd.nil _ _ _, by simp⟩
  · injection hcs with hcs
    subst hcs
    simp at hz
    exact ⟨some a, len, cap, zs.take len, rfl, by unfold maxLen at hm; omega, Rd.of_cells (f := Value.string) (by omega) hc, fun x hx => by have := hw x (List.mem_of_mem_take hx); unfold maxLen at this; omega⟩
theorem InStrings.of (hv : Value.okWide Try.prog W .any base 25 v) (h : DataW.Trod enc Try.prog W 0 (fun _ => true) true 25 v d p) : InStrings W v := by
  obtain ⟨a0, len, cap, rfl⟩ := okWide_slice Try.underlying25 hv
  obtain ⟨fuel, hf⟩ := h
  exact InStrings.of_cs hf
def InDoc (W : World) (v : Value) : Prop := ∃ t P n c ps S m d ss, v = doV t P S n m c d ∧ I64 t ∧ n ≤ 9223372036854775807 ∧ m ≤ 9223372036854775807 ∧ Rd W 1 P n (sts ps) ∧ Rd W 1 S m (ints ss) ∧ (∀ x ∈ ps, x.size ≤ 9223372036854775807) ∧ ∀ x ∈ ss, I64 x
theorem InDoc.of (hv : Value.okWide Try.prog W .any base 46 v) (h : DataW.Trod enc Try.prog W 0 (fun _ => true) true 46 v d p) : InDoc W v := by
  obtain ⟨c0, c1, c2, y0, y1, y2, m, rfl, _, _, hy0, hy1, hy2⟩ := open_agg3 Try.underlying46 (by kernel_rfl) (by kernel_rfl) hv h
  obtain ⟨a, e0, _, wa⟩ := DataW.trod_int Try.underlying3 hy0
  simp at e0
  subst e0
  obtain ⟨P, n, c, ps, rfl, hn, hP, hps⟩ := InStrings.of_cs hy1
  obtain ⟨S, m', d', ss, rfl, hm, hS, hss⟩ := InInts.of_cs (sp := fun _ => true) hy2
  exact ⟨a, P, n, c, ps, S, m', d', ss, rfl, bounds_i64 wa, hn, hm, hP, hS, hps, hss⟩
end
end Go.Proofs.Ythjdigiaajdnbaa
