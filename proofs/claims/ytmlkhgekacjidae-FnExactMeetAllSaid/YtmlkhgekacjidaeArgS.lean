/- What an argument of a law is where it is a slice of structs. -/
import Derived.Test.YtmlkhgekacjidaeArgs
import Derived.Test.YtmlkhgekacjidaeStr
import Derived.Deep.Slices
import Derived.Deep.Fields
import Derived.ChangeSame
namespace Go.Proofs.Ytmlkhgekacjidae
open Go.RowKit Go.WideShapes Go.ChangeShapes Go.Deep Go.Joins
set_option maxRecDepth 1000000
set_option linter.unusedSimpArgs false
set_option linter.unusedVariables false
section
variable {H : Type} {enc : TypeId × Value → H} {P : Program} {w : World} {base : Nat} {spare : Nat → Bool} {held : Bool}
/- howto/extra-structs.md's block 1 -/
theorem open_slice_fields {t e : TypeId} {fs : Array Field} {fuel : Nat} {cs : List Value} {x : DataW H × List MemPlace} (ht : P.underlying t = some (.slice e)) (he : P.underlying e = some (.struct fs))
    (hone : oneCellFields P fs = true) (hC : P.cellsOf e = fs.size) (h : DataW.trod enc P w base spare held fuel t cs = some x) :
    (cs = [.slice none 0 0] ∧ x = (.nil, [])) ∨
    ∃ (a : Addr) (len cap m : Nat) (D : Nat → DataW H) (Pl : Nat → List MemPlace), cs = [.slice (some a) len cap] ∧ base ≤ a.block ∧ len ≤ cap ∧ cap ≤ maxLen ∧ m = (if spare a.block then cap else len) ∧
      x = (.slice ((List.range len).map D) ((List.range (m - len)).map fun j => D (len + j)), MemPlace.row a (m * fs.size) ++ (List.range m).flatMap Pl) ∧
      ∀ i, i < m → ∃ (ys : List (DataW H × List MemPlace)) (n : Nat), D i = .agg (ys.map (·.1)) ∧ Pl i = ys.flatMap (·.2) ∧ ys.length = fs.size ∧
        ∀ (j : Nat) (f : Field), fs[j]? = some f → ∃ (v : Value) (y : DataW H × List MemPlace), w.cell? (a.add (i * fs.size + j)) = some v ∧ ys[j]? = some y ∧ DataW.trod enc P w base spare held n f.type [v] = some y := by
  rcases open_slice ht h with h0 | ⟨a, len, cap, m, n, D, Pl, hcs, hb, hl, hm, hmm, hx, hi⟩
  · exact .inl h0
  · refine .inr ⟨a, len, cap, m, D, Pl, hcs, hb, hl, hm, hmm, by rw [hC] at hx; exact hx, fun i him => ?_⟩
    obtain ⟨cs', hc, ht'⟩ := hi i him
    rw [hC] at hc
    obtain ⟨ys, n', hn', hy, hlen, hyl, hf⟩ := DataW.trod_struct he ht'
    obtain ⟨_, hcl, hat⟩ := World.cells?_some hc
    simp only [Prod.mk.injEq] at hy
    refine ⟨ys, n', hy.1, hy.2, hyl, fun j f hj => ?_⟩
    obtain ⟨ho, hk⟩ := hone_of hone j f hj
    have hjl : j < fs.size := (Array.getElem?_eq_some_iff.1 hj).1
    have hcell := hat j hjl
    have hv : cs'[j]? = some (cs'[j]'(by omega)) := List.getElem?_eq_getElem (by omega)
    have h1 := hf j f hj
    rw [ho, hk] at h1
    have hone' : (cs'.drop j).take 1 = [cs'[j]'(by omega)] := by
      rw [List.drop_eq_getElem_cons (by omega)]
      rfl
    rw [hone'] at h1
    have hys : ys[j]? = some (ys[j]'(by omega)) := List.getElem?_eq_getElem (by omega)
    refine ⟨_, _, ?_, hys, h1.trans hys⟩
    rw [← Go.Deep.add_add, hcell, hv]
end
section
variable {H : Type} {enc : TypeId × Value → H} {W : World} {base : Nat} {v : Value} {d : DataW H} {p : List MemPlace}
theorem okslice_cap {a0 : Option Addr} {len cap : Nat} {b : Option Addr} {l2 c2 : Nat} (h : [Value.slice a0 len cap] = [Value.slice b l2 c2]) : a0 = b ∧ len = l2 ∧ cap = c2 := by
  injection h with h
  injection h with h1 h2 h3
  exact ⟨h1, h2, h3⟩
def InSpans (W : World) (v : Value) : Prop := ∃ A n c l, v = .slice A n c ∧ n ≤ 9223372036854775807 ∧ Rd W 2 A n (sps l) ∧ ∀ m ∈ l, I64 m.f ∧ I64 m.t
theorem InSpans.of (hv : Value.okWide Try.prog W .any base 52 v) (h : DataW.Trod enc Try.prog W 0 (fun _ => true) true 52 v d p) : InSpans W v := by
  obtain ⟨a0, len, cap, rfl⟩ := okWide_slice Try.underlying52 hv
  obtain ⟨fuel, hf⟩ := h
  rcases open_slice_fields Try.underlying52 Try.underlying124 (by kernel_rfl) (by kernel_rfl) hf with ⟨hcs, _⟩ | ⟨a, len', cap', m, D, Pl, hcs, _, hl, hm, hmm, _, hi⟩
  · obtain ⟨rfl, rfl, rfl⟩ := okslice_cap hcs
    exact ⟨none, 0, 0, [], rfl, by omega, Rd.nil _ _ _, by simp⟩
  · obtain ⟨rfl, rfl, rfl⟩ := okslice_cap hcs
    have hme : m = cap := by simpa using hmm
    subst hme
    have key : ∀ i : Nat, ∃ x : Sp, i < len → (∀ j u, (spc x)[j]? = some u → W.cell? (a.add (i * 2 + j)) = some u) ∧ I64 x.f ∧ I64 x.t := by
      intro i
      by_cases hlt : i < len
      · obtain ⟨ys, n, _, _, _, hff⟩ := hi i (by omega)
        obtain ⟨v0, y0, hc0, _, ht0⟩ := hff 0 _ rfl
        obtain ⟨v1, y1, hc1, _, ht1⟩ := hff 1 _ rfl
        obtain ⟨x0, e0, _, w0⟩ := DataW.trod_int Try.underlying3 ht0
        obtain ⟨x1, e1, _, w1⟩ := DataW.trod_int Try.underlying3 ht1
        simp at e0 e1
        subst e0 e1
        refine ⟨⟨x0, x1⟩, fun _ => ⟨?_, bounds_i64 w0, bounds_i64 w1⟩⟩
        intro j u hu
        match j, hu with
        | 0, hu => injection hu with hu; subst hu; exact hc0
        | 1, hu => injection hu with hu; subst hu; exact hc1
      · exact ⟨⟨0, 0⟩, fun h => absurd h hlt⟩
    obtain ⟨F, hF⟩ := Classical.axiomOfChoice key
    have hget : ∀ (k : Nat) (x : Sp), ((List.range len).map F)[k]? = some x → k < len ∧ F k = x := by
      intro k x hx
      rw [List.getElem?_map] at hx
      simp only [Option.map_eq_some_iff] at hx
      obtain ⟨i, hi, rfl⟩ := hx
      have hk := get_lt hi
      rw [List.length_range] at hk
      rw [List.getElem?_range hk] at hi
      injection hi with hi
      subst hi
      exact ⟨hk, rfl⟩
    refine ⟨some a, len, m, (List.range len).map F, rfl, by unfold maxLen at hm; omega, Rd.of_flat spc_len (by omega) (by simp) ?_, ?_⟩
    · intro k x hx j u hu
      obtain ⟨hk, rfl⟩ := hget k x hx
      exact (hF k hk).1 j u hu
    · intro x hx
      obtain ⟨k, hkx⟩ := List.mem_iff_getElem?.1 hx
      obtain ⟨hk, rfl⟩ := hget k x hkx
      exact (hF k hk).2
end
end Go.Proofs.Ytmlkhgekacjidae
