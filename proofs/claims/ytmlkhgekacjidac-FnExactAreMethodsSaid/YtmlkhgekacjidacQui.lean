/- A region that draws its order, whose operations read what was there before it, and whose calls make memory of their own and return one value: walked once, in the order of the text. No condition. -/
import Derived.Test.YtmlkhgekacjidacBase
namespace Go.Proofs.Ytmlkhgekacjidac
open Go.RowKit Go.WideShapes Go.ChangeShapes Go.Deep
set_option linter.unusedVariables false
/-- a world in which all that w0 holds is as it was -/
structure After (w0 : World) where
  w : World
  below : Below w0.heap.size w0 w
instance (w0 : World) : Nonempty (After w0) := ⟨⟨w0, Below.refl _ _⟩⟩
def After.c (w0 : World) : World → Prop := fun w' => ∃ x : After w0, w' = x.w
theorem wp_region_after {P : Program} {id : Nat} {Q : Exit → Act → World → Prop} {a : Act} {w0 : World} {l : List Oper} (hm : P.follows .mixedOrders = true) (hB : Region.lexB .any l.toArray = true)
    (h : wpQuiet P l.toArray (fun w' => ∃ x : After w0, w' = x.w) (fun a' => ∀ w', (∃ x : After w0, w' = x.w) → Q .normal a' w') l a) : (Code.region id l.toArray true).wp P Q a w0 :=
  wp_region_quiet (C := fun w' => ∃ x : After w0, w' = x.w) hm hB ⟨⟨w0.drew, (Below.refl _ _).drew⟩, rfl⟩ (by simpa using h)
theorem Calls.after {P : Program} {f : FuncId} {args : Array Value} {w0 : World} {x : After w0} {v : Value}
    (h : Calls P f args x.w fun e w' => e = .returned v ∧ Below x.w.heap.size x.w w') : Calls P f args x.w fun e w' => e = .returned v ∧ ∃ y : After w0, w' = y.w :=
  h.mono fun _ w' ⟨he, hb⟩ => ⟨he, ⟨w', Below.next_ x.below x.below.size hb⟩, rfl⟩
theorem Calls.after_q {P : Program} {f : FuncId} {args : Array Value} {w0 : World} {x : After w0} {v : Value}
    (h : Calls P f args x.w fun e w' => e = .returned v ∧ ∃ q, w' = x.w.drewN q) : Calls P f args x.w fun e w' => e = .returned v ∧ ∃ y : After w0, w' = y.w :=
  h.mono fun _ w' ⟨he, q, hq⟩ => ⟨he, ⟨w', hq ▸ below_drewN x.below q⟩, rfl⟩
theorem Calls.after_s {P : Program} {f : FuncId} {args : Array Value} {w0 : World} {x : After w0} {v : Value}
    (h : Calls P f args x.w fun e w' => e = .returned v ∧ x.w = w') : Calls P f args x.w fun e w' => e = .returned v ∧ ∃ y : After w0, w' = y.w :=
  h.mono fun _ w' ⟨he, hq⟩ => ⟨he, x, hq.symm⟩
theorem after_cell {w0 : World} {a : Addr} {v : Value} (h : w0.cell? a = some v) : ∀ x : After w0, x.w.cell? a = some v := fun x => (x.below.cell (cell_lt h)).trans h
theorem after_cell_f {w0 : World} {b o : Nat} {v : Value} (h : w0.cell? ⟨b, o, none⟩ = some v) : ∀ x : After w0, x.w.cell? ⟨b, o, none⟩ = some v := after_cell h
end Go.Proofs.Ytmlkhgekacjidac
