/- Contracts of the laws' own marking of documents. For rows of at most 2^40 elements. -/
import Derived.Test.YthjdigiaajdnbaaRed
import Derived.Test.YthjdigiaajdnbaaDoc
namespace Go.Proofs.Ythjdigiaajdnbaa
open Go.RowKit Go.WideShapes Go.ChangeShapes Go.Deep
set_option linter.unusedSimpArgs false
set_option linter.unusedVariables false
set_option maxRecDepth 1000000
theorem own_kept {w w' : World} {b : Nat} {e : TypeId} {s n c : Nat} {A : Option Addr} {xs : List Value} {row : Option Nat} (h : w.ownsRow b e s (.slice A n c) n xs) (hg : w.grownBy w' row) (hne : ∀ g, blk A = some g → row ≠ some g) : w'.ownsRow b e s (.slice A n c) n xs := by
  refine h.kept hg ?_
  rw [blk_own]
  cases hb : blk A with
  | none => exact .inl rfl
  | some g => exact .inr fun he => hne g hb he.symm
theorem Blk.grown {w w' : World} {b : Nat} {v : Value} {vs : List Value} {row : Option Nat} (h : Blk w b (v :: vs)) (hg : w.grownBy w' row) (hne : row ≠ some b) : Blk w' b (v :: vs) := by
  have hlt := h.lt
  have hbl := hg.block b hlt (fun e => hne e.symm)
  intro i u hu
  obtain ⟨h1, h2⟩ := h i u hu
  refine ⟨?_, ?_⟩
  · rw [← h1]; unfold World.cell?; simp only [hbl]
  · rw [← h2]; unfold World.frozen?; simp only [hbl]
theorem bx_new {w0 w w' : World} {b bx : Nat} {ex : TypeId} {sx nx cx : Nat} {Ax : Option Addr} {xx : List Value} {v : Value} {vs : List Value} (hB : Blk w b (v :: vs)) (hx : w0.ownsRow bx ex sx (.slice Ax nx cx) nx xx) (hz : w0.heap.size ≤ b) (hg : w.grownBy w' (blk Ax)) : Blk w' b (v :: vs) := by
  refine hB.grown hg ?_
  intro he
  have := (hx.lt b (by rw [blk_own]; exact he)).2
  omega
theorem bx_old {w0 w w' : World} {b bx : Nat} {ex : TypeId} {sx nx cx : Nat} {Ax : Option Addr} {xx : List Value} {v : Value} {vs : List Value} (hB : Blk w b (v :: vs)) (hx : w0.ownsRow bx ex sx (.slice Ax nx cx) nx xx) (hz : b < bx) (hg : w.grownBy w' (blk Ax)) : Blk w' b (v :: vs) := by
  refine hB.grown hg ?_
  intro he
  have := (hx.lt b (by rw [blk_own]; exact he)).1
  omega
end Go.Proofs.Ythjdigiaajdnbaa
