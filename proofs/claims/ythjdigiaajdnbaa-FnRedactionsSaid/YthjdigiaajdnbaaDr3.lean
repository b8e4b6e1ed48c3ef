/- Contracts of what draws a key, values, bytes and a label. For codes of at most 2^20 bytes. -/
import Derived.Test.YthjdigiaajdnbaaDraw
namespace Go.Proofs.Ythjdigiaajdnbaa
open Go.RowKit Go.WideShapes Go.ChangeShapes Go.Deep
set_option linter.unusedSimpArgs false
set_option linter.unusedVariables false
set_option maxRecDepth 1000000
theorem Drawn.lit {w w1 w2 : World} {p : Nat} {o : Obj} (h : Drawn w w1 p) (k : Drawn (w1.alloc o) w2 p) : Drawn w w2 p := (h.below ((Below.refl w1.heap.size w1).alloc (Nat.le_refl _) o)).next k
theorem Drawn.lit0 {w w2 : World} {p : Nat} {o : Obj} (hC : Cur w p) (k : Drawn (w.alloc o) w2 p) : Drawn w w2 p := Drawn.of ((Below.refl w.heap.size w).alloc (Nat.le_refl _) o) k
theorem big_any {A : Option Addr} {n c : Nat} (w : World) : Calls Try.prog 6 #[.slice A n c] w fun e w' => e = .returned (.bool (decide (1048576 < (n : Int)))) ∧ w = w' := by
  go_enter Try.func6, Try.ntmps6
  go_wp2_with fail
  go_ret
  exact ⟨rfl, rfl⟩
end Go.Proofs.Ythjdigiaajdnbaa
