/- What MakeDocument says, in plain words. No condition. -/
import Derived.Test.YthjdigiaajdnbaaRecX
import Derived.Test.YthjdigiaajdnbaaDocI
import Derived.Test.YthjdigiaajdnbaaKeyed
import Derived.Test.YthjdigiaajdnbaaStringS
namespace Go.Proofs.Ythjdigiaajdnbaa
open Go.RowKit Go.WideShapes Go.ChangeShapes Go.Deep
set_option linter.unusedSimpArgs false
set_option linter.unusedVariables false
set_option maxRecDepth 1000000
def saltF (t seed : Int) (k : Nat) : List Int := (List.range k).map fun i : Nat => max 1 (keyedF seed [t, (i : Int)])
theorem saltF_succ (t seed : Int) (k : Nat) : saltF t seed (k + 1) = saltF t seed k ++ [max 1 (keyedF seed [t, (k : Int)])] := by simp [saltF, List.range_succ]
theorem saltF_len (t seed : Int) (k : Nat) : (saltF t seed k).length = k := by simp [saltF]
def mdOk (t : Int) (ps : List ByteArray) (seed : Int) : Bool := isDoc t ps (saltF t seed ps.length) && inR seed 1 2147483646
def mdT (t : Int) (ps : List ByteArray) (seed : Int) : Int := if mdOk t ps seed = true then t else 0
def mdP (t : Int) (ps : List ByteArray) (seed : Int) : List ByteArray := if mdOk t ps seed = true then ps else []
def mdS (t : Int) (ps : List ByteArray) (seed : Int) : List Int := if mdOk t ps seed = true then saltF t seed ps.length else []
theorem md_no {t : Int} {ps : List ByteArray} {seed : Int} (h : mdOk t ps seed = false) : mdT t ps seed = 0 ∧ mdP t ps seed = [] ∧ mdS t ps seed = [] := by simp [mdT, mdP, mdS, h]
theorem md_yes {t : Int} {ps : List ByteArray} {seed : Int} (h : mdOk t ps seed = true) : mdT t ps seed = t ∧ mdP t ps seed = ps ∧ mdS t ps seed = saltF t seed ps.length := by simp [mdT, mdP, mdS, h]
theorem inR_big {n : Nat} (h : (6 : Int) < (n : Int)) : inR (n : Int) 1 6 = false := by
  rw [Bool.eq_false_iff]
  intro h2
  have := inR_true.1 h2
  omega
theorem Rd.pair (w : World) (x y : Value) (t : TypeId) : Rd (w.alloc (.cells #[x, y] t)) 1 (some ⟨w.heap.size, 0, none⟩) 2 [x, y] := by
  refine ⟨rfl, fun _ => ⟨_, rfl, ?_⟩⟩
  intro j u hu
  match j, hu with
  | 0, hu => simp at hu; subst hu; simp [Addr.add]
  | 1, hu => simp at hu; subst hu; simp [Addr.add]
theorem Rd.drewQ_ {w : World} {s n : Nat} {A : Option Addr} {xs : List Value} (h : Rd w s A n xs) : Rd w.drew s A n xs := h
/-- what MakeDocument hands back -/
def MdOut (w w' : World) (e : Ending) (t : Int) (ps : List ByteArray) (seed : Int) : Prop :=
  ∃ P S n m c d, e = .returned (.tuple #[doV (mdT t ps seed) P S n m c d, .bool (mdOk t ps seed)]) ∧ w'.ownsRow w.heap.size 9 1 (.slice P n c) n (sts (mdP t ps seed)) ∧ w'.ownsRow w.heap.size 3 1 (.slice S m d) m (ints (mdS t ps seed)) ∧ (∀ g, blk P = some g → blk S ≠ some g) ∧ Below w.heap.size w w'
theorem MdOut.no {w w' : World} {e : Ending} {t : Int} {ps : List ByteArray} {seed : Int} (h : mdOk t ps seed = false) (he : e = .returned (.tuple #[doV 0 none none 0 0 0 0, .bool false])) (hb : Below w.heap.size w w') : MdOut w w' e t ps seed := by
  obtain ⟨h1, h2, h3⟩ := md_no h
  exact ⟨none, none, 0, 0, 0, 0, by rw [he, h1, h], by rw [h2]; exact World.ownsRow_nil _ _ _ _, by rw [h3]; exact World.ownsRow_nil _ _ _ _, (by intro g hg; cases hg), hb⟩
end Go.Proofs.Ythjdigiaajdnbaa
