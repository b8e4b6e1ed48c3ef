/- Contracts of FindMethod, of the program and of the reference. For slices of at most 2^40 methods. -/
import Derived.Test.YtgeffaohdoeclaaStr
import Derived.Test.YtgeffaohdoeclaaMeth
namespace Go.Proofs.Ytgeffaohdoeclaa
open Go.RowKit Go.WideShapes Go.ChangeShapes Go.Deep
set_option linter.unusedSimpArgs false
set_option linter.unusedVariables false
/-- where the first method with this number stands, or none -/
def findF (l : List Mt) (id : Int) : Option Nat := l.findIdx? (fun m => decide (m.a = id))
def findI (l : List Mt) (id : Int) : Int := match findF l id with | none => -1 | some k => (k : Int)
theorem findI_hit {l : List Mt} {id : Int} {k : Nat} {m : Mt} (h : ∀ (j : Nat) (m' : Mt), j < k → l[j]? = some m' → m'.a ≠ id) (hk : l[k]? = some m) (hm : m.a = id) : findF l id = some k := by
  unfold findF
  rw [List.findIdx?_eq_some_iff_getElem]
  have hl := get_lt hk
  rw [List.getElem?_eq_getElem hl] at hk
  injection hk with hk
  refine ⟨hl, by rw [hk]; simpa using hm, fun j hj => ?_⟩
  simpa using h j _ hj (List.getElem?_eq_getElem (by omega))
theorem findI_miss {l : List Mt} {id : Int} (h : ∀ (j : Nat) (m' : Mt), l[j]? = some m' → m'.a ≠ id) : findF l id = none := by
  unfold findF
  rw [List.findIdx?_eq_none_iff]
  intro m hm
  obtain ⟨j, hj⟩ := List.mem_iff_getElem?.1 hm
  simpa using h j m hj
/-- no method ahead of k has this number -/
def NoneTo (l : List Mt) (id : Int) (k : Nat) : Prop := ∀ (j : Nat) (m' : Mt), j < k → l[j]? = some m' → m'.a ≠ id
theorem NoneTo.step {l : List Mt} {id : Int} {k : Nat} {m : Mt} (h : NoneTo l id k) (hk : l[k]? = some m) (hm : m.a ≠ id) : NoneTo l id (k + 1) := by
  intro j m' hj hj'
  rcases Nat.lt_or_ge j k with h1 | h1
  · exact h j m' h1 hj'
  · obtain rfl : j = k := by omega
    rw [hk] at hj'
    injection hj' with e
    exact e ▸ hm
theorem NoneTo.all {l : List Mt} {id : Int} {k : Nat} (h : NoneTo l id k) (hk : l.length ≤ k) : findF l id = none :=
  findI_miss fun j m' hj => h j m' (by have := get_lt hj; omega) hj
theorem findI_some {l : List Mt} {id : Int} {k : Nat} (h : findF l id = some k) : findI l id = k := by unfold findI; rw [h]
theorem findI_none {l : List Mt} {id : Int} (h : findF l id = none) : findI l id = -1 := by unfold findI; rw [h]
end Go.Proofs.Ytgeffaohdoeclaa
