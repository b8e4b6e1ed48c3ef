/- Contracts of the laws' own marking of redacted documents. For rows of at most 2^40 elements. -/
import Derived.Test.YthjdigiaajdnbaaRdt
import Derived.Test.YthjdigiaajdnbaaMarkD
import Derived.Test.YthjdigiaajdnbaaBoolS
namespace Go.Proofs.Ythjdigiaajdnbaa
open Go.RowKit Go.WideShapes Go.ChangeShapes Go.Deep
set_option linter.unusedSimpArgs false
set_option linter.unusedVariables false
set_option maxRecDepth 1000000
def mkSS : Int → List Nat → List (List Int)
  | _, [] => []
  | k, n :: ns => mk k n :: mkSS (k + n) ns
theorem mkSS_len : ∀ (k : Int) (ns : List Nat), (mkSS k ns).length = ns.length := by
  intro k ns
  induction ns generalizing k with
  | nil => rfl
  | cons n ns ih => simp [mkSS, ih]
theorem mkSS_at : ∀ {k : Int} {ns : List Nat} {j n : Nat}, ns[j]? = some n → (mkSS k ns)[j]? = some (mk (k + ((ns.take j).sum : Nat)) n) := by
  intro k ns
  induction ns generalizing k with
  | nil => intro j n h; simp at h
  | cons x ns ih =>
    intro j n h
    cases j with
    | zero => simp at h; subst h; simp [mkSS]
    | succ j =>
      simp at h
      have := ih (k := k + x) h
      simp only [mkSS, List.getElem?_cons_succ, this, List.take_succ_cons, List.sum_cons]
      congr 2
      omega
theorem sum_take_succ {ns : List Nat} {j n : Nat} (h : ns[j]? = some n) : (ns.take (j + 1)).sum = (ns.take j).sum + n := by
  rw [take_snoc_ h]; simp
theorem sum_take_le (ns : List Nat) (j : Nat) : (ns.take j).sum ≤ ns.sum := by
  conv => rhs; rw [← List.take_append_drop j ns]
  rw [List.sum_append]; omega
def lens (rs : List Sr) : List Nat := rs.map fun r => r.2.1
theorem lens_at {rs : List Sr} {j : Nat} {r : Sr} (h : rs[j]? = some r) : (lens rs)[j]? = some r.2.1 := by simp [lens, h]
theorem inn_at {rs : List Sr} {ls : List (List Int)} {j : Nat} {r : Sr} {l : List Int} (h : rs[j]? = some r) (h2 : ls[j]? = some l) : (inn rs ls)[j]? = some ⟨3, r.1, r.2.1, r.2.2, ints l⟩ := by
  unfold inn
  rw [List.getElem?_zipWith, h, h2]
theorem inn_len {rs : List Sr} {ls : List (List Int)} (h : rs.length = ls.length) : (inn rs ls).length = rs.length := by simp [inn, h]
theorem inn_set {rs : List Sr} {ls : List (List Int)} {j : Nat} {r : Sr} (h : rs[j]? = some r) (hl : rs.length = ls.length) (l : List Int) : (inn rs ls).set j ⟨3, r.1, r.2.1, r.2.2, ints l⟩ = inn rs (ls.set j l) := by
  apply List.ext_getElem?
  intro i
  have hj := get_lt h
  rw [List.getElem?_set]
  by_cases hij : j = i
  · subst hij
    rw [if_pos rfl, if_pos (by rw [inn_len hl]; exact hj), inn_at h (by rw [List.getElem?_set_self (by omega)])]
  · rw [if_neg hij]
    unfold inn
    rw [List.getElem?_zipWith, List.getElem?_zipWith, List.getElem?_set_ne hij]
def SameAt (w w' : World) (k : Nat) : Prop := w'.heap[k]? = w.heap[k]?
theorem SameAt.trans {a b c : World} {k : Nat} (h : SameAt a b k) (h2 : SameAt b c k) : SameAt a c k := Eq.trans h2 h
/-- one of the rows was written over -/
theorem Rows_.mark {w w' : World} {b k i : Nat} {fs : List Fld} {f : Fld} {ys : List Value} (h : Rows_ w b k fs) (hk : k < w.heap.size) (hb : b ≤ w.heap.size) (hi : fs[i]? = some f) (ho : w'.ownsRow b f.e 1 (.slice f.A f.n f.c) f.n ys) (hg : w.grownBy w' (blk f.A)) :
    Rows_ w' b k (fs.set i ⟨f.e, f.A, f.n, f.c, ys⟩) ∧ Below b w w' ∧ SameAt w w' k := by
  refine ⟨h.app (w' := w) hk hi (Below.refl _ _) ho hg (.inl rfl), ?_, ?_⟩
  · refine ⟨hg.os, hg.tape, hg.output, hg.size, fun g hgb => ?_⟩
    refine hg.block g (by omega) fun e => ?_
    have := ((h.own i f hi).lt g (by rw [blk_own]; exact e.symm)).1
    omega
  · exact hg.block k hk fun e => h.off i f hi e.symm
end Go.Proofs.Ythjdigiaajdnbaa
