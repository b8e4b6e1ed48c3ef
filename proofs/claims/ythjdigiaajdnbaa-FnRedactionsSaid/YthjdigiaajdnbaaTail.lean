/- A region that draws its order, whose last operation (number L) writes what an earlier one loads and waits for all of them: a condition S on the world that holds up to L. No condition but those stated. -/
import Derived.Test.YthjdigiaajdnbaaBase
import Derived.OrdersHeld
import Derived.StillTail
import Derived.Deep.RegionHeld3
namespace Go.Proofs.Ythjdigiaajdnbaa
open Go.RowKit Go.WideShapes Go.ChangeShapes Go.Deep
set_option linter.unusedSimpArgs false
set_option linter.unusedVariables false
def nth : List Oper → Nat → Option Oper
  | [], _ => none
  | o :: _, 0 => some o
  | _ :: l, k + 1 => nth l k
theorem nth_at : ∀ {l : List Oper} {k : Nat}, l.toArray[k]? = nth l k := by
  intro l
  induction l with
  | nil => intro k; simp [nth]
  | cons o l ih =>
    intro k
    cases k with
    | zero => simp [nth]
    | succ k => have := @ih k; simpa [nth] using this
section
variable {P : Program} {ops : Array Oper} {Q : Exit → Act → World → Prop} {md : Region.Mode} {S : World → Prop} {L : Nat}
/-- whatever order: behind each operation but L the world meets S -/
def Upto (P : Program) (md : Region.Mode) (ops : Array Oper) (Q : Exit → Act → World → Prop) (S : World → Prop) (L : Nat) : Nat → Array Bool → Act → World → Prop
  | 0, listed, a, w => Region.ready md ops listed = [] ∧ Q .normal a w
  | f + 1, listed, a, w => (Region.ready md ops listed = [] → Q .normal a w) ∧ ∀ i ∈ Region.ready md ops listed, wpOp P ops Q i (fun a' w' => (i ≠ L → S w') ∧ Upto P md ops Q S L f (listed.setIfInBounds i true) a' w') a w
theorem Upto.any : ∀ (f : Nat) (listed : Array Bool) (a : Act) (w : World), Upto P md ops Q S L f listed a w → wpAny P md ops Q f listed a w
  | 0, _, _, _, h => h
  | f + 1, _, _, _, h => ⟨h.1, fun i hi => wpOp_mono (fun _ _ h' => Upto.any f _ _ _ h'.2) (h.2 i hi)⟩
theorem Upto.first {i : Nat} {oi : Oper} {v : Value} (hi : ops[i]? = some oi) (hsel : ∀ (j : Nat) (o : Oper) cs b, ops[j]? = some o → o.op ≠ .select cs b)
    (hQ : ∀ c a w, Q (.panic c) (a.put oi.dst v) w → Q (.panic c) a w) (hL : Region.waitsFor md ops L i = true) :
    ∀ (f : Nat) (listed : Array Bool) (a : Act) (w : World),
      (∀ j oj, ops[j]? = some oj → j ≠ i → listed.getD j true = false → (∀ e ∈ oj.after, Region.binds md e = true → e.on ≠ i) → oi.apart ops oj = true) →
      i ∈ Region.ready md ops listed → YieldsIf P ops S oi v a → S w → Upto P md ops Q S L f (listed.setIfInBounds i true) (a.put oi.dst v) w → Upto P md ops Q S L (f + 1) listed a w := by
  intro f
  induction f with
  | zero =>
    intro listed a w _ hr hy hS H
    refine ⟨fun h => (by rw [h] at hr; cases hr), fun j hj => ?_⟩
    by_cases hji : j = i
    · subst hji
      exact hy.wpOp hi hS ⟨fun _ => hS, H⟩
    · have h0 := ready_mono hj hji
      rw [H.1] at h0
      cases h0
  | succ f ih =>
    intro listed a w hfree hr hy hS H
    refine ⟨fun h => (by rw [h] at hr; cases hr), fun j hj => ?_⟩
    by_cases hji : j = i
    · subst hji
      exact hy.wpOp hi hS ⟨fun _ => hS, H⟩
    · obtain ⟨hjun, oj, hoj, hall⟩ := mem_ready.1 hj
      have hun : listed.getD i false = false := getD_both (mem_ready.1 hr).1
      have hnot : ∀ e ∈ oj.after, Region.binds md e = true → e.on ≠ i := by
        intro e he hb heq
        have h1 := hall e he hb
        rw [heq, hun] at h1
        cases h1
      have hjL : j ≠ L := by
        rintro rfl
        obtain ⟨o2, ho2, e, he, hb, hon⟩ := Region.waitsFor_spec hL
        rw [hoj] at ho2
        injection ho2 with ho2
        subst ho2
        exact hnot e he hb hon
      have h2 := wpOp_putIf hoj (hfree j oj hoj hji hjun hnot) (fun cs b => hsel i oi cs b hi) (fun cs b => hsel j oj cs b hoj) hQ hy (H.2 j (ready_mono hj hji))
      refine wpOp_mono (fun a' w' h3 => ?_) h2
      obtain ⟨hy', hS', hrest⟩ := h3
      refine ⟨hS', ih (listed.setIfInBounds j true) a' w' ?_ (ready_mono hr (Ne.symm hji)) hy' (hS' hjL) ?_⟩
      · intro k ok hk hki hkun hno
        refine hfree k ok hk hki ?_ hno
        by_cases hjk : j = k
        · subst hjk; exact hjun
        · rwa [getD_set_ne true hjk] at hkun
      · rw [Array.setIfInBounds_comm _ _ hji]
        exact hrest
theorem upto_take {l : List Oper} {i : Nat} {oi : Oper} {v : Value} {f : Nat} {listed : Array Bool} {a : Act} {w : World} (hi : nth l i = some oi)
    (hs : Region.noSelect l.toArray = true) (hf : Region.free md l.toArray listed i = true) (hr : (Region.ready md l.toArray listed).contains i = true) (hL : Region.waitsFor md l.toArray L i = true)
    (hQ : ∀ c a w, Q (.panic c) (a.put oi.dst v) w → Q (.panic c) a w) (hS : S w) (hy : ∀ w, S w → (execOp a.eval oi).run P w = .ok (.value v) w) (hw : Region.wanted oi (yielded l.toArray a.tmps) = true)
    (h : Upto P md l.toArray Q S L f (listed.setIfInBounds i true) (a.put oi.dst v) w) : Upto P md l.toArray Q S L (f + 1) listed a w :=
  Upto.first (nth_at.trans hi) (Region.noSelect_spec hs) hQ hL f listed a w (Region.free_spec (nth_at.trans hi) hf) (by simpa using hr) (.inl ⟨hw, hy⟩) hS h
theorem upto_step {l : List Oper} {k : Nat} {o : Oper} {f : Nat} {listed : Array Bool} {a : Act} {w : World} (hr : Region.ready md l.toArray listed = [k]) (ho : nth l k = some o)
    (h : ∀ K : Act → World → Prop, Shut (∀ a' w', (k ≠ L → S w') → Upto P md l.toArray Q S L f (listed.setIfInBounds k true) a' w' → K a' w') → if Region.wanted o (yielded l.toArray a.tmps) = true then Oper.wp P o a w K Q else K (a.put o.dst undef) w) :
    Upto P md l.toArray Q S L (f + 1) listed a w :=
  ⟨fun h0 => (by rw [hr] at h0; cases h0), fun i hi => by
    rw [hr] at hi
    obtain rfl : i = k := by simpa using hi
    exact wpOp_step (nth_at.trans ho) fun K hK => h K fun a' w' h1 h2 => hK a' w' ⟨h1, h2⟩⟩
theorem upto_step2 {l : List Oper} {k1 k2 : Nat} {o1 o2 : Oper} {f : Nat} {listed : Array Bool} {a : Act} {w : World} (hr : Region.ready md l.toArray listed = [k1, k2]) (ho1 : nth l k1 = some o1) (ho2 : nth l k2 = some o2)
    (h1 : ∀ K : Act → World → Prop, Shut (∀ a' w', (k1 ≠ L → S w') → Upto P md l.toArray Q S L f (listed.setIfInBounds k1 true) a' w' → K a' w') → if Region.wanted o1 (yielded l.toArray a.tmps) = true then Oper.wp P o1 a w K Q else K (a.put o1.dst undef) w)
    (h2 : ∀ K : Act → World → Prop, Shut (∀ a' w', (k2 ≠ L → S w') → Upto P md l.toArray Q S L f (listed.setIfInBounds k2 true) a' w' → K a' w') → if Region.wanted o2 (yielded l.toArray a.tmps) = true then Oper.wp P o2 a w K Q else K (a.put o2.dst undef) w) :
    Upto P md l.toArray Q S L (f + 1) listed a w :=
  ⟨fun h0 => (by rw [hr] at h0; cases h0), fun i hi => by
    rw [hr] at hi
    have hi2 : i = k1 ∨ i = k2 := by simpa using hi
    rcases hi2 with rfl | rfl
    · exact wpOp_step (nth_at.trans ho1) fun K hK => h1 K fun a' w' h1 h2 => hK a' w' ⟨h1, h2⟩
    · exact wpOp_step (nth_at.trans ho2) fun K hK => h2 K fun a' w' h1 h2 => hK a' w' ⟨h1, h2⟩⟩
theorem upto_done {l : List Oper} {listed : Array Bool} {a : Act} {w : World} (hr : Region.ready md l.toArray listed = []) (h : Q .normal a w) : ∀ f, Upto P md l.toArray Q S L f listed a w
  | 0 => ⟨hr, h⟩
  | _ + 1 => ⟨fun _ => h, by rw [hr]; intro i hi; cases hi⟩
theorem wp_region_upto {l : List Oper} {id : Nat} {a : Act} {w : World} (L : Nat) (hm : P.follows .mixedOrders = true) (hS : S w.drew)
    (h : S w.drew → Upto P .any l.toArray Q S L l.toArray.size (Array.replicate l.toArray.size false) a w.drew) : (Code.region id l.toArray true).wp P Q a w :=
  wp_region_any hm (Upto.any _ _ _ _ (h hS))
end
end Go.Proofs.Ythjdigiaajdnbaa
