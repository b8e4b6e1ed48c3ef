/- Contracts of the laws' own marking of documents. For rows of at most 2^40 elements. -/
import Derived.Test.YtgeffaohdoeclaaRed
import Derived.Test.YtgeffaohdoeclaaDoc
namespace Go.Proofs.Ytgeffaohdoeclaa
open Go.RowKit Go.WideShapes Go.ChangeShapes Go.Deep
set_option linter.unusedSimpArgs false
set_option linter.unusedVariables false
set_option maxRecDepth 1000000
theorem own_kept {w w' : World} {b : Nat} {e : TypeId} {s n c : Nat} {A : Option Addr} {xs : List Value} {row : Option Nat} (h : w.ownsRow b e s (.slice A n c) n xs) (hg : w.grownBy w' row) (hne : ∀ g, blk A = some g → row ≠ some g) : w'.ownsRow b e s (.slice A n c) n xs := by
  refine h.kept hg ?_
  rw [blk_own]
  cases hb : blk A with
  | none => exact .inl rfl
  | some g => exact .inr fun he => hne g hb he.symm
theorem Blk.grown {w w' : World} {b : Nat} {v : Value} {vs : List Value} {row : Option Nat} (h : Blk w b (v :: vs)) (hg : w.grownBy w' row) (hne : row ≠ some b) : Blk w' b (v :: vs) := by
  have hlt := h.lt
  have hbl := hg.block b hlt (fun e => hne e.symm)
  intro i u hu
  obtain ⟨h1, h2⟩ := h i u hu
  refine ⟨?_, ?_⟩
  · rw [← h1]; unfold World.cell?; simp only [hbl]
  · rw [← h2]; unfold World.frozen?; simp only [hbl]
theorem bx_new {w0 w w' : World} {b bx : Nat} {ex : TypeId} {sx nx cx : Nat} {Ax : Option Addr} {xx : List Value} {v : Value} {vs : List Value} (hB : Blk w b (v :: vs)) (hx : w0.ownsRow bx ex sx (.slice Ax nx cx) nx xx) (hz : w0.heap.size ≤ b) (hg : w.grownBy w' (blk Ax)) : Blk w' b (v :: vs) := by
  refine hB.grown hg ?_
  intro he
  have := (hx.lt b (by rw [blk_own]; exact he)).2
  omega
theorem bx_old {w0 w w' : World} {b bx : Nat} {ex : TypeId} {sx nx cx : Nat} {Ax : Option Addr} {xx : List Value} {v : Value} {vs : List Value} (hB : Blk w b (v :: vs)) (hx : w0.ownsRow bx ex sx (.slice Ax nx cx) nx xx) (hz : b < bx) (hg : w.grownBy w' (blk Ax)) : Blk w' b (v :: vs) := by
  refine hB.grown hg ?_
  intro he
  have := (hx.lt b (by rw [blk_own]; exact he)).1
  omega
set_option maxHeartbeats 2000000 in
theorem markDocument_any {P S : Option Addr} {n m c d b1 b2 : Nat} {t k : Int} {xs ys : List Value} {w : World} (o1 : w.ownsRow b1 9 1 (.slice P n c) n xs) (o2 : w.ownsRow b2 3 1 (.slice S m d) m ys) (hap : ∀ g, blk P = some g → blk S ≠ some g) (hn : n ≤ 1099511627776) (hm : m ≤ 1099511627776) (hk0 : 0 ≤ k) (hk : k ≤ 562949953421312) :
    Calls Try.prog 32 #[doV t P S n m c d, .int .i64 k] w fun e w' => e = .returned (.int .i64 (k + n + m)) ∧ ∃ wb wm, Below w.heap.size w wb ∧ wb.grownBy wm (blk P) ∧ wm.ownsRow b1 9 1 (.slice P n c) n (sts (mkS k n)) ∧ wm.ownsRow b2 3 1 (.slice S m d) m ys ∧ wm.grownBy w' (blk S) ∧ w'.ownsRow b1 9 1 (.slice P n c) n (sts (mkS k n)) ∧ w'.ownsRow b2 3 1 (.slice S m d) m (ints (mk (k + n) m)) := by
  obtain ⟨W1, hW1⟩ : ∃ W1, w.alloc (.cells #[.int .i64 t, .slice P n c, .slice S m d] 27) = W1 := ⟨_, rfl⟩
  have B1 : Blk W1 w.heap.size [.int .i64 t, .slice P n c, .slice S m d] := by rw [← hW1]; exact Blk.new _ _ _
  have hb1 : Below w.heap.size w W1 := by rw [← hW1]; exact (Below.refl _ _).alloc (Nat.le_refl _) _
  have HW1 := hide hW1
  clear hW1
  obtain ⟨⟨c0, c1, c2⟩, f0, f1, f2⟩ := B1.three
  go_enter Try.func32, Try.ntmps32
  go_wp2_with fail
  rw [HW1.out]
  clear HW1
  refine (markStringS_any (own_below o1 hb1) (by omega) hk0 (by omega)).mono ?_
  rintro e w2 ⟨rfl, p2, g2⟩
  have hP : blk P ≠ some w.heap.size := by
    intro he
    have := (o1.lt _ (by rw [blk_own]; exact he)).2
    omega
  have B2 := B1.grown g2 hP
  have s2 := own_kept (own_below o2 hb1) g2 (fun g hg he => hap g he hg)
  clear c0 c1 c2 f0 f1 f2
  obtain ⟨⟨c0, c1, c2⟩, f0, f1, f2⟩ := B2.three
  go_wp2_with fail
  refine (markIntS_any s2 (by omega) (by omega) (by omega)).mono ?_
  rintro e w3 ⟨rfl, s3, g3⟩
  have p3 := own_kept p2 g3 hap
  have G2 := hide g2
  have G3 := hide g3
  clear g2 g3
  go_wp2_with fail
  go_ret
  exact ⟨rfl, W1, w2, hb1, G2.out, p2, s2, G3.out, p3, s3⟩
set_option maxHeartbeats 2000000 in
theorem heldDocument_any {P S : Option Addr} {n m c d : Nat} {t k : Int} {w : World} (h1 : Rd w 1 P n (sts (mkS k n))) (h2 : Rd w 1 S m (ints (mk (k + n) m))) (hn : n ≤ 1099511627776) (hm : m ≤ 1099511627776) (hk0 : 0 ≤ k) (hk : k ≤ 562949953421312) :
    Calls Try.prog 55 #[doV t P S n m c d, .int .i64 k] w fun e w' => e = .returned (.int .i64 (k + n + m)) ∧ Below w.heap.size w w' := by
  obtain ⟨W1, hW1⟩ : ∃ W1, w.alloc (.cells #[.int .i64 t, .slice P n c, .slice S m d] 27) = W1 := ⟨_, rfl⟩
  have B1 : Blk W1 w.heap.size [.int .i64 t, .slice P n c, .slice S m d] := by rw [← hW1]; exact Blk.new _ _ _
  have hb1 : Below w.heap.size w W1 := by rw [← hW1]; exact (Below.refl _ _).alloc (Nat.le_refl _) _
  have HW1 := hide hW1
  clear hW1
  obtain ⟨⟨c0, c1, c2⟩, f0, f1, f2⟩ := B1.three
  have hz1 := hb1.size
  have hk1 : ¬ k + (n : Int) < 0 := by omega
  have hk2 : ¬ k + (n : Int) + (m : Int) < 0 := by omega
  go_enter Try.func55, Try.ntmps55
  go_wp2_with fail
  rw [HW1.out]
  clear HW1
  refine (heldStringS_any (h1.below hb1) (by omega) hk0 (by omega)).mono ?_
  rintro e w2 ⟨rfl, hb2⟩
  have B2 := B1.below hb2
  have hz2 := hb2.size
  clear c0 c1 c2 f0 f1 f2
  obtain ⟨⟨c0, c1, c2⟩, f0, f1, f2⟩ := B2.three
  go_wp2_with fail
  refine (heldIntS_any ((h2.below hb1).below hb2) (by omega) (by omega) (by omega)).mono ?_
  rintro e _ ⟨rfl, q, rfl⟩
  go_wp2_with fail
  go_ret
  exact ⟨rfl, by repeat (first | exact Below.refl _ _ | assumption | refine Below.next_ ?_ ?_ (by assumption) | refine Below.drew ?_ | refine below_drewN ?_ _ | refine Below.alloc ?_ ?_ _ | refine Below.setCell ?_ ?_ _ | omega | (dsimp only; omega) | (simp <;> omega) | (simp at * <;> omega))⟩
end Go.Proofs.Ytgeffaohdoeclaa
