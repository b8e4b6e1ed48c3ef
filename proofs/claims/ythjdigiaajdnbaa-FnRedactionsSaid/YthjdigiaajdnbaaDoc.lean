/- Contracts of the laws' own helpers on documents. For slices of at most 2^40 elements. -/
import Derived.Test.YthjdigiaajdnbaaStringS
import Derived.Test.YthjdigiaajdnbaaIntS
import Derived.Test.YthjdigiaajdnbaaQui
import Derived.Test.YthjdigiaajdnbaaSpan
import Derived.Test.YthjdigiaajdnbaaOwnB
namespace Go.Proofs.Ythjdigiaajdnbaa
open Go.RowKit Go.WideShapes Go.ChangeShapes Go.Deep
set_option linter.unusedSimpArgs false
set_option linter.unusedVariables false
set_option maxRecDepth 100000
abbrev doV (t : Int) (P S : Option Addr) (n m c d : Nat) : Value := .agg #[.int .i64 t, .slice P n c, .slice S m d]
theorem blk_apart {w w1 : World} {b1 b2 : Nat} {e1 e2 : TypeId} {s1 s2 n m c d : Nat} {A B : Option Addr} {xs ys : List Value} (h1 : w.ownsRow b1 e1 s1 (.slice A n c) n xs) (h2 : w1.ownsRow b2 e2 s2 (.slice B m d) m ys) (h : w.heap.size ≤ b2) : ∀ g, blk A = some g → blk B ≠ some g := by
  intro g hg he
  have h3 := (h1.lt g (by rw [blk_own]; exact hg)).2
  have h4 := (h2.lt g (by rw [blk_own]; exact he)).1
  omega
@[simp] theorem cell3_a (w : World) (c : Array Value) (t : TypeId) (b d : Obj) (i : Nat) : (((w.alloc (.cells c t)).alloc b).alloc d).cell? ⟨w.heap.size, i, none⟩ = c[i]? := by
  rw [World.cell?_alloc_lt _ _ _ (by simp), World.cell?_alloc2_first]
@[simp] theorem cell3_b (w : World) (c : Array Value) (t : TypeId) (b d : Obj) (i : Nat) : (((w.alloc b).alloc (.cells c t)).alloc d).cell? ⟨w.heap.size + 1, i, none⟩ = c[i]? := by
  rw [World.cell?_alloc_lt _ _ _ (by simp), World.cell?_alloc2_new]
@[simp] theorem cell3_c (w : World) (c : Array Value) (t : TypeId) (b d : Obj) (i : Nat) : (((w.alloc b).alloc d).alloc (.cells c t)).cell? ⟨w.heap.size + 1 + 1, i, none⟩ = c[i]? := by
  have h := World.cell?_alloc_new (w := (w.alloc b).alloc d) c t i
  simpa using h
@[simp] theorem fz3_b (w : World) (c : Array Value) (t : TypeId) (b d : Obj) (i : Nat) : (((w.alloc b).alloc (.cells c t)).alloc d).frozen? ⟨w.heap.size + 1, i, none⟩ = false := by
  rw [World.frozen?_alloc_old _ _ _ (by simp), World.frozen?_alloc2_new]
@[simp] theorem fz3_c (w : World) (c : Array Value) (t : TypeId) (b d : Obj) (i : Nat) : (((w.alloc b).alloc d).alloc (.cells c t)).frozen? ⟨w.heap.size + 1 + 1, i, none⟩ = false := by
  have h := World.frozen?_alloc_new (w := (w.alloc b).alloc d) c t i
  simpa using h
theorem own_old {w : World} {b g j : Nat} {e : TypeId} {s n : Nat} {v : Value} {xs : List Value} (h : w.ownsRow b e s v n xs) (hg : g < b) (u : Value) : (w.setCell ⟨g, j, none⟩ u).ownsRow b e s v n xs := by
  refine h.kept (row := some g) ⟨rfl, rfl, rfl, ?_, ?_⟩ ?_
  · rw [World.size_setCell]; exact Nat.le_refl _
  · intro i hi hne
    simp only [World.setCell, Array.getElem?_modify]
    rw [if_neg (by intro h; exact hne (by rw [h]))]
  · cases hv : v.ownBlock with
    | none => exact .inl rfl
    | some k =>
      refine .inr fun he => ?_
      have h1 := (h.lt k hv).1
      injection he with he
      omega
set_option maxHeartbeats 4000000 in
theorem toDocument_any {P S : Option Addr} {n m c d : Nat} {t : Int} {ps : List ByteArray} {ss : List Int} {w : World} (h1 : Rd w 1 P n (sts ps)) (h2 : Rd w 1 S m (ints ss)) (hn : n ≤ 1099511627776) (hm : m ≤ 1099511627776) :
    Calls Try.prog 22 #[doV t P S n m c d] w fun e w' => ∃ P' S' c' d', e = .returned (doV t P' S' n m c' d') ∧ w'.ownsRow w.heap.size 9 1 (.slice P' n c') n (sts ps) ∧ w'.ownsRow w.heap.size 3 1 (.slice S' m d') m (ints ss) ∧ (∀ g, blk P' = some g → blk S' ≠ some g) ∧ Below w.heap.size w w' := by
  obtain ⟨W1, hW_W1⟩ : ∃ W1, ((w.alloc (.cells #[.int .i64 t, .slice P n c, .slice S m d] 46)).alloc (.cells #[.int .i64 0, .slice none 0 0, .slice none 0 0] 27)).alloc (.cells #[.int .i64 t, .slice none 0 0, .slice none 0 0] 27) = W1 := ⟨_, rfl⟩
  have W1c0 : W1.cell? ⟨w.heap.size, 0, none⟩ = some (.int .i64 t) := by rw [← hW_W1]; simp
  have W1c1 : W1.cell? ⟨w.heap.size, 1, none⟩ = some (.slice P n c) := by rw [← hW_W1]; simp
  have W1c2 : W1.cell? ⟨w.heap.size, 2, none⟩ = some (.slice S m d) := by rw [← hW_W1]; simp
  have W1c3 : W1.cell? ⟨w.heap.size + 1, 0, none⟩ = some (.int .i64 0) := by rw [← hW_W1]; simp
  have W1c4 : W1.cell? ⟨w.heap.size + 1, 1, none⟩ = some (.slice none 0 0) := by rw [← hW_W1]; simp
  have W1c5 : W1.cell? ⟨w.heap.size + 1, 2, none⟩ = some (.slice none 0 0) := by rw [← hW_W1]; simp
  have W1c6 : W1.cell? ⟨w.heap.size + 1 + 1, 0, none⟩ = some (.int .i64 t) := by rw [← hW_W1]; simp
  have W1c7 : W1.cell? ⟨w.heap.size + 1 + 1, 1, none⟩ = some (.slice none 0 0) := by rw [← hW_W1]; simp
  have W1c8 : W1.cell? ⟨w.heap.size + 1 + 1, 2, none⟩ = some (.slice none 0 0) := by rw [← hW_W1]; simp
  have hs_W1 : w.heap.size < W1.heap.size := by rw [← hW_W1]; simp
  have hb_W1 : Below w.heap.size w W1 := by rw [← hW_W1]; repeat (first | exact Below.refl _ _ | assumption | refine Below.next_ ?_ ?_ (by assumption) | refine Below.drew ?_ | refine below_drewN ?_ _ | refine Below.alloc ?_ ?_ _ | refine Below.setCell ?_ ?_ _ | omega | (simp <;> omega) | (simp at * <;> omega))
  have W1f3 : W1.frozen? ⟨w.heap.size + 1, 0, none⟩ = false := by rw [← hW_W1]; simp
  have W1f4 : W1.frozen? ⟨w.heap.size + 1, 1, none⟩ = false := by rw [← hW_W1]; simp
  have W1f5 : W1.frozen? ⟨w.heap.size + 1, 2, none⟩ = false := by rw [← hW_W1]; simp
  have W1f6 : W1.frozen? ⟨w.heap.size + 1 + 1, 0, none⟩ = false := by rw [← hW_W1]; simp
  have W1f7 : W1.frozen? ⟨w.heap.size + 1 + 1, 1, none⟩ = false := by rw [← hW_W1]; simp
  have W1f8 : W1.frozen? ⟨w.heap.size + 1 + 1, 2, none⟩ = false := by rw [← hW_W1]; simp
  have hs2_W1 : w.heap.size + 1 + 1 < W1.heap.size := by rw [← hW_W1]; simp
  have HW_W1 := hide hW_W1
  clear hW_W1
  go_enter Try.func22, Try.ntmps22
  go_wp2_with fail
  rw [HW_W1.out]
  clear HW_W1
  refine (toStringS_any (h1.below hb_W1) (by omega)).mono ?_
  rintro e w1 ⟨B1, d1, rfl, ho1, hb1⟩
  have z1 := hb1.size
  have w1c0 := (hb1.cell (p := ⟨w.heap.size, 0, none⟩) (cell_lt W1c0)).trans W1c0
  have w1c1 := (hb1.cell (p := ⟨w.heap.size, 1, none⟩) (cell_lt W1c1)).trans W1c1
  have w1c2 := (hb1.cell (p := ⟨w.heap.size, 2, none⟩) (cell_lt W1c2)).trans W1c2
  have w1c3 := (hb1.cell (p := ⟨w.heap.size + 1, 0, none⟩) (cell_lt W1c3)).trans W1c3
  have w1c4 := (hb1.cell (p := ⟨w.heap.size + 1, 1, none⟩) (cell_lt W1c4)).trans W1c4
  have w1c5 := (hb1.cell (p := ⟨w.heap.size + 1, 2, none⟩) (cell_lt W1c5)).trans W1c5
  have w1c6 := (hb1.cell (p := ⟨w.heap.size + 1 + 1, 0, none⟩) (cell_lt W1c6)).trans W1c6
  have w1c7 := (hb1.cell (p := ⟨w.heap.size + 1 + 1, 1, none⟩) (cell_lt W1c7)).trans W1c7
  have w1c8 := (hb1.cell (p := ⟨w.heap.size + 1 + 1, 2, none⟩) (cell_lt W1c8)).trans W1c8
  have w1f3 := (hb1.frozen (p := ⟨w.heap.size + 1, 0, none⟩) (cell_lt W1c3)).trans W1f3
  have w1f4 := (hb1.frozen (p := ⟨w.heap.size + 1, 1, none⟩) (cell_lt W1c4)).trans W1f4
  have w1f5 := (hb1.frozen (p := ⟨w.heap.size + 1, 2, none⟩) (cell_lt W1c5)).trans W1f5
  have w1f6 := (hb1.frozen (p := ⟨w.heap.size + 1 + 1, 0, none⟩) (cell_lt W1c6)).trans W1f6
  have w1f7 := (hb1.frozen (p := ⟨w.heap.size + 1 + 1, 1, none⟩) (cell_lt W1c7)).trans W1f7
  have w1f8 := (hb1.frozen (p := ⟨w.heap.size + 1 + 1, 2, none⟩) (cell_lt W1c8)).trans W1f8
  go_wp2_with fail
  obtain ⟨V1, hV1⟩ : ∃ V1, w1.setCell ⟨w.heap.size + 1 + 1, 1, none⟩ (.slice B1 n d1) = V1 := ⟨_, rfl⟩
  have hbV : Below w.heap.size w V1 := by rw [← hV1]; exact (Below.next_ hb_W1 (by omega) hb1).setCell (p := ⟨w.heap.size + 1 + 1, 1, none⟩) (by show w.heap.size ≤ w.heap.size + 1 + 1; omega) _
  have hoV : V1.ownsRow W1.heap.size 9 1 (.slice B1 n d1) n (sts ps) := by rw [← hV1]; exact own_old ho1 hs2_W1 _
  have zV : V1.heap.size = w1.heap.size := by rw [← hV1]; simp
  have V1c0 : V1.cell? ⟨w.heap.size, 0, none⟩ = some (.int .i64 t) := by rw [← hV1]; exact (World.cell?_setCell_other _ _ _ _ (by simp)).trans w1c0
  have V1c1 : V1.cell? ⟨w.heap.size, 1, none⟩ = some (.slice P n c) := by rw [← hV1]; exact (World.cell?_setCell_other _ _ _ _ (by simp)).trans w1c1
  have V1c2 : V1.cell? ⟨w.heap.size, 2, none⟩ = some (.slice S m d) := by rw [← hV1]; exact (World.cell?_setCell_other _ _ _ _ (by simp)).trans w1c2
  have V1c3 : V1.cell? ⟨w.heap.size + 1, 0, none⟩ = some (.int .i64 0) := by rw [← hV1]; exact (World.cell?_setCell_other _ _ _ _ (by simp)).trans w1c3
  have V1c4 : V1.cell? ⟨w.heap.size + 1, 1, none⟩ = some (.slice none 0 0) := by rw [← hV1]; exact (World.cell?_setCell_other _ _ _ _ (by simp)).trans w1c4
  have V1c5 : V1.cell? ⟨w.heap.size + 1, 2, none⟩ = some (.slice none 0 0) := by rw [← hV1]; exact (World.cell?_setCell_other _ _ _ _ (by simp)).trans w1c5
  have V1c6 : V1.cell? ⟨w.heap.size + 1 + 1, 0, none⟩ = some (.int .i64 t) := by rw [← hV1]; exact (World.cell?_setCell_other _ _ _ _ (by simp)).trans w1c6
  have V1c8 : V1.cell? ⟨w.heap.size + 1 + 1, 2, none⟩ = some (.slice none 0 0) := by rw [← hV1]; exact (World.cell?_setCell_other _ _ _ _ (by simp)).trans w1c8
  have V1c7 : V1.cell? ⟨w.heap.size + 1 + 1, 1, none⟩ = some (.slice B1 n d1) := by rw [← hV1]; exact World.cell?_setCell_same _ _ _ w1c7
  have V1f3 : V1.frozen? ⟨w.heap.size + 1, 0, none⟩ = false := by rw [← hV1]; simpa using w1f3
  have V1f4 : V1.frozen? ⟨w.heap.size + 1, 1, none⟩ = false := by rw [← hV1]; simpa using w1f4
  have V1f5 : V1.frozen? ⟨w.heap.size + 1, 2, none⟩ = false := by rw [← hV1]; simpa using w1f5
  have V1f6 : V1.frozen? ⟨w.heap.size + 1 + 1, 0, none⟩ = false := by rw [← hV1]; simpa using w1f6
  have V1f7 : V1.frozen? ⟨w.heap.size + 1 + 1, 1, none⟩ = false := by rw [← hV1]; simpa using w1f7
  have V1f8 : V1.frozen? ⟨w.heap.size + 1 + 1, 2, none⟩ = false := by rw [← hV1]; simpa using w1f8
  have HV1 := hide hV1
  have ZV := hide zV
  clear hV1 zV
  rw [HV1.out]
  clear HV1
  refine (toIntS_any (h2.below hbV) (by omega)).mono ?_
  rintro e w2 ⟨B2, d2, rfl, ho2, hb2⟩
  have z2 := hb2.size
  have zVV := ZV.out
  have zV2 : W1.heap.size ≤ V1.heap.size := by omega
  clear zVV
  have ho1' := own_below hoV hb2
  have w2c0 := (hb2.cell (p := ⟨w.heap.size, 0, none⟩) (cell_lt V1c0)).trans V1c0
  have w2c1 := (hb2.cell (p := ⟨w.heap.size, 1, none⟩) (cell_lt V1c1)).trans V1c1
  have w2c2 := (hb2.cell (p := ⟨w.heap.size, 2, none⟩) (cell_lt V1c2)).trans V1c2
  have w2c3 := (hb2.cell (p := ⟨w.heap.size + 1, 0, none⟩) (cell_lt V1c3)).trans V1c3
  have w2c4 := (hb2.cell (p := ⟨w.heap.size + 1, 1, none⟩) (cell_lt V1c4)).trans V1c4
  have w2c5 := (hb2.cell (p := ⟨w.heap.size + 1, 2, none⟩) (cell_lt V1c5)).trans V1c5
  have w2c6 := (hb2.cell (p := ⟨w.heap.size + 1 + 1, 0, none⟩) (cell_lt V1c6)).trans V1c6
  have w2c7 := (hb2.cell (p := ⟨w.heap.size + 1 + 1, 1, none⟩) (cell_lt V1c7)).trans V1c7
  have w2c8 := (hb2.cell (p := ⟨w.heap.size + 1 + 1, 2, none⟩) (cell_lt V1c8)).trans V1c8
  have w2f3 := (hb2.frozen (p := ⟨w.heap.size + 1, 0, none⟩) (cell_lt V1c3)).trans V1f3
  have w2f4 := (hb2.frozen (p := ⟨w.heap.size + 1, 1, none⟩) (cell_lt V1c4)).trans V1f4
  have w2f5 := (hb2.frozen (p := ⟨w.heap.size + 1, 2, none⟩) (cell_lt V1c5)).trans V1f5
  have w2f6 := (hb2.frozen (p := ⟨w.heap.size + 1 + 1, 0, none⟩) (cell_lt V1c6)).trans V1f6
  have w2f7 := (hb2.frozen (p := ⟨w.heap.size + 1 + 1, 1, none⟩) (cell_lt V1c7)).trans V1f7
  have w2f8 := (hb2.frozen (p := ⟨w.heap.size + 1 + 1, 2, none⟩) (cell_lt V1c8)).trans V1f8
  clear W1c0 w1c0 V1c0 W1c1 w1c1 V1c1 W1c2 w1c2 V1c2 W1c3 w1c3 V1c3 W1c4 w1c4 V1c4 W1c5 w1c5 V1c5 W1c6 w1c6 V1c6 W1c7 w1c7 V1c7 W1c8 w1c8 V1c8 W1f3 w1f3 V1f3 W1f4 w1f4 V1f4 W1f5 w1f5 V1f5 W1f6 w1f6 V1f6 W1f7 w1f7 V1f7 W1f8 w1f8 V1f8
  have hbk := blk_apart hoV ho2 (Nat.le_refl _)
  have hfin : Below w.heap.size w w2 := Below.next_ hbV (by omega) hb2
  go_wp2_with fail
  have o1 := own_old (j := 2) (own_old (j := 1) (own_old (j := 0) (own_old (j := 2) ho1' (show w.heap.size + 1 + 1 < W1.heap.size from hs2_W1) (.slice B2 m d2)) (show w.heap.size + 1 < W1.heap.size by omega) (.int .i64 t)) (show w.heap.size + 1 < W1.heap.size by omega) (.slice B1 n d1)) (show w.heap.size + 1 < W1.heap.size by omega) (.slice B2 m d2)
  have o2 := own_old (j := 2) (own_old (j := 1) (own_old (j := 0) (own_old (j := 2) ho2 (show w.heap.size + 1 + 1 < V1.heap.size by omega) (.slice B2 m d2)) (show w.heap.size + 1 < V1.heap.size by omega) (.int .i64 t)) (show w.heap.size + 1 < V1.heap.size by omega) (.slice B1 n d1)) (show w.heap.size + 1 < V1.heap.size by omega) (.slice B2 m d2)
  have b1 := (((hfin.setCell (p := ⟨w.heap.size + 1 + 1, 2, none⟩) (by show w.heap.size ≤ w.heap.size + 1 + 1; omega) (.slice B2 m d2)).setCell (p := ⟨w.heap.size + 1, 0, none⟩) (by show w.heap.size ≤ w.heap.size + 1; omega) (.int .i64 t)).setCell (p := ⟨w.heap.size + 1, 1, none⟩) (by show w.heap.size ≤ w.heap.size + 1; omega) (.slice B1 n d1)).setCell (p := ⟨w.heap.size + 1, 2, none⟩) (by show w.heap.size ≤ w.heap.size + 1; omega) (.slice B2 m d2)
  exact bodyPost_ret (v := doV t B1 B2 n m d1 d2) (by simp [results, Try.results22, go_sem, *]) rfl ⟨B1, B2, d1, d2, rfl, own_base o1 (by omega), own_base o2 (by omega), hbk, b1⟩
end Go.Proofs.Ythjdigiaajdnbaa
