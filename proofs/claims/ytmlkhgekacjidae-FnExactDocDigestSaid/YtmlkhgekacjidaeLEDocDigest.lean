/- The program's DocDigest returns what the reference's returns, and changes no argument. For every input. -/
import Derived.Test.YtmlkhgekacjidaeArgs
import Derived.Test.YtmlkhgekacjidaeArgD
import Derived.Test.YtmlkhgekacjidaeDocS
import Derived.Test.YtmlkhgekacjidaeDocD
namespace Go.Proofs.Ytmlkhgekacjidae.lawFnExactDocDigest
open Go.ChangeShapes Go.WideShapes Go.ChangeAt Go.RowKit
set_option maxRecDepth 1000000
set_option linter.unusedSimpArgs false
set_option linter.unusedVariables false
theorem own : ownKnob Try.prog.godebug = none := by kernel_rfl
set_option maxHeartbeats 1600000 in
theorem law_any {v0 : Value} {v1 : Value} {W : World} (i0 : InInt W v0) (i1 : InDoc W v1) (w : World) (hWw : w = W) :
    Calls Try.prog 7 #[v0, v1] w fun e w' => e = .returned (.bool true) ∧ Below w.heap.size w w' := by
  subst hWw
  obtain ⟨x0, rfl, hx0⟩ := i0
  have hx0a := hx0.1
  have hx0b := hx0.2
  obtain ⟨t1, P1, n1, c1, ps1, S1, m1, d1, ss1, rfl, ht1, hn1, hm1, hP1, hS1, hsz1, hI1⟩ := i1
  obtain ⟨W1, hW_W1⟩ : ∃ W1, w.alloc (.cells #[.int .i64 t1, .slice P1 n1 c1, .slice S1 m1 d1] 62) = W1 := ⟨_, rfl⟩
  have hc_W10 : W1.cell? ⟨w.heap.size, 0, none⟩ = some (.int .i64 t1) := by rw [← hW_W1]; simp
  have hc_W11 : W1.cell? ⟨w.heap.size, 1, none⟩ = some (.slice P1 n1 c1) := by rw [← hW_W1]; simp
  have hc_W12 : W1.cell? ⟨w.heap.size, 2, none⟩ = some (.slice S1 m1 d1) := by rw [← hW_W1]; simp
  have hs_W1 : w.heap.size < W1.heap.size := by rw [← hW_W1]; simp
  have hb_W1 : Below w.heap.size w W1 := by rw [← hW_W1]; repeat (first | exact Below.refl _ _ | assumption | refine Below.next_ ?_ ?_ (by assumption) | refine Below.drew ?_ | refine below_drewN ?_ _ | refine Below.alloc ?_ ?_ _ | refine Below.setCell ?_ ?_ _ | omega | (simp <;> omega) | (simp at * <;> omega))
  have HW_W1 := hide hW_W1
  clear hW_W1
  by_cases hgd : 0 ≤ szD ps1 m1 1048576
  rotate_left
  · have hgn := hide (szD_neg (by omega) hgd)
    go_enter Try.func7, Try.ntmps7
    go_wp2_with fail
    rw [HW_W1.out]
    clear HW_W1
    refine (szDocument_any (hP1.below hb_W1) (by omega) (by omega) hn1 hm1 hsz1).mono ?_
    rintro e w2 ⟨rfl, hb2⟩
    rw [hgn.out]
    go_wp2_with fail
    go_ret
    exact ⟨rfl, by repeat (first | exact Below.refl _ _ | assumption | refine Below.next_ ?_ ?_ (by assumption) | refine Below.drew ?_ | refine below_drewN ?_ _ | refine Below.alloc ?_ ?_ _ | refine Below.setCell ?_ ?_ _ | omega | (dsimp only; omega) | (simp <;> omega) | (simp at * <;> omega))⟩
  obtain ⟨hlp, hlm, hlz⟩ := szD_ok (by omega) hgd
  have hln := hP1.maplen
  have hn1s : n1 ≤ 1048576 := by omega
  have hm1s : m1 ≤ 1048576 := by omega
  have hgd' : ¬ szD ps1 m1 1048576 < 0 := by omega
  clear hln hlp hlm
  go_enter Try.func7, Try.ntmps7
  go_wp2_with fail
  rw [HW_W1.out]
  clear HW_W1
  refine (szDocument_any (hP1.below hb_W1) (by omega) (by omega) hn1 hm1 hsz1).mono ?_
  rintro e w1 ⟨rfl, hb_w1⟩
  have hs_w1 := hb_w1.size
  obtain ⟨hx0_, hx1_, hx2_⟩ := keep3 (W := W1) (w' := w1) (by repeat (first | exact Below.refl _ _ | assumption | refine Below.next_ ?_ ?_ (by assumption) | refine Below.drew ?_ | refine below_drewN ?_ _ | refine Below.alloc ?_ ?_ _ | refine Below.setCell ?_ ?_ _ | omega | (dsimp only; omega) | (simp <;> omega) | (simp at * <;> omega))) hc_W10 hc_W11 hc_W12
  go_wp2_with fail
  refine (toDocument_any (hP1.below (by repeat (first | exact Below.refl _ _ | assumption | refine Below.next_ ?_ ?_ (by assumption) | refine Below.drew ?_ | refine below_drewN ?_ _ | refine Below.alloc ?_ ?_ _ | refine Below.setCell ?_ ?_ _ | omega | (dsimp only; omega) | (simp <;> omega) | (simp at * <;> omega)))) (hS1.below (by repeat (first | exact Below.refl _ _ | assumption | refine Below.next_ ?_ ?_ (by assumption) | refine Below.drew ?_ | refine below_drewN ?_ _ | refine Below.alloc ?_ ?_ _ | refine Below.setCell ?_ ?_ _ | omega | (dsimp only; omega) | (simp <;> omega) | (simp at * <;> omega)))) (by omega) (by omega)).mono ?_
  rintro e w2 ⟨P_2, S_2, c_2, d_2, rfl, hp_2, hq_2, hx_2, hb_w2⟩; have hs_w2 := hb_w2.size; obtain ⟨hc_w2, hf_w2⟩ := bcell hb_w2; (try simp only [World.size_drew, World.heap_drewN] at hc_w2 hf_w2); (try simp at hs_w2); (try have z_ : w.heap.size ≤ w2.heap.size := (by omega)); (try (have z_ : w.heap.size < w2.heap.size := (by omega); have y_ : ¬ w.heap.size = w2.heap.size := (by omega); have x_ : ¬ w2.heap.size = w.heap.size := (by omega))); (try (have z_ : w.heap.size + 1 < w2.heap.size := (by omega); have y_ : ¬ w.heap.size + 1 = w2.heap.size := (by omega); have x_ : ¬ w2.heap.size = w.heap.size + 1 := (by omega))); (try have z_ : W1.heap.size ≤ w2.heap.size := (by omega)); (try (have z_ : W1.heap.size < w2.heap.size := (by omega); have y_ : ¬ W1.heap.size = w2.heap.size := (by omega); have x_ : ¬ w2.heap.size = W1.heap.size := (by omega))); (try (have z_ : W1.heap.size + 1 < w2.heap.size := (by omega); have y_ : ¬ W1.heap.size + 1 = w2.heap.size := (by omega); have x_ : ¬ w2.heap.size = W1.heap.size + 1 := (by omega)))
  clear hc_w2 hf_w2
  go_wp2_with fail
  refine (specDocDigest_any ((Rd.of_own hp_2).below (by repeat (first | exact Below.refl _ _ | assumption | refine Below.next_ ?_ ?_ (by assumption) | refine Below.drew ?_ | refine below_drewN ?_ _ | refine Below.alloc ?_ ?_ _ | refine Below.setCell ?_ ?_ _ | omega | (dsimp only; omega) | (simp <;> omega) | (simp at * <;> omega)))) ((Rd.of_own hq_2).below (by repeat (first | exact Below.refl _ _ | assumption | refine Below.next_ ?_ ?_ (by assumption) | refine Below.drew ?_ | refine below_drewN ?_ _ | refine Below.alloc ?_ ?_ _ | refine Below.setCell ?_ ?_ _ | omega | (dsimp only; omega) | (simp <;> omega) | (simp at * <;> omega)))) (by omega) (by omega) hx0).mono ?_
  rintro e w3 ⟨rfl, hb_w3⟩; have hs_w3 := hb_w3.size; obtain ⟨hc_w3, hf_w3⟩ := bcell hb_w3; (try simp only [World.size_drew, World.heap_drewN] at hc_w3 hf_w3); (try simp at hs_w3); (try have z_ : w.heap.size ≤ w3.heap.size := (by omega)); (try (have z_ : w.heap.size < w3.heap.size := (by omega); have y_ : ¬ w.heap.size = w3.heap.size := (by omega); have x_ : ¬ w3.heap.size = w.heap.size := (by omega))); (try (have z_ : w.heap.size + 1 < w3.heap.size := (by omega); have y_ : ¬ w.heap.size + 1 = w3.heap.size := (by omega); have x_ : ¬ w3.heap.size = w.heap.size + 1 := (by omega))); (try have z_ : W1.heap.size ≤ w3.heap.size := (by omega)); (try (have z_ : W1.heap.size < w3.heap.size := (by omega); have y_ : ¬ W1.heap.size = w3.heap.size := (by omega); have x_ : ¬ w3.heap.size = W1.heap.size := (by omega))); (try (have z_ : W1.heap.size + 1 < w3.heap.size := (by omega); have y_ : ¬ W1.heap.size + 1 = w3.heap.size := (by omega); have x_ : ¬ w3.heap.size = W1.heap.size + 1 := (by omega))); (try have z_ : w2.heap.size ≤ w3.heap.size := (by omega)); (try (have z_ : w2.heap.size < w3.heap.size := (by omega); have y_ : ¬ w2.heap.size = w3.heap.size := (by omega); have x_ : ¬ w3.heap.size = w2.heap.size := (by omega))); (try (have z_ : w2.heap.size + 1 < w3.heap.size := (by omega); have y_ : ¬ w2.heap.size + 1 = w3.heap.size := (by omega); have x_ : ¬ w3.heap.size = w2.heap.size + 1 := (by omega)))
  clear hc_w3 hf_w3
  obtain ⟨hx0_, hx1_, hx2_⟩ := keep3 (W := W1) (w' := w3) (by repeat (first | exact Below.refl _ _ | assumption | refine Below.next_ ?_ ?_ (by assumption) | refine Below.drew ?_ | refine below_drewN ?_ _ | refine Below.alloc ?_ ?_ _ | refine Below.setCell ?_ ?_ _ | omega | (dsimp only; omega) | (simp <;> omega) | (simp at * <;> omega))) hc_W10 hc_W11 hc_W12
  go_wp2_with fail
  refine (toDocument_any (hP1.below (by repeat (first | exact Below.refl _ _ | assumption | refine Below.next_ ?_ ?_ (by assumption) | refine Below.drew ?_ | refine below_drewN ?_ _ | refine Below.alloc ?_ ?_ _ | refine Below.setCell ?_ ?_ _ | omega | (dsimp only; omega) | (simp <;> omega) | (simp at * <;> omega)))) (hS1.below (by repeat (first | exact Below.refl _ _ | assumption | refine Below.next_ ?_ ?_ (by assumption) | refine Below.drew ?_ | refine below_drewN ?_ _ | refine Below.alloc ?_ ?_ _ | refine Below.setCell ?_ ?_ _ | omega | (dsimp only; omega) | (simp <;> omega) | (simp at * <;> omega)))) (by omega) (by omega)).mono ?_
  rintro e w4 ⟨P_4, S_4, c_4, d_4, rfl, hp_4, hq_4, hx_4, hb_w4⟩; have hs_w4 := hb_w4.size; obtain ⟨hc_w4, hf_w4⟩ := bcell hb_w4; (try simp only [World.size_drew, World.heap_drewN] at hc_w4 hf_w4); (try simp at hs_w4); (try have z_ : w.heap.size ≤ w4.heap.size := (by omega)); (try (have z_ : w.heap.size < w4.heap.size := (by omega); have y_ : ¬ w.heap.size = w4.heap.size := (by omega); have x_ : ¬ w4.heap.size = w.heap.size := (by omega))); (try (have z_ : w.heap.size + 1 < w4.heap.size := (by omega); have y_ : ¬ w.heap.size + 1 = w4.heap.size := (by omega); have x_ : ¬ w4.heap.size = w.heap.size + 1 := (by omega))); (try have z_ : W1.heap.size ≤ w4.heap.size := (by omega)); (try (have z_ : W1.heap.size < w4.heap.size := (by omega); have y_ : ¬ W1.heap.size = w4.heap.size := (by omega); have x_ : ¬ w4.heap.size = W1.heap.size := (by omega))); (try (have z_ : W1.heap.size + 1 < w4.heap.size := (by omega); have y_ : ¬ W1.heap.size + 1 = w4.heap.size := (by omega); have x_ : ¬ w4.heap.size = W1.heap.size + 1 := (by omega))); (try have z_ : w2.heap.size ≤ w4.heap.size := (by omega)); (try (have z_ : w2.heap.size < w4.heap.size := (by omega); have y_ : ¬ w2.heap.size = w4.heap.size := (by omega); have x_ : ¬ w4.heap.size = w2.heap.size := (by omega))); (try (have z_ : w2.heap.size + 1 < w4.heap.size := (by omega); have y_ : ¬ w2.heap.size + 1 = w4.heap.size := (by omega); have x_ : ¬ w4.heap.size = w2.heap.size + 1 := (by omega))); (try have z_ : w3.heap.size ≤ w4.heap.size := (by omega)); (try (have z_ : w3.heap.size < w4.heap.size := (by omega); have y_ : ¬ w3.heap.size = w4.heap.size := (by omega); have x_ : ¬ w4.heap.size = w3.heap.size := (by omega))); (try (have z_ : w3.heap.size + 1 < w4.heap.size := (by omega); have y_ : ¬ w3.heap.size + 1 = w4.heap.size := (by omega); have x_ : ¬ w4.heap.size = w3.heap.size + 1 := (by omega)))
  clear hc_w4 hf_w4
  go_wp2_with fail
  refine (implDocDigest_any ((Rd.of_own hp_4).below (by repeat (first | exact Below.refl _ _ | assumption | refine Below.next_ ?_ ?_ (by assumption) | refine Below.drew ?_ | refine below_drewN ?_ _ | refine Below.alloc ?_ ?_ _ | refine Below.setCell ?_ ?_ _ | omega | (dsimp only; omega) | (simp <;> omega) | (simp at * <;> omega)))) ((Rd.of_own hq_4).below (by repeat (first | exact Below.refl _ _ | assumption | refine Below.next_ ?_ ?_ (by assumption) | refine Below.drew ?_ | refine below_drewN ?_ _ | refine Below.alloc ?_ ?_ _ | refine Below.setCell ?_ ?_ _ | omega | (dsimp only; omega) | (simp <;> omega) | (simp at * <;> omega)))) (by omega) (by omega) hx0).mono ?_
  rintro e w5 ⟨rfl, hb_w5⟩; have hs_w5 := hb_w5.size; obtain ⟨hc_w5, hf_w5⟩ := bcell hb_w5; (try simp only [World.size_drew, World.heap_drewN] at hc_w5 hf_w5); (try simp at hs_w5); (try have z_ : w.heap.size ≤ w5.heap.size := (by omega)); (try (have z_ : w.heap.size < w5.heap.size := (by omega); have y_ : ¬ w.heap.size = w5.heap.size := (by omega); have x_ : ¬ w5.heap.size = w.heap.size := (by omega))); (try (have z_ : w.heap.size + 1 < w5.heap.size := (by omega); have y_ : ¬ w.heap.size + 1 = w5.heap.size := (by omega); have x_ : ¬ w5.heap.size = w.heap.size + 1 := (by omega))); (try have z_ : W1.heap.size ≤ w5.heap.size := (by omega)); (try (have z_ : W1.heap.size < w5.heap.size := (by omega); have y_ : ¬ W1.heap.size = w5.heap.size := (by omega); have x_ : ¬ w5.heap.size = W1.heap.size := (by omega))); (try (have z_ : W1.heap.size + 1 < w5.heap.size := (by omega); have y_ : ¬ W1.heap.size + 1 = w5.heap.size := (by omega); have x_ : ¬ w5.heap.size = W1.heap.size + 1 := (by omega))); (try have z_ : w2.heap.size ≤ w5.heap.size := (by omega)); (try (have z_ : w2.heap.size < w5.heap.size := (by omega); have y_ : ¬ w2.heap.size = w5.heap.size := (by omega); have x_ : ¬ w5.heap.size = w2.heap.size := (by omega))); (try (have z_ : w2.heap.size + 1 < w5.heap.size := (by omega); have y_ : ¬ w2.heap.size + 1 = w5.heap.size := (by omega); have x_ : ¬ w5.heap.size = w2.heap.size + 1 := (by omega))); (try have z_ : w3.heap.size ≤ w5.heap.size := (by omega)); (try (have z_ : w3.heap.size < w5.heap.size := (by omega); have y_ : ¬ w3.heap.size = w5.heap.size := (by omega); have x_ : ¬ w5.heap.size = w3.heap.size := (by omega))); (try (have z_ : w3.heap.size + 1 < w5.heap.size := (by omega); have y_ : ¬ w3.heap.size + 1 = w5.heap.size := (by omega); have x_ : ¬ w5.heap.size = w3.heap.size + 1 := (by omega))); (try have z_ : w4.heap.size ≤ w5.heap.size := (by omega)); (try (have z_ : w4.heap.size < w5.heap.size := (by omega); have y_ : ¬ w4.heap.size = w5.heap.size := (by omega); have x_ : ¬ w5.heap.size = w4.heap.size := (by omega))); (try (have z_ : w4.heap.size + 1 < w5.heap.size := (by omega); have y_ : ¬ w4.heap.size + 1 = w5.heap.size := (by omega); have x_ : ¬ w5.heap.size = w4.heap.size + 1 := (by omega)))
  clear hc_w5 hf_w5
  obtain ⟨hx0_, hx1_, hx2_⟩ := keep3 (W := W1) (w' := w5) (by repeat (first | exact Below.refl _ _ | assumption | refine Below.next_ ?_ ?_ (by assumption) | refine Below.drew ?_ | refine below_drewN ?_ _ | refine Below.alloc ?_ ?_ _ | refine Below.setCell ?_ ?_ _ | omega | (dsimp only; omega) | (simp <;> omega) | (simp at * <;> omega))) hc_W10 hc_W11 hc_W12
  have hz0_ : w5.cell? ⟨w4.heap.size, 0, none⟩ = some (.int .i64 t1) := (hb_w5.cell (p := ⟨w4.heap.size, 0, none⟩) (by simp)).trans (by simp)
  have hz1_ : w5.cell? ⟨w4.heap.size, 1, none⟩ = some (.slice P_4 n1 c_4) := (hb_w5.cell (p := ⟨w4.heap.size, 1, none⟩) (by simp)).trans (by simp)
  have hz2_ : w5.cell? ⟨w4.heap.size, 2, none⟩ = some (.slice S_4 m1 d_4) := (hb_w5.cell (p := ⟨w4.heap.size, 2, none⟩) (by simp)).trans (by simp)
  go_wp2_with fail
  go_region_held3 (fun w' => w'.cell? ⟨w.heap.size, 0, none⟩ = some (.int .i64 t1) ∧ w'.cell? ⟨w.heap.size, 1, none⟩ = some (.slice P1 n1 c1) ∧ w'.cell? ⟨w.heap.size, 2, none⟩ = some (.slice S1 m1 d1) ∧ w'.cell? ⟨w4.heap.size, 0, none⟩ = some (.int .i64 t1) ∧ w'.cell? ⟨w4.heap.size, 1, none⟩ = some (.slice P_4 n1 c_4) ∧ w'.cell? ⟨w4.heap.size, 2, none⟩ = some (.slice S_4 m1 d_4)) (((refine keep6 (W := w5) ?_ hx0_ hx1_ hx2_ hz0_ hz1_ hz2_); (focus (repeat (first | exact Below.refl _ _ | assumption | refine Below.next_ ?_ ?_ (by assumption) | refine Below.drew ?_ | refine below_drewN ?_ _ | refine Below.alloc ?_ ?_ _ | refine Below.setCell ?_ ?_ _ | omega | (simp <;> omega) | (simp at * <;> omega))))))
      (first | (go_at_call 48; refine (toDocument_any (hP1.below ?_) (hS1.below ?_) ?_ ?_).mono ?_; (focus (repeat (first | exact Below.refl _ _ | assumption | refine Below.next_ ?_ ?_ (by assumption) | refine Below.drew ?_ | refine below_drewN ?_ _ | refine Below.alloc ?_ ?_ _ | refine Below.setCell ?_ ?_ _ | omega | (dsimp only; omega) | (simp <;> omega) | (simp at * <;> omega)))); (focus (repeat (first | exact Below.refl _ _ | assumption | refine Below.next_ ?_ ?_ (by assumption) | refine Below.drew ?_ | refine below_drewN ?_ _ | refine Below.alloc ?_ ?_ _ | refine Below.setCell ?_ ?_ _ | omega | (dsimp only; omega) | (simp <;> omega) | (simp at * <;> omega)))); (focus (omega)); (focus (omega)); rintro e w6 ⟨P_6, S_6, c_6, d_6, rfl, hp_6, hq_6, hx_6, hb_w6⟩; have hs_w6 := hb_w6.size; (try simp at hs_w6)) | (go_at_call 50; refine (eqDocument_any ((Rd.of_own hp_4).below ?_) ((Rd.of_own hq_4).below ?_) ((Rd.of_own hp_6).below ?_) ((Rd.of_own hq_6).below ?_) ?_ ?_ ?_ ?_).mono ?_; (focus (repeat (first | exact Below.refl _ _ | assumption | refine Below.next_ ?_ ?_ (by assumption) | refine Below.drew ?_ | refine below_drewN ?_ _ | refine Below.alloc ?_ ?_ _ | refine Below.setCell ?_ ?_ _ | omega | (dsimp only; omega) | (simp <;> omega) | (simp at * <;> omega)))); (focus (repeat (first | exact Below.refl _ _ | assumption | refine Below.next_ ?_ ?_ (by assumption) | refine Below.drew ?_ | refine below_drewN ?_ _ | refine Below.alloc ?_ ?_ _ | refine Below.setCell ?_ ?_ _ | omega | (dsimp only; omega) | (simp <;> omega) | (simp at * <;> omega)))); (focus (repeat (first | exact Below.refl _ _ | assumption | refine Below.next_ ?_ ?_ (by assumption) | refine Below.drew ?_ | refine below_drewN ?_ _ | refine Below.alloc ?_ ?_ _ | refine Below.setCell ?_ ?_ _ | omega | (dsimp only; omega) | (simp <;> omega) | (simp at * <;> omega)))); (focus (repeat (first | exact Below.refl _ _ | assumption | refine Below.next_ ?_ ?_ (by assumption) | refine Below.drew ?_ | refine below_drewN ?_ _ | refine Below.alloc ?_ ?_ _ | refine Below.setCell ?_ ?_ _ | omega | (dsimp only; omega) | (simp <;> omega) | (simp at * <;> omega)))); (focus (omega)); (focus (omega)); (focus (omega)); (focus (omega)); rintro e w7 ⟨rfl, hb_w7⟩; have hs_w7 := hb_w7.size; (try simp at hs_w7)))
  go_wp2_with fail
  go_ret
  exact ⟨rfl, by repeat (first | exact Below.refl _ _ | assumption | refine Below.next_ ?_ ?_ (by assumption) | refine Below.drew ?_ | refine below_drewN ?_ _ | refine Below.alloc ?_ ?_ _ | refine Below.setCell ?_ ?_ _ | omega | (simp <;> omega) | (simp at * <;> omega))⟩
theorem lifted (os : Os) (started : os.Started) (H : Type) (enc : TypeId × Value → H) :
    ReturnsInHanded {} Try.checked os 7 .any (Rows.fnExactDocDigestSpec.pre6 enc Try.prog Try.f7 Rows.fnExactDocDigestRow.domain false) (Rows.fnExactDocDigestSpec.post enc Try.prog Try.f7 false true false false) := by
  refine returnsInHanded_of_change (C := Try.checked) own started (by kernel_rfl) Try.func7
    (ChangeSpec.witness6 (enc := enc) (C := Try.checked) false ⟨#[], #[.int .i64 0, .agg #[.int .i64 0, .slice none 0 0, .slice none 0 0]], []⟩ 8 (by kernel_rfl) (by kernel_rfl) (by kernel_rfl) (by kernel_rfl)) ?_
  intro W base args ds gs before hval0 hW _ _
  have hval : ∀ (j : Nat) t v, Try.f7.params[j]? = some t → args[j]? = some v → Value.okWide Try.prog W .any base t v := hval0
  have hW' := hW
  obtain ⟨p, q, hA0, hV, rfl, _, _⟩ := hW
  have hA : DataW.TrodAll enc Try.prog W 0 (fun _ => true) true Try.f7.params.toList args.toList ds p := hA0
  have hlt : ∀ x ∈ p, x.block < W.heap.size := fun x hx => hW'.lt x (by simp [hx])
  have hkeep : ∀ W' : World, Below W.heap.size W W' → ∀ sp : Nat → Bool, (∀ x ∈ p ++ q, sp x.block = true) → DataW.TrodAll enc Try.prog W' 0 sp true Try.f7.params.toList args.toList ds p :=
    fun W' hb sp hsp => trodAll_stays laid hb _ _ _ _ (by kernel_rfl) hlt (fun x hx => hsp x (by simp [hx])) hA
  rw [Try.params7] at hA hval
  obtain ⟨v0, vs0, d0, ds0, p0, q0, hargs, rfl, rfl, h0, r0⟩ := trodAll_cons hA
  obtain ⟨v1, vs1, d1, ds1, p1, q1, rfl, rfl, rfl, h1, r1⟩ := trodAll_cons r0
  obtain ⟨rfl, rfl, rfl⟩ := trodAll_nil r1
  obtain rfl : args = #[v0, v1] := by cases args; simp_all
  obtain ⟨rfl, rfl⟩ := trodVars_none hV
  have i0 : InInt W v0 := InInt.of (hval 0 3 v0 rfl rfl) h0
  have i1 : InDoc W v1 := InDoc.of (hval 1 62 v1 rfl rfl) h1
  refine (law_any i0 i1 W rfl).mono fun e W' ⟨he, hb⟩ => ?_
  subst he
  exact ⟨_, rfl, post_of_below (pv := []) hW' (fun _ _ _ => (trodAll_cons_mk (shut_bool Try.underlying4 _) trodAll_mk0)) (hkeep W' hb) (fun _ _ => rfl) rfl
    hb (ok_one (by kernel_rfl) rfl (okWide_bool_mk Try.underlying4 _))⟩

theorem over : Rows.fnExactDocDigestRow.holds Try.pinned (OpenSpec.ofChange Rows.fnExactDocDigestSpec) :=
  OpenClaim.holds_of_wide 7 Try.f7 rfl rfl rfl rfl rfl rfl rfl ⟨rfl, rfl, rfl, rfl, rfl⟩ rfl rfl rfl rfl rfl (by kernel_rfl) Try.func7 (by kernel_rfl)
    (of_decide_eq_true (by kernel_rfl)) (by unfold Func.isWrapper; first | (rw [if_pos (by decide +kernel)]; kernel_rfl) | (rw [if_neg (by decide +kernel)]; exact ⟨rfl, rfl⟩))
    (fun os started H enc _ => lifted os started H enc)

theorem proved : Rows.FnExactDocDigestSaid :=
  over
#print axioms proved
end Go.Proofs.Ytmlkhgekacjidae.lawFnExactDocDigest
