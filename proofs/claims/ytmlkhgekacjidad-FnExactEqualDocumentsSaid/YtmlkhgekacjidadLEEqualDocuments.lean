/- The program's EqualDocuments returns what the reference's returns, and changes no argument. For every input. -/
import Derived.Test.YtmlkhgekacjidadArgs
import Derived.Test.YtmlkhgekacjidadArgD
import Derived.Test.YtmlkhgekacjidadDocS
import Derived.Test.YtmlkhgekacjidadDocQ
namespace Go.Proofs.Ytmlkhgekacjidad.lawFnExactEqualDocuments
open Go.ChangeShapes Go.WideShapes Go.ChangeAt Go.RowKit
set_option maxRecDepth 1000000
set_option linter.unusedSimpArgs false
set_option linter.unusedVariables false
theorem own : ownKnob Try.prog.godebug = none := by kernel_rfl
set_option maxHeartbeats 8000000 in
theorem law_any {v0 : Value} {v1 : Value} {W : World} (i0 : InDoc W v0) (i1 : InDoc W v1) (w : World) (hWw : w = W) :
    Calls Try.prog 14 #[v0, v1] w fun e w' => e = .returned (.bool true) ∧ Below w.heap.size w w' := by
  subst hWw
  obtain ⟨t0, P0, n0, c0, ps0, S0, m0, d0, ss0, rfl, ht0, hn0, hm0, hP0, hS0, hsz0, hI0⟩ := i0
  obtain ⟨t1, P1, n1, c1, ps1, S1, m1, d1, ss1, rfl, ht1, hn1, hm1, hP1, hS1, hsz1, hI1⟩ := i1
  obtain ⟨W1, hW_W1⟩ : ∃ W1, (w.alloc (.cells #[.int .i64 t0, .slice P0 n0 c0, .slice S0 m0 d0] 62)).alloc (.cells #[.int .i64 t1, .slice P1 n1 c1, .slice S1 m1 d1] 62) = W1 := ⟨_, rfl⟩
  have hc_W10 : W1.cell? ⟨w.heap.size, 0, none⟩ = some (.int .i64 t0) := by rw [← hW_W1]; simp
  have hc_W11 : W1.cell? ⟨w.heap.size, 1, none⟩ = some (.slice P0 n0 c0) := by rw [← hW_W1]; simp
  have hc_W12 : W1.cell? ⟨w.heap.size, 2, none⟩ = some (.slice S0 m0 d0) := by rw [← hW_W1]; simp
  have hc_W13 : W1.cell? ⟨w.heap.size + 1, 0, none⟩ = some (.int .i64 t1) := by rw [← hW_W1]; simp
  have hc_W14 : W1.cell? ⟨w.heap.size + 1, 1, none⟩ = some (.slice P1 n1 c1) := by rw [← hW_W1]; simp
  have hc_W15 : W1.cell? ⟨w.heap.size + 1, 2, none⟩ = some (.slice S1 m1 d1) := by rw [← hW_W1]; simp
  have hs_W1 : w.heap.size < W1.heap.size := by rw [← hW_W1]; simp
  have hb_W1 : Below w.heap.size w W1 := by rw [← hW_W1]; repeat (first | exact Below.refl _ _ | assumption | refine Below.next_ ?_ ?_ (by assumption) | refine Below.drew ?_ | refine below_drewN ?_ _ | refine Below.alloc ?_ ?_ _ | refine Below.setCell ?_ ?_ _ | omega | (simp <;> omega) | (simp at * <;> omega))
  have HW_W1 := hide hW_W1
  clear hW_W1
  by_cases hgd : 0 ≤ szD ps0 m0 1048576
  rotate_left
  · have hgn := hide (szD_neg (by omega) hgd)
    go_enter Try.func14, Try.ntmps14
    go_wp2_with fail
    rw [HW_W1.out]
    clear HW_W1
    refine (szDocument_any (hP0.below hb_W1) (by omega) (by omega) hn0 hm0 hsz0).mono ?_
    rintro e w2 ⟨rfl, hb2⟩
    have hs2 := hb2.size
    rw [hgn.out]
    go_wp2_with fail
    go_ret
    exact ⟨rfl, by repeat (first | exact Below.refl _ _ | assumption | refine Below.next_ ?_ ?_ (by assumption) | refine Below.drew ?_ | refine below_drewN ?_ _ | refine Below.alloc ?_ ?_ _ | refine Below.setCell ?_ ?_ _ | omega | (dsimp only; omega) | (simp <;> omega) | (simp at * <;> omega))⟩
  have hle := szD_le (by omega) hgd
  have hgd' : ¬ szD ps0 m0 1048576 < 0 := by omega
  by_cases hge : 0 ≤ szD ps1 m1 (szD ps0 m0 1048576)
  rotate_left
  · have hgn := hide (szD_neg hgd hge)
    go_enter Try.func14, Try.ntmps14
    go_wp2_with fail
    rw [HW_W1.out]
    clear HW_W1
    refine (szDocument_any (hP0.below hb_W1) (by omega) (by omega) hn0 hm0 hsz0).mono ?_
    rintro e w2 ⟨rfl, hb2⟩
    have hs2 := hb2.size
    obtain ⟨hx0_, hx1_, hx2_⟩ := keep3 hb2 hc_W13 hc_W14 hc_W15
    go_wp2_with fail
    refine (szDocument_any (hP1.below (by repeat (first | exact Below.refl _ _ | assumption | refine Below.next_ ?_ ?_ (by assumption) | refine Below.drew ?_ | refine below_drewN ?_ _ | refine Below.alloc ?_ ?_ _ | refine Below.setCell ?_ ?_ _ | omega | (dsimp only; omega) | (simp <;> omega) | (simp at * <;> omega)))) hgd hle hn1 hm1 hsz1).mono ?_
    rintro e w3 ⟨rfl, hb3⟩
    rw [hgn.out]
    go_wp2_with fail
    go_ret
    exact ⟨rfl, by repeat (first | exact Below.refl _ _ | assumption | refine Below.next_ ?_ ?_ (by assumption) | refine Below.drew ?_ | refine below_drewN ?_ _ | refine Below.alloc ?_ ?_ _ | refine Below.setCell ?_ ?_ _ | omega | (dsimp only; omega) | (simp <;> omega) | (simp at * <;> omega))⟩
  obtain ⟨hlp, hlm, hlz⟩ := szD_ok (by omega) hgd
  obtain ⟨hlp2, hlm2, hlz2⟩ := szD_ok hgd hge
  have hln := hP0.maplen
  have hln2 := hP1.maplen
  have hn0s : n0 ≤ 1048576 := by omega
  have hm0s : m0 ≤ 1048576 := by omega
  have hn1s : n1 ≤ 1048576 := by omega
  have hm1s : m1 ≤ 1048576 := by omega
  have hge' : ¬ szD ps1 m1 (szD ps0 m0 1048576) < 0 := by omega
  clear hln hlp hlm hln2 hlp2 hlm2
  go_enter Try.func14, Try.ntmps14
  go_wp2_with fail
  rw [HW_W1.out]
  clear HW_W1
  refine (szDocument_any (hP0.below hb_W1) (by omega) (by omega) hn0 hm0 hsz0).mono ?_
  rintro e w1 ⟨rfl, hb_w1⟩
  have hs_w1 := hb_w1.size
  obtain ⟨hx0_, hx1_, hx2_⟩ := keep3 (W := W1) (w' := w1) (by repeat (first | exact Below.refl _ _ | assumption | refine Below.next_ ?_ ?_ (by assumption) | refine Below.drew ?_ | refine below_drewN ?_ _ | refine Below.alloc ?_ ?_ _ | refine Below.setCell ?_ ?_ _ | omega | (dsimp only; omega) | (simp <;> omega) | (simp at * <;> omega))) hc_W10 hc_W11 hc_W12
  obtain ⟨hy0_, hy1_, hy2_⟩ := keep3 (W := W1) (w' := w1) (by repeat (first | exact Below.refl _ _ | assumption | refine Below.next_ ?_ ?_ (by assumption) | refine Below.drew ?_ | refine below_drewN ?_ _ | refine Below.alloc ?_ ?_ _ | refine Below.setCell ?_ ?_ _ | omega | (dsimp only; omega) | (simp <;> omega) | (simp at * <;> omega))) hc_W13 hc_W14 hc_W15
  go_wp2_with fail
  refine (szDocument_any (hP1.below (by repeat (first | exact Below.refl _ _ | assumption | refine Below.next_ ?_ ?_ (by assumption) | refine Below.drew ?_ | refine below_drewN ?_ _ | refine Below.alloc ?_ ?_ _ | refine Below.setCell ?_ ?_ _ | omega | (dsimp only; omega) | (simp <;> omega) | (simp at * <;> omega)))) hgd hle hn1 hm1 hsz1).mono ?_
  rintro e w2 ⟨rfl, hb_w2⟩
  have hs_w2 := hb_w2.size
  obtain ⟨hx0_, hx1_, hx2_⟩ := keep3 (W := W1) (w' := w2) (by repeat (first | exact Below.refl _ _ | assumption | refine Below.next_ ?_ ?_ (by assumption) | refine Below.drew ?_ | refine below_drewN ?_ _ | refine Below.alloc ?_ ?_ _ | refine Below.setCell ?_ ?_ _ | omega | (dsimp only; omega) | (simp <;> omega) | (simp at * <;> omega))) hc_W10 hc_W11 hc_W12
  obtain ⟨hy0_, hy1_, hy2_⟩ := keep3 (W := W1) (w' := w2) (by repeat (first | exact Below.refl _ _ | assumption | refine Below.next_ ?_ ?_ (by assumption) | refine Below.drew ?_ | refine below_drewN ?_ _ | refine Below.alloc ?_ ?_ _ | refine Below.setCell ?_ ?_ _ | omega | (dsimp only; omega) | (simp <;> omega) | (simp at * <;> omega))) hc_W13 hc_W14 hc_W15
  go_wp2_with fail
  go_region_held3 (fun w' => w'.cell? ⟨w.heap.size, 0, none⟩ = some (.int .i64 t0) ∧ w'.cell? ⟨w.heap.size, 1, none⟩ = some (.slice P0 n0 c0) ∧ w'.cell? ⟨w.heap.size, 2, none⟩ = some (.slice S0 m0 d0) ∧ w'.cell? ⟨w.heap.size + 1, 0, none⟩ = some (.int .i64 t1) ∧ w'.cell? ⟨w.heap.size + 1, 1, none⟩ = some (.slice P1 n1 c1) ∧ w'.cell? ⟨w.heap.size + 1, 2, none⟩ = some (.slice S1 m1 d1)) (((refine keep6 (W := w2) ?_ hx0_ hx1_ hx2_ hy0_ hy1_ hy2_); (focus (repeat (first | exact Below.refl _ _ | assumption | refine Below.next_ ?_ ?_ (by assumption) | refine Below.drew ?_ | refine below_drewN ?_ _ | refine Below.alloc ?_ ?_ _ | refine Below.setCell ?_ ?_ _ | omega | (simp <;> omega) | (simp at * <;> omega))))))
      (first | (go_at_call 48; with_reducible refine (toDocument_any (hP0.below ?_) (hS0.below ?_) ?_ ?_).mono ?_; (focus (repeat (first | exact Below.refl _ _ | assumption | refine Below.next_ ?_ ?_ (by assumption) | refine Below.drew ?_ | refine below_drewN ?_ _ | refine Below.alloc ?_ ?_ _ | refine Below.setCell ?_ ?_ _ | omega | (dsimp only; omega) | (simp <;> omega) | (simp at * <;> omega)))); (focus (repeat (first | exact Below.refl _ _ | assumption | refine Below.next_ ?_ ?_ (by assumption) | refine Below.drew ?_ | refine below_drewN ?_ _ | refine Below.alloc ?_ ?_ _ | refine Below.setCell ?_ ?_ _ | omega | (dsimp only; omega) | (simp <;> omega) | (simp at * <;> omega)))); (focus (omega)); (focus (omega)); rintro e w3 ⟨P_3, S_3, c_3, d_3, rfl, hp_3, hq_3, hx_3, hb_w3⟩; have hs_w3 := hb_w3.size; (try simp at hs_w3)) | (go_at_call 48; with_reducible refine (toDocument_any (hP1.below ?_) (hS1.below ?_) ?_ ?_).mono ?_; (focus (repeat (first | exact Below.refl _ _ | assumption | refine Below.next_ ?_ ?_ (by assumption) | refine Below.drew ?_ | refine below_drewN ?_ _ | refine Below.alloc ?_ ?_ _ | refine Below.setCell ?_ ?_ _ | omega | (dsimp only; omega) | (simp <;> omega) | (simp at * <;> omega)))); (focus (repeat (first | exact Below.refl _ _ | assumption | refine Below.next_ ?_ ?_ (by assumption) | refine Below.drew ?_ | refine below_drewN ?_ _ | refine Below.alloc ?_ ?_ _ | refine Below.setCell ?_ ?_ _ | omega | (dsimp only; omega) | (simp <;> omega) | (simp at * <;> omega)))); (focus (omega)); (focus (omega)); rintro e w4 ⟨P_4, S_4, c_4, d_4, rfl, hp_4, hq_4, hx_4, hb_w4⟩; have hs_w4 := hb_w4.size; (try simp at hs_w4)) | (go_at_call 63; with_reducible refine (specEqualDocuments_any ((Rd.of_own hp_3).below ?_) ((Rd.of_own hq_3).below ?_) ((Rd.of_own hp_4).below ?_) ((Rd.of_own hq_4).below ?_) ?_ ?_ ?_ ?_).mono ?_; (focus (repeat (first | exact Below.refl _ _ | assumption | refine Below.next_ ?_ ?_ (by assumption) | refine Below.drew ?_ | refine below_drewN ?_ _ | refine Below.alloc ?_ ?_ _ | refine Below.setCell ?_ ?_ _ | omega | (dsimp only; omega) | (simp <;> omega) | (simp at * <;> omega)))); (focus (repeat (first | exact Below.refl _ _ | assumption | refine Below.next_ ?_ ?_ (by assumption) | refine Below.drew ?_ | refine below_drewN ?_ _ | refine Below.alloc ?_ ?_ _ | refine Below.setCell ?_ ?_ _ | omega | (dsimp only; omega) | (simp <;> omega) | (simp at * <;> omega)))); (focus (repeat (first | exact Below.refl _ _ | assumption | refine Below.next_ ?_ ?_ (by assumption) | refine Below.drew ?_ | refine below_drewN ?_ _ | refine Below.alloc ?_ ?_ _ | refine Below.setCell ?_ ?_ _ | omega | (dsimp only; omega) | (simp <;> omega) | (simp at * <;> omega)))); (focus (repeat (first | exact Below.refl _ _ | assumption | refine Below.next_ ?_ ?_ (by assumption) | refine Below.drew ?_ | refine below_drewN ?_ _ | refine Below.alloc ?_ ?_ _ | refine Below.setCell ?_ ?_ _ | omega | (dsimp only; omega) | (simp <;> omega) | (simp at * <;> omega)))); (focus (omega)); (focus (omega)); (focus (omega)); (focus (omega)); rintro e w5 ⟨rfl, hb_w5⟩; have hs_w5 := hb_w5.size; (try simp at hs_w5)))
  obtain ⟨hx0_, hx1_, hx2_⟩ := keep3 (W := W1) (w' := w5) (by repeat (first | exact Below.refl _ _ | assumption | refine Below.next_ ?_ ?_ (by assumption) | refine Below.drew ?_ | refine below_drewN ?_ _ | refine Below.alloc ?_ ?_ _ | refine Below.setCell ?_ ?_ _ | omega | (dsimp only; omega) | (simp <;> omega) | (simp at * <;> omega))) hc_W10 hc_W11 hc_W12
  obtain ⟨hy0_, hy1_, hy2_⟩ := keep3 (W := W1) (w' := w5) (by repeat (first | exact Below.refl _ _ | assumption | refine Below.next_ ?_ ?_ (by assumption) | refine Below.drew ?_ | refine below_drewN ?_ _ | refine Below.alloc ?_ ?_ _ | refine Below.setCell ?_ ?_ _ | omega | (dsimp only; omega) | (simp <;> omega) | (simp at * <;> omega))) hc_W13 hc_W14 hc_W15
  go_wp2_with fail
  refine (toDocument_any (hP0.below (by repeat (first | exact Below.refl _ _ | assumption | refine Below.next_ ?_ ?_ (by assumption) | refine Below.drew ?_ | refine below_drewN ?_ _ | refine Below.alloc ?_ ?_ _ | refine Below.setCell ?_ ?_ _ | omega | (dsimp only; omega) | (simp <;> omega) | (simp at * <;> omega)))) (hS0.below (by repeat (first | exact Below.refl _ _ | assumption | refine Below.next_ ?_ ?_ (by assumption) | refine Below.drew ?_ | refine below_drewN ?_ _ | refine Below.alloc ?_ ?_ _ | refine Below.setCell ?_ ?_ _ | omega | (dsimp only; omega) | (simp <;> omega) | (simp at * <;> omega)))) (by omega) (by omega)).mono ?_
  rintro e w6 ⟨P_6, S_6, c_6, d_6, rfl, hp_6, hq_6, hx_6, hb_w6⟩; have hs_w6 := hb_w6.size; (try simp at hs_w6)
  obtain ⟨hx0_, hx1_, hx2_⟩ := keep3 (W := W1) (w' := w6) (by repeat (first | exact Below.refl _ _ | assumption | refine Below.next_ ?_ ?_ (by assumption) | refine Below.drew ?_ | refine below_drewN ?_ _ | refine Below.alloc ?_ ?_ _ | refine Below.setCell ?_ ?_ _ | omega | (dsimp only; omega) | (simp <;> omega) | (simp at * <;> omega))) hc_W10 hc_W11 hc_W12
  obtain ⟨hy0_, hy1_, hy2_⟩ := keep3 (W := W1) (w' := w6) (by repeat (first | exact Below.refl _ _ | assumption | refine Below.next_ ?_ ?_ (by assumption) | refine Below.drew ?_ | refine below_drewN ?_ _ | refine Below.alloc ?_ ?_ _ | refine Below.setCell ?_ ?_ _ | omega | (dsimp only; omega) | (simp <;> omega) | (simp at * <;> omega))) hc_W13 hc_W14 hc_W15
  have ha0_ : (w6.alloc (.cells #[.int .i64 t0, .slice P_6 n0 c_6, .slice S_6 m0 d_6] 65)).cell? ⟨w.heap.size + 1, 0, none⟩ = some (.int .i64 t1) := (World.cell?_alloc_lt _ _ _ (cell_lt hy0_)).trans hy0_
  have ha1_ : (w6.alloc (.cells #[.int .i64 t0, .slice P_6 n0 c_6, .slice S_6 m0 d_6] 65)).cell? ⟨w.heap.size + 1, 1, none⟩ = some (.slice P1 n1 c1) := (World.cell?_alloc_lt _ _ _ (cell_lt hy1_)).trans hy1_
  have ha2_ : (w6.alloc (.cells #[.int .i64 t0, .slice P_6 n0 c_6, .slice S_6 m0 d_6] 65)).cell? ⟨w.heap.size + 1, 2, none⟩ = some (.slice S1 m1 d1) := (World.cell?_alloc_lt _ _ _ (cell_lt hy2_)).trans hy2_
  go_wp2_with fail
  refine (toDocument_any (hP1.below (by repeat (first | exact Below.refl _ _ | assumption | refine Below.next_ ?_ ?_ (by assumption) | refine Below.drew ?_ | refine below_drewN ?_ _ | refine Below.alloc ?_ ?_ _ | refine Below.setCell ?_ ?_ _ | omega | (dsimp only; omega) | (simp <;> omega) | (simp at * <;> omega)))) (hS1.below (by repeat (first | exact Below.refl _ _ | assumption | refine Below.next_ ?_ ?_ (by assumption) | refine Below.drew ?_ | refine below_drewN ?_ _ | refine Below.alloc ?_ ?_ _ | refine Below.setCell ?_ ?_ _ | omega | (dsimp only; omega) | (simp <;> omega) | (simp at * <;> omega)))) (by omega) (by omega)).mono ?_
  rintro e w7 ⟨P_7, S_7, c_7, d_7, rfl, hp_7, hq_7, hx_7, hb_w7⟩; have hs_w7 := hb_w7.size; (try simp at hs_w7)
  obtain ⟨hx0_, hx1_, hx2_⟩ := keep3 (W := W1) (w' := w7) (by repeat (first | exact Below.refl _ _ | assumption | refine Below.next_ ?_ ?_ (by assumption) | refine Below.drew ?_ | refine below_drewN ?_ _ | refine Below.alloc ?_ ?_ _ | refine Below.setCell ?_ ?_ _ | omega | (dsimp only; omega) | (simp <;> omega) | (simp at * <;> omega))) hc_W10 hc_W11 hc_W12
  obtain ⟨hy0_, hy1_, hy2_⟩ := keep3 (W := W1) (w' := w7) (by repeat (first | exact Below.refl _ _ | assumption | refine Below.next_ ?_ ?_ (by assumption) | refine Below.drew ?_ | refine below_drewN ?_ _ | refine Below.alloc ?_ ?_ _ | refine Below.setCell ?_ ?_ _ | omega | (dsimp only; omega) | (simp <;> omega) | (simp at * <;> omega))) hc_W13 hc_W14 hc_W15
  have hu0_ : w7.cell? ⟨w6.heap.size, 0, none⟩ = some (.int .i64 t0) := (hb_w7.cell (p := ⟨w6.heap.size, 0, none⟩) (by simp)).trans (by simp)
  have hv0_ : (w7.alloc (.cells #[.int .i64 t1, .slice P_7 n1 c_7, .slice S_7 m1 d_7] 65)).cell? ⟨w6.heap.size, 0, none⟩ = some (.int .i64 t0) := (World.cell?_alloc_lt _ _ _ (cell_lt hu0_)).trans hu0_
  have hu1_ : w7.cell? ⟨w6.heap.size, 1, none⟩ = some (.slice P_6 n0 c_6) := (hb_w7.cell (p := ⟨w6.heap.size, 1, none⟩) (by simp)).trans (by simp)
  have hv1_ : (w7.alloc (.cells #[.int .i64 t1, .slice P_7 n1 c_7, .slice S_7 m1 d_7] 65)).cell? ⟨w6.heap.size, 1, none⟩ = some (.slice P_6 n0 c_6) := (World.cell?_alloc_lt _ _ _ (cell_lt hu1_)).trans hu1_
  have hu2_ : w7.cell? ⟨w6.heap.size, 2, none⟩ = some (.slice S_6 m0 d_6) := (hb_w7.cell (p := ⟨w6.heap.size, 2, none⟩) (by simp)).trans (by simp)
  have hv2_ : (w7.alloc (.cells #[.int .i64 t1, .slice P_7 n1 c_7, .slice S_7 m1 d_7] 65)).cell? ⟨w6.heap.size, 2, none⟩ = some (.slice S_6 m0 d_6) := (World.cell?_alloc_lt _ _ _ (cell_lt hu2_)).trans hu2_
  go_wp2_with fail
  refine (implEqualDocuments_any ((Rd.of_own hp_6).below (by repeat (first | exact Below.refl _ _ | assumption | refine Below.next_ ?_ ?_ (by assumption) | refine Below.drew ?_ | refine below_drewN ?_ _ | refine Below.alloc ?_ ?_ _ | refine Below.setCell ?_ ?_ _ | omega | (dsimp only; omega) | (simp <;> omega) | (simp at * <;> omega)))) ((Rd.of_own hq_6).below (by repeat (first | exact Below.refl _ _ | assumption | refine Below.next_ ?_ ?_ (by assumption) | refine Below.drew ?_ | refine below_drewN ?_ _ | refine Below.alloc ?_ ?_ _ | refine Below.setCell ?_ ?_ _ | omega | (dsimp only; omega) | (simp <;> omega) | (simp at * <;> omega)))) ((Rd.of_own hp_7).below (by repeat (first | exact Below.refl _ _ | assumption | refine Below.next_ ?_ ?_ (by assumption) | refine Below.drew ?_ | refine below_drewN ?_ _ | refine Below.alloc ?_ ?_ _ | refine Below.setCell ?_ ?_ _ | omega | (dsimp only; omega) | (simp <;> omega) | (simp at * <;> omega)))) ((Rd.of_own hq_7).below (by repeat (first | exact Below.refl _ _ | assumption | refine Below.next_ ?_ ?_ (by assumption) | refine Below.drew ?_ | refine below_drewN ?_ _ | refine Below.alloc ?_ ?_ _ | refine Below.setCell ?_ ?_ _ | omega | (dsimp only; omega) | (simp <;> omega) | (simp at * <;> omega)))) (by omega) (by omega) (by omega) (by omega)).mono ?_
  rintro e w8 ⟨rfl, hb_w8⟩; have hs_w8 := hb_w8.size; (try simp at hs_w8)
  obtain ⟨hx0_, hx1_, hx2_⟩ := keep3 (W := W1) (w' := w8) (by repeat (first | exact Below.refl _ _ | assumption | refine Below.next_ ?_ ?_ (by assumption) | refine Below.drew ?_ | refine below_drewN ?_ _ | refine Below.alloc ?_ ?_ _ | refine Below.setCell ?_ ?_ _ | omega | (dsimp only; omega) | (simp <;> omega) | (simp at * <;> omega))) hc_W10 hc_W11 hc_W12
  obtain ⟨hy0_, hy1_, hy2_⟩ := keep3 (W := W1) (w' := w8) (by repeat (first | exact Below.refl _ _ | assumption | refine Below.next_ ?_ ?_ (by assumption) | refine Below.drew ?_ | refine below_drewN ?_ _ | refine Below.alloc ?_ ?_ _ | refine Below.setCell ?_ ?_ _ | omega | (dsimp only; omega) | (simp <;> omega) | (simp at * <;> omega))) hc_W13 hc_W14 hc_W15
  have hg0_ : w8.cell? ⟨w6.heap.size, 0, none⟩ = some (.int .i64 t0) := (hb_w8.cell (p := ⟨w6.heap.size, 0, none⟩) (cell_lt hv0_)).trans hv0_
  have hh0_ : w8.cell? ⟨w7.heap.size, 0, none⟩ = some (.int .i64 t1) := (hb_w8.cell (p := ⟨w7.heap.size, 0, none⟩) (by simp)).trans (by simp)
  have hg1_ : w8.cell? ⟨w6.heap.size, 1, none⟩ = some (.slice P_6 n0 c_6) := (hb_w8.cell (p := ⟨w6.heap.size, 1, none⟩) (cell_lt hv1_)).trans hv1_
  have hh1_ : w8.cell? ⟨w7.heap.size, 1, none⟩ = some (.slice P_7 n1 c_7) := (hb_w8.cell (p := ⟨w7.heap.size, 1, none⟩) (by simp)).trans (by simp)
  have hg2_ : w8.cell? ⟨w6.heap.size, 2, none⟩ = some (.slice S_6 m0 d_6) := (hb_w8.cell (p := ⟨w6.heap.size, 2, none⟩) (cell_lt hv2_)).trans hv2_
  have hh2_ : w8.cell? ⟨w7.heap.size, 2, none⟩ = some (.slice S_7 m1 d_7) := (hb_w8.cell (p := ⟨w7.heap.size, 2, none⟩) (by simp)).trans (by simp)
  go_wp2_with fail
  go_region_held3 (fun w' => w'.cell? ⟨w.heap.size, 0, none⟩ = some (.int .i64 t0) ∧ w'.cell? ⟨w.heap.size, 1, none⟩ = some (.slice P0 n0 c0) ∧ w'.cell? ⟨w.heap.size, 2, none⟩ = some (.slice S0 m0 d0) ∧ w'.cell? ⟨w6.heap.size, 0, none⟩ = some (.int .i64 t0) ∧ w'.cell? ⟨w6.heap.size, 1, none⟩ = some (.slice P_6 n0 c_6) ∧ w'.cell? ⟨w6.heap.size, 2, none⟩ = some (.slice S_6 m0 d_6)) (((refine keep6 (W := w8) ?_ hx0_ hx1_ hx2_ hg0_ hg1_ hg2_); (focus (repeat (first | exact Below.refl _ _ | assumption | refine Below.next_ ?_ ?_ (by assumption) | refine Below.drew ?_ | refine below_drewN ?_ _ | refine Below.alloc ?_ ?_ _ | refine Below.setCell ?_ ?_ _ | omega | (simp <;> omega) | (simp at * <;> omega))))))
      (first | (go_at_call 48; with_reducible refine (toDocument_any (hP0.below ?_) (hS0.below ?_) ?_ ?_).mono ?_; (focus (repeat (first | exact Below.refl _ _ | assumption | refine Below.next_ ?_ ?_ (by assumption) | refine Below.drew ?_ | refine below_drewN ?_ _ | refine Below.alloc ?_ ?_ _ | refine Below.setCell ?_ ?_ _ | omega | (dsimp only; omega) | (simp <;> omega) | (simp at * <;> omega)))); (focus (repeat (first | exact Below.refl _ _ | assumption | refine Below.next_ ?_ ?_ (by assumption) | refine Below.drew ?_ | refine below_drewN ?_ _ | refine Below.alloc ?_ ?_ _ | refine Below.setCell ?_ ?_ _ | omega | (dsimp only; omega) | (simp <;> omega) | (simp at * <;> omega)))); (focus (omega)); (focus (omega)); rintro e w9 ⟨P_9, S_9, c_9, d_9, rfl, hp_9, hq_9, hx_9, hb_w9⟩; have hs_w9 := hb_w9.size; (try simp at hs_w9)) | (go_at_call 50; with_reducible refine (eqDocument_any ((Rd.of_own hp_6).below ?_) ((Rd.of_own hq_6).below ?_) ((Rd.of_own hp_9).below ?_) ((Rd.of_own hq_9).below ?_) ?_ ?_ ?_ ?_).mono ?_; (focus (repeat (first | exact Below.refl _ _ | assumption | refine Below.next_ ?_ ?_ (by assumption) | refine Below.drew ?_ | refine below_drewN ?_ _ | refine Below.alloc ?_ ?_ _ | refine Below.setCell ?_ ?_ _ | omega | (dsimp only; omega) | (simp <;> omega) | (simp at * <;> omega)))); (focus (repeat (first | exact Below.refl _ _ | assumption | refine Below.next_ ?_ ?_ (by assumption) | refine Below.drew ?_ | refine below_drewN ?_ _ | refine Below.alloc ?_ ?_ _ | refine Below.setCell ?_ ?_ _ | omega | (dsimp only; omega) | (simp <;> omega) | (simp at * <;> omega)))); (focus (repeat (first | exact Below.refl _ _ | assumption | refine Below.next_ ?_ ?_ (by assumption) | refine Below.drew ?_ | refine below_drewN ?_ _ | refine Below.alloc ?_ ?_ _ | refine Below.setCell ?_ ?_ _ | omega | (dsimp only; omega) | (simp <;> omega) | (simp at * <;> omega)))); (focus (repeat (first | exact Below.refl _ _ | assumption | refine Below.next_ ?_ ?_ (by assumption) | refine Below.drew ?_ | refine below_drewN ?_ _ | refine Below.alloc ?_ ?_ _ | refine Below.setCell ?_ ?_ _ | omega | (dsimp only; omega) | (simp <;> omega) | (simp at * <;> omega)))); (focus (omega)); (focus (omega)); (focus (omega)); (focus (omega)); rintro e w10 ⟨rfl, hb_w10⟩; have hs_w10 := hb_w10.size; (try simp at hs_w10)))
  obtain ⟨hx0_, hx1_, hx2_⟩ := keep3 (W := W1) (w' := w10) (by repeat (first | exact Below.refl _ _ | assumption | refine Below.next_ ?_ ?_ (by assumption) | refine Below.drew ?_ | refine below_drewN ?_ _ | refine Below.alloc ?_ ?_ _ | refine Below.setCell ?_ ?_ _ | omega | (dsimp only; omega) | (simp <;> omega) | (simp at * <;> omega))) hc_W10 hc_W11 hc_W12
  obtain ⟨hy0_, hy1_, hy2_⟩ := keep3 (W := W1) (w' := w10) (by repeat (first | exact Below.refl _ _ | assumption | refine Below.next_ ?_ ?_ (by assumption) | refine Below.drew ?_ | refine below_drewN ?_ _ | refine Below.alloc ?_ ?_ _ | refine Below.setCell ?_ ?_ _ | omega | (dsimp only; omega) | (simp <;> omega) | (simp at * <;> omega))) hc_W13 hc_W14 hc_W15
  obtain ⟨hh0_, hh1_, hh2_⟩ := keep3 (W := w8) (w' := w10) (by repeat (first | exact Below.refl _ _ | assumption | refine Below.next_ ?_ ?_ (by assumption) | refine Below.drew ?_ | refine below_drewN ?_ _ | refine Below.alloc ?_ ?_ _ | refine Below.setCell ?_ ?_ _ | omega | (dsimp only; omega) | (simp <;> omega) | (simp at * <;> omega))) hh0_ hh1_ hh2_
  go_wp2_with fail
  go_region_held3 (fun w' => w'.cell? ⟨w.heap.size + 1, 0, none⟩ = some (.int .i64 t1) ∧ w'.cell? ⟨w.heap.size + 1, 1, none⟩ = some (.slice P1 n1 c1) ∧ w'.cell? ⟨w.heap.size + 1, 2, none⟩ = some (.slice S1 m1 d1) ∧ w'.cell? ⟨w7.heap.size, 0, none⟩ = some (.int .i64 t1) ∧ w'.cell? ⟨w7.heap.size, 1, none⟩ = some (.slice P_7 n1 c_7) ∧ w'.cell? ⟨w7.heap.size, 2, none⟩ = some (.slice S_7 m1 d_7)) (((refine keep6 (W := w10) ?_ hy0_ hy1_ hy2_ hh0_ hh1_ hh2_); (focus (repeat (first | exact Below.refl _ _ | assumption | refine Below.next_ ?_ ?_ (by assumption) | refine Below.drew ?_ | refine below_drewN ?_ _ | refine Below.alloc ?_ ?_ _ | refine Below.setCell ?_ ?_ _ | omega | (simp <;> omega) | (simp at * <;> omega))))))
      (first | (go_at_call 48; with_reducible refine (toDocument_any (hP1.below ?_) (hS1.below ?_) ?_ ?_).mono ?_; (focus (repeat (first | exact Below.refl _ _ | assumption | refine Below.next_ ?_ ?_ (by assumption) | refine Below.drew ?_ | refine below_drewN ?_ _ | refine Below.alloc ?_ ?_ _ | refine Below.setCell ?_ ?_ _ | omega | (dsimp only; omega) | (simp <;> omega) | (simp at * <;> omega)))); (focus (repeat (first | exact Below.refl _ _ | assumption | refine Below.next_ ?_ ?_ (by assumption) | refine Below.drew ?_ | refine below_drewN ?_ _ | refine Below.alloc ?_ ?_ _ | refine Below.setCell ?_ ?_ _ | omega | (dsimp only; omega) | (simp <;> omega) | (simp at * <;> omega)))); (focus (omega)); (focus (omega)); rintro e w11 ⟨P_11, S_11, c_11, d_11, rfl, hp_11, hq_11, hx_11, hb_w11⟩; have hs_w11 := hb_w11.size; (try simp at hs_w11)) | (go_at_call 50; with_reducible refine (eqDocument_any ((Rd.of_own hp_7).below ?_) ((Rd.of_own hq_7).below ?_) ((Rd.of_own hp_11).below ?_) ((Rd.of_own hq_11).below ?_) ?_ ?_ ?_ ?_).mono ?_; (focus (repeat (first | exact Below.refl _ _ | assumption | refine Below.next_ ?_ ?_ (by assumption) | refine Below.drew ?_ | refine below_drewN ?_ _ | refine Below.alloc ?_ ?_ _ | refine Below.setCell ?_ ?_ _ | omega | (dsimp only; omega) | (simp <;> omega) | (simp at * <;> omega)))); (focus (repeat (first | exact Below.refl _ _ | assumption | refine Below.next_ ?_ ?_ (by assumption) | refine Below.drew ?_ | refine below_drewN ?_ _ | refine Below.alloc ?_ ?_ _ | refine Below.setCell ?_ ?_ _ | omega | (dsimp only; omega) | (simp <;> omega) | (simp at * <;> omega)))); (focus (repeat (first | exact Below.refl _ _ | assumption | refine Below.next_ ?_ ?_ (by assumption) | refine Below.drew ?_ | refine below_drewN ?_ _ | refine Below.alloc ?_ ?_ _ | refine Below.setCell ?_ ?_ _ | omega | (dsimp only; omega) | (simp <;> omega) | (simp at * <;> omega)))); (focus (repeat (first | exact Below.refl _ _ | assumption | refine Below.next_ ?_ ?_ (by assumption) | refine Below.drew ?_ | refine below_drewN ?_ _ | refine Below.alloc ?_ ?_ _ | refine Below.setCell ?_ ?_ _ | omega | (dsimp only; omega) | (simp <;> omega) | (simp at * <;> omega)))); (focus (omega)); (focus (omega)); (focus (omega)); (focus (omega)); rintro e w12 ⟨rfl, hb_w12⟩; have hs_w12 := hb_w12.size; (try simp at hs_w12)))
  go_wp2_with fail
  go_ret
  exact ⟨rfl, by repeat (first | exact Below.refl _ _ | assumption | refine Below.next_ ?_ ?_ (by assumption) | refine Below.drew ?_ | refine below_drewN ?_ _ | refine Below.alloc ?_ ?_ _ | refine Below.setCell ?_ ?_ _ | omega | (simp <;> omega) | (simp at * <;> omega))⟩
theorem lifted (os : Os) (started : os.Started) (H : Type) (enc : TypeId × Value → H) :
    ReturnsInHanded {} Try.checked os 14 .any (Rows.fnExactEqualDocumentsSpec.pre6 enc Try.prog Try.f14 Rows.fnExactEqualDocumentsRow.domain false) (Rows.fnExactEqualDocumentsSpec.post enc Try.prog Try.f14 false true false false) := by
  refine returnsInHanded_of_change (C := Try.checked) own started (by kernel_rfl) Try.func14
    (ChangeSpec.witness6 (enc := enc) (C := Try.checked) false ⟨#[], #[.agg #[.int .i64 0, .slice none 0 0, .slice none 0 0], .agg #[.int .i64 0, .slice none 0 0, .slice none 0 0]], []⟩ 8 (by kernel_rfl) (by kernel_rfl) (by kernel_rfl) (by kernel_rfl)) ?_
  intro W base args ds gs before hval0 hW _ _
  have hval : ∀ (j : Nat) t v, Try.f14.params[j]? = some t → args[j]? = some v → Value.okWide Try.prog W .any base t v := hval0
  have hW' := hW
  obtain ⟨p, q, hA0, hV, rfl, _, _⟩ := hW
  have hA : DataW.TrodAll enc Try.prog W 0 (fun _ => true) true Try.f14.params.toList args.toList ds p := hA0
  have hlt : ∀ x ∈ p, x.block < W.heap.size := fun x hx => hW'.lt x (by simp [hx])
  have hkeep : ∀ W' : World, Below W.heap.size W W' → ∀ sp : Nat → Bool, (∀ x ∈ p ++ q, sp x.block = true) → DataW.TrodAll enc Try.prog W' 0 sp true Try.f14.params.toList args.toList ds p :=
    fun W' hb sp hsp => trodAll_stays laid hb _ _ _ _ (by kernel_rfl) hlt (fun x hx => hsp x (by simp [hx])) hA
  rw [Try.params14] at hA hval
  obtain ⟨v0, vs0, d0, ds0, p0, q0, hargs, rfl, rfl, h0, r0⟩ := trodAll_cons hA
  obtain ⟨v1, vs1, d1, ds1, p1, q1, rfl, rfl, rfl, h1, r1⟩ := trodAll_cons r0
  obtain ⟨rfl, rfl, rfl⟩ := trodAll_nil r1
  obtain rfl : args = #[v0, v1] := by cases args; simp_all
  obtain ⟨rfl, rfl⟩ := trodVars_none hV
  have i0 : InDoc W v0 := InDoc.of (hval 0 62 v0 rfl rfl) h0
  have i1 : InDoc W v1 := InDoc.of (hval 1 62 v1 rfl rfl) h1
  refine (law_any i0 i1 W rfl).mono fun e W' ⟨he, hb⟩ => ?_
  subst he
  exact ⟨_, rfl, post_of_below (pv := []) hW' (fun _ _ _ => (trodAll_cons_mk (shut_bool Try.underlying4 _) trodAll_mk0)) (hkeep W' hb) (fun _ _ => rfl) rfl
    hb (ok_one (by kernel_rfl) rfl (okWide_bool_mk Try.underlying4 _))⟩

theorem over : Rows.fnExactEqualDocumentsRow.holds Try.pinned (OpenSpec.ofChange Rows.fnExactEqualDocumentsSpec) :=
  OpenClaim.holds_of_wide 14 Try.f14 rfl rfl rfl rfl rfl rfl rfl ⟨rfl, rfl, rfl, rfl, rfl⟩ rfl rfl rfl rfl rfl (by kernel_rfl) Try.func14 (by kernel_rfl)
    (of_decide_eq_true (by kernel_rfl)) (by unfold Func.isWrapper; first | (rw [if_pos (by decide +kernel)]; kernel_rfl) | (rw [if_neg (by decide +kernel)]; exact ⟨rfl, rfl⟩))
    (fun os started H enc _ => lifted os started H enc)

theorem proved : Rows.FnExactEqualDocumentsSaid :=
  over
#print axioms proved
end Go.Proofs.Ytmlkhgekacjidad.lawFnExactEqualDocuments
