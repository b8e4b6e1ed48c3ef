/- The program's IsRedactionOf returns what the reference's returns, and changes no argument. For every input. -/
import Derived.Test.YthjdigiaajdnbaaArgs
import Derived.Test.YthjdigiaajdnbaaArgR
import Derived.Test.YthjdigiaajdnbaaArgD
import Derived.Test.YthjdigiaajdnbaaDocS
import Derived.Test.YthjdigiaajdnbaaDocE
import Derived.Test.YthjdigiaajdnbaaRedS
import Derived.Test.YthjdigiaajdnbaaRedE
import Derived.Test.YthjdigiaajdnbaaRedT
import Derived.Test.YthjdigiaajdnbaaRedK
import Derived.Test.YthjdigiaajdnbaaRos
import Derived.Test.YthjdigiaajdnbaaRoi
namespace Go.Proofs.Ythjdigiaajdnbaa.lawFnExactIsRedactionOf
open Go.ChangeShapes Go.WideShapes Go.ChangeAt Go.RowKit
set_option maxRecDepth 1000000
set_option linter.unusedSimpArgs false
set_option linter.unusedVariables false
theorem own : ownKnob Try.prog.godebug = none := by kernel_rfl
theorem keep9 {W w' : World} {a0 a1 a2 a3 a4 a5 a6 a7 a8 : Addr} {v0 v1 v2 v3 v4 v5 v6 v7 v8 : Value} (hb : Below W.heap.size W w') (h0 : W.cell? a0 = some v0) (h1 : W.cell? a1 = some v1) (h2 : W.cell? a2 = some v2) (h3 : W.cell? a3 = some v3) (h4 : W.cell? a4 = some v4) (h5 : W.cell? a5 = some v5) (h6 : W.cell? a6 = some v6) (h7 : W.cell? a7 = some v7) (h8 : W.cell? a8 = some v8) : w'.cell? a0 = some v0 ∧ w'.cell? a1 = some v1 ∧ w'.cell? a2 = some v2 ∧ w'.cell? a3 = some v3 ∧ w'.cell? a4 = some v4 ∧ w'.cell? a5 = some v5 ∧ w'.cell? a6 = some v6 ∧ w'.cell? a7 = some v7 ∧ w'.cell? a8 = some v8 := ⟨(hb.cell (cell_lt h0)).trans h0, (hb.cell (cell_lt h1)).trans h1, (hb.cell (cell_lt h2)).trans h2, (hb.cell (cell_lt h3)).trans h3, (hb.cell (cell_lt h4)).trans h4, (hb.cell (cell_lt h5)).trans h5, (hb.cell (cell_lt h6)).trans h6, (hb.cell (cell_lt h7)).trans h7, (hb.cell (cell_lt h8)).trans h8⟩
set_option maxHeartbeats 16000000 in
theorem law_any {v0 v1 : Value} {W : World} (i0 : InRed W v0) (i1 : InDoc W v1) (w : World) (hWw : w = W) :
    Calls Try.prog 4 #[v0, v1] w fun e w' => e = .returned (.bool true) ∧ Below w.heap.size w w' := by
  subst hWw
  obtain ⟨t0, M0, B0, P0, S0, D0, nm0, nb0, np0, ns0, nd0, cm0, cb0, cp0, cs0, cd0, ms0, bs0, ps0, ss0, ds0, rfl, ht0, hR0, hB0, hsz0, hIm0, hIs0, hId0⟩ := i0
  obtain ⟨t1, P1, n1, c1, ps1, S1, m1, d1, ss1, rfl, ht1, hn1, hm1, hP1, hS1, hsz1, hI1⟩ := i1
  obtain ⟨W1, hW_W1⟩ : ∃ W1, (w.alloc (.cells #[.int .i64 t0, .slice M0 nm0 cm0, .slice B0 nb0 cb0, .slice P0 np0 cp0, .slice S0 ns0 cs0, .slice D0 nd0 cd0] 45)).alloc (.cells #[.int .i64 t1, .slice P1 n1 c1, .slice S1 m1 d1] 46) = W1 := ⟨_, rfl⟩
  have hs_W1 : w.heap.size < W1.heap.size := by rw [← hW_W1]; simp
  have hb_W1 : Below w.heap.size w W1 := by rw [← hW_W1]; repeat (first | exact Below.refl _ _ | assumption | refine Below.next_ ?_ ?_ (by assumption) | refine Below.drew ?_ | refine below_drewN ?_ _ | refine Below.alloc ?_ ?_ _ | refine Below.setCell ?_ ?_ _ | omega | (simp <;> omega) | (simp at * <;> omega))
  have bkR : Blk W1 w.heap.size [.int .i64 t0, .slice M0 nm0 cm0, .slice B0 nb0 cb0, .slice P0 np0 cp0, .slice S0 ns0 cs0, .slice D0 nd0 cd0] := by rw [← hW_W1]; exact (Blk.new _ _ _).alloc _
  have bkD : Blk W1 (w.heap.size + 1) [.int .i64 t1, .slice P1 n1 c1, .slice S1 m1 d1] := by rw [← hW_W1]; exact Blk.new_ _ _ _ (by simp)
  have HW_W1 := hide hW_W1
  clear hW_W1
  have hkR := RdR.below hR0 hb_W1
  obtain ⟨left, hL⟩ : ∃ x, szR nm0 nb0 ps0 ns0 ds0 1048576 = x := ⟨_, rfl⟩
  have hLE := hide hL
  by_cases hgd : left < 0
  · clear hL
    go_enter Try.func4, Try.ntmps4
    go_wp2_with fail
    rw [HW_W1.out]
    clear HW_W1
    refine (szRedacted_any hkR (by omega) (by omega) hB0 hsz0).mono ?_
    rintro e w1 ⟨rfl, hb_1⟩
    rw [hLE.out]
    have hz_1 := hb_1.size
    go_wp2_with fail
    go_ret
    exact ⟨rfl, by repeat (first | exact Below.refl _ _ | assumption | refine Below.next_ ?_ ?_ (by assumption) | refine Below.drew ?_ | refine below_drewN ?_ _ | refine Below.alloc ?_ ?_ _ | refine Below.setCell ?_ ?_ _ | omega | (dsimp only; omega) | (simp <;> omega) | (simp at * <;> omega))⟩
  obtain ⟨hl1_, hl2_, hl3_, hl4_, hl5_, hl6_, hl7_, hl8_⟩ := szR_ok (left := 1048576) (by omega) (show 0 ≤ szR nm0 nb0 ps0 ns0 ds0 1048576 by omega)
  have hlp_ := hkR.p.maplen
  have hld_ := hkR.d.len
  have hC0 : BdR 1048576 nm0 nb0 np0 ns0 nd0 ds0 := ⟨by omega, by omega, by omega, by omega, by omega, fun x hx => by have := hl7_ x hx; omega⟩
  have hD0 : BdR 1099511627776 nm0 nb0 np0 ns0 nd0 ds0 := hC0.mono (by omega)
  have hL0 : 0 ≤ left := by omega
  have hL1 : left ≤ 1048576 := by omega
  clear hl1_ hl2_ hl3_ hl4_ hl5_ hl6_ hl7_ hl8_ hlp_ hld_ hL
  by_cases hge : 0 ≤ szD ps1 m1 left
  rotate_left
  · have hgn := hide (szD_neg hL0 hge)
    go_enter Try.func4, Try.ntmps4
    go_wp2_with fail
    rw [HW_W1.out]
    clear HW_W1
    refine (szRedacted_any hkR (by omega) (by omega) hB0 hsz0).mono ?_
    rintro e w1 ⟨rfl, hb_1⟩
    rw [hLE.out]
    have hz_1 := hb_1.size
    replace bkR := Blk.below bkR hb_1
    replace bkD := Blk.below bkD hb_1
    obtain ⟨⟨a0, a1, a2, a3, a4, a5⟩, a6, a7, a8, a9, a10, a11⟩ := bkR.six
    obtain ⟨⟨b0, b1, b2⟩, b3, b4, b5⟩ := bkD.three
    go_wp2_with fail
    refine (szDocument_any (hP1.below (by repeat (first | exact Below.refl _ _ | assumption | refine Below.next_ ?_ ?_ (by assumption) | refine Below.drew ?_ | refine below_drewN ?_ _ | refine Below.alloc ?_ ?_ _ | refine Below.setCell ?_ ?_ _ | omega | (dsimp only; omega) | (simp <;> omega) | (simp at * <;> omega)))) hL0 hL1 hn1 hm1 hsz1).mono ?_
    rintro e w2 ⟨rfl, hb_2⟩
    have hz_2 := hb_2.size
    rw [hgn.out]
    go_wp2_with fail
    go_ret
    exact ⟨rfl, by repeat (first | exact Below.refl _ _ | assumption | refine Below.next_ ?_ ?_ (by assumption) | refine Below.drew ?_ | refine below_drewN ?_ _ | refine Below.alloc ?_ ?_ _ | refine Below.setCell ?_ ?_ _ | omega | (dsimp only; omega) | (simp <;> omega) | (simp at * <;> omega))⟩
  obtain ⟨hlp2, hlm2, hlz2⟩ := szD_ok hL0 hge
  have hln2 := hP1.maplen
  have hn1s : n1 ≤ 1048576 := by omega
  have hm1s : m1 ≤ 1048576 := by omega
  have hge' : ¬ szD ps1 m1 left < 0 := by omega
  clear hln2 hlp2 hlm2
  go_enter Try.func4, Try.ntmps4
  go_wp2_with fail
  rw [HW_W1.out]
  clear HW_W1
  refine (szRedacted_any hkR (by omega) (by omega) hB0 hsz0).mono ?_
  rintro e w1 ⟨rfl, hb_1⟩
  rw [hLE.out]
  have hz_1 := hb_1.size
  replace bkR := Blk.below bkR hb_1
  replace bkD := Blk.below bkD hb_1
  obtain ⟨⟨a0, a1, a2, a3, a4, a5⟩, a6, a7, a8, a9, a10, a11⟩ := bkR.six
  obtain ⟨⟨b0, b1, b2⟩, b3, b4, b5⟩ := bkD.three
  go_wp2_with fail
  refine (szDocument_any (hP1.below (by repeat (first | exact Below.refl _ _ | assumption | refine Below.next_ ?_ ?_ (by assumption) | refine Below.drew ?_ | refine below_drewN ?_ _ | refine Below.alloc ?_ ?_ _ | refine Below.setCell ?_ ?_ _ | omega | (dsimp only; omega) | (simp <;> omega) | (simp at * <;> omega)))) hL0 hL1 hn1 hm1 hsz1).mono ?_
  rintro e w2 ⟨rfl, hb_2⟩
  have hz_2 := hb_2.size
  clear a0 a1 a2 a3 a4 a5 a6 a7 a8 a9 a10 a11 b0 b1 b2 b3 b4 b5
  replace bkR := Blk.below bkR (w' := w2) (by repeat (first | exact Below.refl _ _ | assumption | refine Below.next_ ?_ ?_ (by assumption) | refine Below.drew ?_ | refine below_drewN ?_ _ | refine Below.alloc ?_ ?_ _ | refine Below.setCell ?_ ?_ _ | omega | (dsimp only; omega) | (simp <;> omega) | (simp at * <;> omega)))
  replace bkD := Blk.below bkD (w' := w2) (by repeat (first | exact Below.refl _ _ | assumption | refine Below.next_ ?_ ?_ (by assumption) | refine Below.drew ?_ | refine below_drewN ?_ _ | refine Below.alloc ?_ ?_ _ | refine Below.setCell ?_ ?_ _ | omega | (dsimp only; omega) | (simp <;> omega) | (simp at * <;> omega)))
  obtain ⟨⟨a0, a1, a2, a3, a4, a5⟩, a6, a7, a8, a9, a10, a11⟩ := bkR.six
  obtain ⟨⟨b0, b1, b2⟩, b3, b4, b5⟩ := bkD.three
  go_wp2_with fail
  go_region_held3 (fun w' => w'.cell? ⟨w.heap.size, 0, none⟩ = some (.int .i64 t0) ∧ w'.cell? ⟨w.heap.size, 1, none⟩ = some (.slice M0 nm0 cm0) ∧ w'.cell? ⟨w.heap.size, 2, none⟩ = some (.slice B0 nb0 cb0) ∧ w'.cell? ⟨w.heap.size, 3, none⟩ = some (.slice P0 np0 cp0) ∧ w'.cell? ⟨w.heap.size, 4, none⟩ = some (.slice S0 ns0 cs0) ∧ w'.cell? ⟨w.heap.size, 5, none⟩ = some (.slice D0 nd0 cd0) ∧ w'.cell? ⟨w.heap.size + 1, 0, none⟩ = some (.int .i64 t1) ∧ w'.cell? ⟨w.heap.size + 1, 1, none⟩ = some (.slice P1 n1 c1) ∧ w'.cell? ⟨w.heap.size + 1, 2, none⟩ = some (.slice S1 m1 d1)) (((refine keep9 (W := w2) ?_ a0 a1 a2 a3 a4 a5 b0 b1 b2); (focus (repeat (first | exact Below.refl _ _ | assumption | refine Below.next_ ?_ ?_ (by assumption) | refine Below.drew ?_ | refine below_drewN ?_ _ | refine Below.alloc ?_ ?_ _ | refine Below.setCell ?_ ?_ _ | omega | (simp <;> omega) | (simp at * <;> omega))))))
      (first | (go_at_call 21; with_reducible refine (toRedacted_any (RdR.below hkR ?_) hD0).mono ?_; (focus (repeat (first | exact Below.refl _ _ | assumption | refine Below.next_ ?_ ?_ (by assumption) | refine Below.drew ?_ | refine below_drewN ?_ _ | refine Below.alloc ?_ ?_ _ | refine Below.setCell ?_ ?_ _ | omega | (dsimp only; omega) | (simp <;> omega) | (simp at * <;> omega)))); rintro e w3 ⟨M_3, B_3, P_3, S_3, D_3, cm_3, cb_3, cp_3, cs_3, cd_3, rfl, hq_3, hb_3⟩; have hz_3 := hb_3.size; (try simp at hz_3)) | (go_at_call 22; with_reducible refine (toDocument_any (hP1.below ?_) (hS1.below ?_) ?_ ?_).mono ?_; (focus (repeat (first | exact Below.refl _ _ | assumption | refine Below.next_ ?_ ?_ (by assumption) | refine Below.drew ?_ | refine below_drewN ?_ _ | refine Below.alloc ?_ ?_ _ | refine Below.setCell ?_ ?_ _ | omega | (dsimp only; omega) | (simp <;> omega) | (simp at * <;> omega)))); (focus (repeat (first | exact Below.refl _ _ | assumption | refine Below.next_ ?_ ?_ (by assumption) | refine Below.drew ?_ | refine below_drewN ?_ _ | refine Below.alloc ?_ ?_ _ | refine Below.setCell ?_ ?_ _ | omega | (dsimp only; omega) | (simp <;> omega) | (simp at * <;> omega)))); (focus (omega)); (focus (omega)); rintro e w4 ⟨Q_4, Z_4, c_4, d_4, rfl, hp_4, hs_4, hx_4, hb_4⟩; have hz_4 := hb_4.size; (try simp at hz_4)) | (go_at_call 20; with_reducible refine (specIsRedactionOf_any (RdR.below hq_3 ?_) ((Rd.of_own hp_4).below ?_) ((Rd.of_own hs_4).below ?_) hC0 ?_ ?_ hIm0).mono ?_; (focus (repeat (first | exact Below.refl _ _ | assumption | refine Below.next_ ?_ ?_ (by assumption) | refine Below.drew ?_ | refine below_drewN ?_ _ | refine Below.alloc ?_ ?_ _ | refine Below.setCell ?_ ?_ _ | omega | (dsimp only; omega) | (simp <;> omega) | (simp at * <;> omega)))); (focus (repeat (first | exact Below.refl _ _ | assumption | refine Below.next_ ?_ ?_ (by assumption) | refine Below.drew ?_ | refine below_drewN ?_ _ | refine Below.alloc ?_ ?_ _ | refine Below.setCell ?_ ?_ _ | omega | (dsimp only; omega) | (simp <;> omega) | (simp at * <;> omega)))); (focus (repeat (first | exact Below.refl _ _ | assumption | refine Below.next_ ?_ ?_ (by assumption) | refine Below.drew ?_ | refine below_drewN ?_ _ | refine Below.alloc ?_ ?_ _ | refine Below.setCell ?_ ?_ _ | omega | (dsimp only; omega) | (simp <;> omega) | (simp at * <;> omega)))); (focus (omega)); (focus (omega)); rintro e w5 ⟨rfl, hb_5⟩; have hz_5 := hb_5.size; (try simp at hz_5)))
  clear a0 a1 a2 a3 a4 a5 a6 a7 a8 a9 a10 a11 b0 b1 b2 b3 b4 b5
  replace bkR := Blk.below bkR (w' := w5) (by repeat (first | exact Below.refl _ _ | assumption | refine Below.next_ ?_ ?_ (by assumption) | refine Below.drew ?_ | refine below_drewN ?_ _ | refine Below.alloc ?_ ?_ _ | refine Below.setCell ?_ ?_ _ | omega | (dsimp only; omega) | (simp <;> omega) | (simp at * <;> omega)))
  replace bkD := Blk.below bkD (w' := w5) (by repeat (first | exact Below.refl _ _ | assumption | refine Below.next_ ?_ ?_ (by assumption) | refine Below.drew ?_ | refine below_drewN ?_ _ | refine Below.alloc ?_ ?_ _ | refine Below.setCell ?_ ?_ _ | omega | (dsimp only; omega) | (simp <;> omega) | (simp at * <;> omega)))
  obtain ⟨⟨a0, a1, a2, a3, a4, a5⟩, a6, a7, a8, a9, a10, a11⟩ := bkR.six
  obtain ⟨⟨b0, b1, b2⟩, b3, b4, b5⟩ := bkD.three
  go_wp2_with fail
  refine (toRedacted_any (RdR.below hkR (by repeat (first | exact Below.refl _ _ | assumption | refine Below.next_ ?_ ?_ (by assumption) | refine Below.drew ?_ | refine below_drewN ?_ _ | refine Below.alloc ?_ ?_ _ | refine Below.setCell ?_ ?_ _ | omega | (dsimp only; omega) | (simp <;> omega) | (simp at * <;> omega)))) hD0).mono ?_
  rintro e w6 ⟨M_6, B_6, P_6, S_6, D_6, cm_6, cb_6, cp_6, cs_6, cd_6, rfl, hq_6, hb_6⟩; have hz_6 := hb_6.size; (try simp at hz_6)
  clear a0 a1 a2 a3 a4 a5 a6 a7 a8 a9 a10 a11 b0 b1 b2 b3 b4 b5
  replace bkR := Blk.below bkR (w' := w6) (by repeat (first | exact Below.refl _ _ | assumption | refine Below.next_ ?_ ?_ (by assumption) | refine Below.drew ?_ | refine below_drewN ?_ _ | refine Below.alloc ?_ ?_ _ | refine Below.setCell ?_ ?_ _ | omega | (dsimp only; omega) | (simp <;> omega) | (simp at * <;> omega)))
  replace bkD := Blk.below bkD (w' := w6) (by repeat (first | exact Below.refl _ _ | assumption | refine Below.next_ ?_ ?_ (by assumption) | refine Below.drew ?_ | refine below_drewN ?_ _ | refine Below.alloc ?_ ?_ _ | refine Below.setCell ?_ ?_ _ | omega | (dsimp only; omega) | (simp <;> omega) | (simp at * <;> omega)))
  obtain ⟨⟨a0, a1, a2, a3, a4, a5⟩, a6, a7, a8, a9, a10, a11⟩ := (Blk.alloc bkR (.cells #[.int .i64 t0, .slice M_6 nm0 cm_6, .slice B_6 nb0 cb_6, .slice P_6 np0 cp_6, .slice S_6 ns0 cs_6, .slice D_6 nd0 cd_6] 33)).six
  obtain ⟨⟨b0, b1, b2⟩, b3, b4, b5⟩ := (Blk.alloc bkD (.cells #[.int .i64 t0, .slice M_6 nm0 cm_6, .slice B_6 nb0 cb_6, .slice P_6 np0 cp_6, .slice S_6 ns0 cs_6, .slice D_6 nd0 cd_6] 33)).three
  go_wp2_with fail
  refine (toDocument_any (hP1.below (by repeat (first | exact Below.refl _ _ | assumption | refine Below.next_ ?_ ?_ (by assumption) | refine Below.drew ?_ | refine below_drewN ?_ _ | refine Below.alloc ?_ ?_ _ | refine Below.setCell ?_ ?_ _ | omega | (dsimp only; omega) | (simp <;> omega) | (simp at * <;> omega)))) (hS1.below (by repeat (first | exact Below.refl _ _ | assumption | refine Below.next_ ?_ ?_ (by assumption) | refine Below.drew ?_ | refine below_drewN ?_ _ | refine Below.alloc ?_ ?_ _ | refine Below.setCell ?_ ?_ _ | omega | (dsimp only; omega) | (simp <;> omega) | (simp at * <;> omega)))) (by omega) (by omega)).mono ?_
  rintro e w7 ⟨Q_7, Z_7, c_7, d_7, rfl, hp_7, hs_7, hx_7, hb_7⟩; have hz_7 := hb_7.size; (try simp at hz_7)
  have bkx : Blk w7 w6.heap.size [.int .i64 t0, .slice M_6 nm0 cm_6, .slice B_6 nb0 cb_6, .slice P_6 np0 cp_6, .slice S_6 ns0 cs_6, .slice D_6 nd0 cd_6] := Blk.below (Blk.new w6 #[.int .i64 t0, .slice M_6 nm0 cm_6, .slice B_6 nb0 cb_6, .slice P_6 np0 cp_6, .slice S_6 ns0 cs_6, .slice D_6 nd0 cd_6] 33) hb_7
  clear a0 a1 a2 a3 a4 a5 a6 a7 a8 a9 a10 a11 b0 b1 b2 b3 b4 b5
  replace bkR := Blk.below bkR (w' := w7) (by repeat (first | exact Below.refl _ _ | assumption | refine Below.next_ ?_ ?_ (by assumption) | refine Below.drew ?_ | refine below_drewN ?_ _ | refine Below.alloc ?_ ?_ _ | refine Below.setCell ?_ ?_ _ | omega | (dsimp only; omega) | (simp <;> omega) | (simp at * <;> omega)))
  replace bkD := Blk.below bkD (w' := w7) (by repeat (first | exact Below.refl _ _ | assumption | refine Below.next_ ?_ ?_ (by assumption) | refine Below.drew ?_ | refine below_drewN ?_ _ | refine Below.alloc ?_ ?_ _ | refine Below.setCell ?_ ?_ _ | omega | (dsimp only; omega) | (simp <;> omega) | (simp at * <;> omega)))
  obtain ⟨⟨x0, x1, x2, x3, x4, x5⟩, x6, x7, x8, x9, x10, x11⟩ := (Blk.alloc bkx (.cells #[.int .i64 t1, .slice Q_7 n1 c_7, .slice Z_7 m1 d_7] 27)).six
  go_wp2_with fail
  refine (implIsRedactionOf_any (RdR.below hq_6 (by repeat (first | exact Below.refl _ _ | assumption | refine Below.next_ ?_ ?_ (by assumption) | refine Below.drew ?_ | refine below_drewN ?_ _ | refine Below.alloc ?_ ?_ _ | refine Below.setCell ?_ ?_ _ | omega | (dsimp only; omega) | (simp <;> omega) | (simp at * <;> omega)))) ((Rd.of_own hp_7).below (by repeat (first | exact Below.refl _ _ | assumption | refine Below.next_ ?_ ?_ (by assumption) | refine Below.drew ?_ | refine below_drewN ?_ _ | refine Below.alloc ?_ ?_ _ | refine Below.setCell ?_ ?_ _ | omega | (dsimp only; omega) | (simp <;> omega) | (simp at * <;> omega)))) ((Rd.of_own hs_7).below (by repeat (first | exact Below.refl _ _ | assumption | refine Below.next_ ?_ ?_ (by assumption) | refine Below.drew ?_ | refine below_drewN ?_ _ | refine Below.alloc ?_ ?_ _ | refine Below.setCell ?_ ?_ _ | omega | (dsimp only; omega) | (simp <;> omega) | (simp at * <;> omega)))) hC0 (by omega) (by omega) hIm0).mono ?_
  rintro e w8 ⟨rfl, hb_8⟩; have hz_8 := hb_8.size; (try simp at hz_8)
  have bky : Blk w8 w7.heap.size [.int .i64 t1, .slice Q_7 n1 c_7, .slice Z_7 m1 d_7] := Blk.below (Blk.new w7 #[.int .i64 t1, .slice Q_7 n1 c_7, .slice Z_7 m1 d_7] 27) hb_8
  clear x0 x1 x2 x3 x4 x5 x6 x7 x8 x9 x10 x11
  replace bkR := Blk.below bkR (w' := w8) (by repeat (first | exact Below.refl _ _ | assumption | refine Below.next_ ?_ ?_ (by assumption) | refine Below.drew ?_ | refine below_drewN ?_ _ | refine Below.alloc ?_ ?_ _ | refine Below.setCell ?_ ?_ _ | omega | (dsimp only; omega) | (simp <;> omega) | (simp at * <;> omega)))
  replace bkD := Blk.below bkD (w' := w8) (by repeat (first | exact Below.refl _ _ | assumption | refine Below.next_ ?_ ?_ (by assumption) | refine Below.drew ?_ | refine below_drewN ?_ _ | refine Below.alloc ?_ ?_ _ | refine Below.setCell ?_ ?_ _ | omega | (dsimp only; omega) | (simp <;> omega) | (simp at * <;> omega)))
  replace bkx := Blk.below bkx (w' := w8) (by repeat (first | exact Below.refl _ _ | assumption | refine Below.next_ ?_ ?_ (by assumption) | refine Below.drew ?_ | refine below_drewN ?_ _ | refine Below.alloc ?_ ?_ _ | refine Below.setCell ?_ ?_ _ | omega | (dsimp only; omega) | (simp <;> omega) | (simp at * <;> omega)))
  obtain ⟨⟨a0, a1, a2, a3, a4, a5⟩, a6, a7, a8, a9, a10, a11⟩ := bkR.six
  obtain ⟨⟨x0, x1, x2, x3, x4, x5⟩, x6, x7, x8, x9, x10, x11⟩ := bkx.six
  go_wp2_with fail
  go_region_held3 (fun w' => w'.cell? ⟨w.heap.size, 0, none⟩ = some (.int .i64 t0) ∧ w'.cell? ⟨w.heap.size, 1, none⟩ = some (.slice M0 nm0 cm0) ∧ w'.cell? ⟨w.heap.size, 2, none⟩ = some (.slice B0 nb0 cb0) ∧ w'.cell? ⟨w.heap.size, 3, none⟩ = some (.slice P0 np0 cp0) ∧ w'.cell? ⟨w.heap.size, 4, none⟩ = some (.slice S0 ns0 cs0) ∧ w'.cell? ⟨w.heap.size, 5, none⟩ = some (.slice D0 nd0 cd0) ∧ w'.cell? ⟨w6.heap.size, 0, none⟩ = some (.int .i64 t0) ∧ w'.cell? ⟨w6.heap.size, 1, none⟩ = some (.slice M_6 nm0 cm_6) ∧ w'.cell? ⟨w6.heap.size, 2, none⟩ = some (.slice B_6 nb0 cb_6) ∧ w'.cell? ⟨w6.heap.size, 3, none⟩ = some (.slice P_6 np0 cp_6) ∧ w'.cell? ⟨w6.heap.size, 4, none⟩ = some (.slice S_6 ns0 cs_6) ∧ w'.cell? ⟨w6.heap.size, 5, none⟩ = some (.slice D_6 nd0 cd_6)) (((refine keep12 (W := w8) ?_ a0 a1 a2 a3 a4 a5 x0 x1 x2 x3 x4 x5); (focus (repeat (first | exact Below.refl _ _ | assumption | refine Below.next_ ?_ ?_ (by assumption) | refine Below.drew ?_ | refine below_drewN ?_ _ | refine Below.alloc ?_ ?_ _ | refine Below.setCell ?_ ?_ _ | omega | (simp <;> omega) | (simp at * <;> omega))))))
      (first | (go_at_call 21; with_reducible refine (toRedacted_any (RdR.below hkR ?_) hD0).mono ?_; (focus (repeat (first | exact Below.refl _ _ | assumption | refine Below.next_ ?_ ?_ (by assumption) | refine Below.drew ?_ | refine below_drewN ?_ _ | refine Below.alloc ?_ ?_ _ | refine Below.setCell ?_ ?_ _ | omega | (dsimp only; omega) | (simp <;> omega) | (simp at * <;> omega)))); rintro e w9 ⟨M_9, B_9, P_9, S_9, D_9, cm_9, cb_9, cp_9, cs_9, cd_9, rfl, hq_9, hb_9⟩; have hz_9 := hb_9.size; (try simp at hz_9)) | (go_at_call 23; with_reducible refine (eqRedacted_any (RdR.below hq_6 ?_) (RdR.below hq_9 ?_) hD0 hD0).mono ?_; (focus (repeat (first | exact Below.refl _ _ | assumption | refine Below.next_ ?_ ?_ (by assumption) | refine Below.drew ?_ | refine below_drewN ?_ _ | refine Below.alloc ?_ ?_ _ | refine Below.setCell ?_ ?_ _ | omega | (dsimp only; omega) | (simp <;> omega) | (simp at * <;> omega)))); (focus (repeat (first | exact Below.refl _ _ | assumption | refine Below.next_ ?_ ?_ (by assumption) | refine Below.drew ?_ | refine below_drewN ?_ _ | refine Below.alloc ?_ ?_ _ | refine Below.setCell ?_ ?_ _ | omega | (dsimp only; omega) | (simp <;> omega) | (simp at * <;> omega)))); rintro e w10 ⟨rfl, hb_10⟩; have hz_10 := hb_10.size; (try simp at hz_10)))
  clear a0 a1 a2 a3 a4 a5 a6 a7 a8 a9 a10 a11 x0 x1 x2 x3 x4 x5 x6 x7 x8 x9 x10 x11
  replace bkD := Blk.below bkD (w' := w10) (by repeat (first | exact Below.refl _ _ | assumption | refine Below.next_ ?_ ?_ (by assumption) | refine Below.drew ?_ | refine below_drewN ?_ _ | refine Below.alloc ?_ ?_ _ | refine Below.setCell ?_ ?_ _ | omega | (dsimp only; omega) | (simp <;> omega) | (simp at * <;> omega)))
  replace bky := Blk.below bky (w' := w10) (by repeat (first | exact Below.refl _ _ | assumption | refine Below.next_ ?_ ?_ (by assumption) | refine Below.drew ?_ | refine below_drewN ?_ _ | refine Below.alloc ?_ ?_ _ | refine Below.setCell ?_ ?_ _ | omega | (dsimp only; omega) | (simp <;> omega) | (simp at * <;> omega)))
  obtain ⟨⟨b0, b1, b2⟩, b3, b4, b5⟩ := bkD.three
  obtain ⟨⟨y0, y1, y2⟩, y3, y4, y5⟩ := bky.three
  go_wp2_with fail
  go_region_held3 (fun w' => w'.cell? ⟨w.heap.size + 1, 0, none⟩ = some (.int .i64 t1) ∧ w'.cell? ⟨w.heap.size + 1, 1, none⟩ = some (.slice P1 n1 c1) ∧ w'.cell? ⟨w.heap.size + 1, 2, none⟩ = some (.slice S1 m1 d1) ∧ w'.cell? ⟨w7.heap.size, 0, none⟩ = some (.int .i64 t1) ∧ w'.cell? ⟨w7.heap.size, 1, none⟩ = some (.slice Q_7 n1 c_7) ∧ w'.cell? ⟨w7.heap.size, 2, none⟩ = some (.slice Z_7 m1 d_7)) (((refine keep6 (W := w10) ?_ b0 b1 b2 y0 y1 y2); (focus (repeat (first | exact Below.refl _ _ | assumption | refine Below.next_ ?_ ?_ (by assumption) | refine Below.drew ?_ | refine below_drewN ?_ _ | refine Below.alloc ?_ ?_ _ | refine Below.setCell ?_ ?_ _ | omega | (simp <;> omega) | (simp at * <;> omega))))))
      (first | (go_at_call 22; with_reducible refine (toDocument_any (hP1.below ?_) (hS1.below ?_) ?_ ?_).mono ?_; (focus (repeat (first | exact Below.refl _ _ | assumption | refine Below.next_ ?_ ?_ (by assumption) | refine Below.drew ?_ | refine below_drewN ?_ _ | refine Below.alloc ?_ ?_ _ | refine Below.setCell ?_ ?_ _ | omega | (dsimp only; omega) | (simp <;> omega) | (simp at * <;> omega)))); (focus (repeat (first | exact Below.refl _ _ | assumption | refine Below.next_ ?_ ?_ (by assumption) | refine Below.drew ?_ | refine below_drewN ?_ _ | refine Below.alloc ?_ ?_ _ | refine Below.setCell ?_ ?_ _ | omega | (dsimp only; omega) | (simp <;> omega) | (simp at * <;> omega)))); (focus (omega)); (focus (omega)); rintro e w11 ⟨Q_11, Z_11, c_11, d_11, rfl, hp_11, hs_11, hx_11, hb_11⟩; have hz_11 := hb_11.size; (try simp at hz_11)) | (go_at_call 24; with_reducible refine (eqDocument_any ((Rd.of_own hp_7).below ?_) ((Rd.of_own hs_7).below ?_) ((Rd.of_own hp_11).below ?_) ((Rd.of_own hs_11).below ?_) ?_ ?_ ?_ ?_).mono ?_; (focus (repeat (first | exact Below.refl _ _ | assumption | refine Below.next_ ?_ ?_ (by assumption) | refine Below.drew ?_ | refine below_drewN ?_ _ | refine Below.alloc ?_ ?_ _ | refine Below.setCell ?_ ?_ _ | omega | (dsimp only; omega) | (simp <;> omega) | (simp at * <;> omega)))); (focus (repeat (first | exact Below.refl _ _ | assumption | refine Below.next_ ?_ ?_ (by assumption) | refine Below.drew ?_ | refine below_drewN ?_ _ | refine Below.alloc ?_ ?_ _ | refine Below.setCell ?_ ?_ _ | omega | (dsimp only; omega) | (simp <;> omega) | (simp at * <;> omega)))); (focus (repeat (first | exact Below.refl _ _ | assumption | refine Below.next_ ?_ ?_ (by assumption) | refine Below.drew ?_ | refine below_drewN ?_ _ | refine Below.alloc ?_ ?_ _ | refine Below.setCell ?_ ?_ _ | omega | (dsimp only; omega) | (simp <;> omega) | (simp at * <;> omega)))); (focus (repeat (first | exact Below.refl _ _ | assumption | refine Below.next_ ?_ ?_ (by assumption) | refine Below.drew ?_ | refine below_drewN ?_ _ | refine Below.alloc ?_ ?_ _ | refine Below.setCell ?_ ?_ _ | omega | (dsimp only; omega) | (simp <;> omega) | (simp at * <;> omega)))); (focus (omega)); (focus (omega)); (focus (omega)); (focus (omega)); rintro e w12 ⟨rfl, hb_12⟩; have hz_12 := hb_12.size; (try simp at hz_12)))
  go_wp2_with fail
  go_ret
  exact ⟨rfl, by repeat (first | exact Below.refl _ _ | assumption | refine Below.next_ ?_ ?_ (by assumption) | refine Below.drew ?_ | refine below_drewN ?_ _ | refine Below.alloc ?_ ?_ _ | refine Below.setCell ?_ ?_ _ | omega | (dsimp only; omega) | (simp <;> omega) | (simp at * <;> omega))⟩
theorem lifted (os : Os) (started : os.Started) (H : Type) (enc : TypeId × Value → H) :
    ReturnsInHanded {} Try.checked os 4 .any (Rows.fnExactIsRedactionOfSpec.pre6 enc Try.prog Try.f4 Rows.fnExactIsRedactionOfRow.domain false) (Rows.fnExactIsRedactionOfSpec.post enc Try.prog Try.f4 false true false false) := by
  refine returnsInHanded_of_change (C := Try.checked) own started (by kernel_rfl) Try.func4
    (ChangeSpec.witness6 (enc := enc) (C := Try.checked) false ⟨#[], #[.agg #[.int .i64 0, .slice none 0 0, .slice none 0 0, .slice none 0 0, .slice none 0 0, .slice none 0 0], .agg #[.int .i64 0, .slice none 0 0, .slice none 0 0]], []⟩ 8 (by kernel_rfl) (by kernel_rfl) (by kernel_rfl) (by kernel_rfl)) ?_
  intro W base args ds gs before hval0 hW _ _
  have hval : ∀ (j : Nat) t v, Try.f4.params[j]? = some t → args[j]? = some v → Value.okWide Try.prog W .any base t v := hval0
  have hW' := hW
  obtain ⟨p, q, hA0, hV, rfl, _, _⟩ := hW
  have hA : DataW.TrodAll enc Try.prog W 0 (fun _ => true) true Try.f4.params.toList args.toList ds p := hA0
  have hlt : ∀ x ∈ p, x.block < W.heap.size := fun x hx => hW'.lt x (by simp [hx])
  have hkeep : ∀ W' : World, Below W.heap.size W W' → ∀ sp : Nat → Bool, (∀ x ∈ p ++ q, sp x.block = true) → DataW.TrodAll enc Try.prog W' 0 sp true Try.f4.params.toList args.toList ds p :=
    fun W' hb sp hsp => trodAll_stays laid hb _ _ _ _ (by kernel_rfl) hlt (fun x hx => hsp x (by simp [hx])) hA
  rw [Try.params4] at hA hval
  obtain ⟨v0, vs0, d0, ds0, p0, q0, hargs, rfl, rfl, h0, r0⟩ := trodAll_cons hA
  obtain ⟨v1, vs1, d1, ds1, p1, q1, rfl, rfl, rfl, h1, r1⟩ := trodAll_cons r0
  obtain ⟨rfl, rfl, rfl⟩ := trodAll_nil r1
  obtain rfl : args = #[v0, v1] := by cases args; simp_all
  obtain ⟨rfl, rfl⟩ := trodVars_none hV
  have i0 : InRed W v0 := InRed.of (hval 0 45 v0 rfl rfl) h0
  have i1 : InDoc W v1 := InDoc.of (hval 1 46 v1 rfl rfl) h1
  refine (law_any i0 i1 W rfl).mono fun e W' ⟨he, hb⟩ => ?_
  subst he
  exact ⟨_, rfl, post_of_below (pv := []) hW' (fun _ _ _ => (trodAll_cons_mk (shut_bool Try.underlying4 _) trodAll_mk0)) (hkeep W' hb) (fun _ _ => rfl) rfl
    hb (ok_one (by kernel_rfl) rfl (okWide_bool_mk Try.underlying4 _))⟩

theorem over : Rows.fnExactIsRedactionOfRow.holds Try.pinned (OpenSpec.ofChange Rows.fnExactIsRedactionOfSpec) :=
  OpenClaim.holds_of_wide 4 Try.f4 rfl rfl rfl rfl rfl rfl rfl ⟨rfl, rfl, rfl, rfl, rfl⟩ rfl rfl rfl rfl rfl (by kernel_rfl) Try.func4 (by kernel_rfl)
    (of_decide_eq_true (by kernel_rfl)) (by unfold Func.isWrapper; first | (rw [if_pos (by decide +kernel)]; kernel_rfl) | (rw [if_neg (by decide +kernel)]; exact ⟨rfl, rfl⟩))
    (fun os started H enc _ => lifted os started H enc)

theorem proved : Rows.FnExactIsRedactionOfSaid :=
  over
#print axioms proved
end Go.Proofs.Ythjdigiaajdnbaa.lawFnExactIsRedactionOf
