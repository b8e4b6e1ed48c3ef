/- The program's RedactedDigest returns what the reference's returns, and changes no argument. For every input. -/
import Derived.Test.YtgeffaohdoeclaaArgs
import Derived.Test.YtgeffaohdoeclaaArgR
import Derived.Test.YtgeffaohdoeclaaRedS
import Derived.Test.YtgeffaohdoeclaaRedE
import Derived.Test.YtgeffaohdoeclaaRedT
import Derived.Test.YtgeffaohdoeclaaRDgs
import Derived.Test.YtgeffaohdoeclaaRDgi
import Derived.Test.YtgeffaohdoeclaaRedK
namespace Go.Proofs.Ytgeffaohdoeclaa.lawFnExactRedactedDigest
open Go.ChangeShapes Go.WideShapes Go.ChangeAt Go.RowKit
set_option maxRecDepth 1000000
set_option linter.unusedSimpArgs false
set_option linter.unusedVariables false
theorem own : ownKnob Try.prog.godebug = none := by kernel_rfl
set_option maxHeartbeats 8000000 in
theorem law_any {v0 : Value} {v1 : Value} {W : World} (i0 : InInt W v0) (i1 : InRed W v1) (w : World) (hWw : w = W) :
    Calls Try.prog 12 #[v0, v1] w fun e w' => e = .returned (.bool true) ∧ Below w.heap.size w w' := by
  subst hWw
  obtain ⟨x0, rfl, hx0⟩ := i0
  have hx0a := hx0.1
  have hx0b := hx0.2
  obtain ⟨t1, M1, B1, P1, S1, D1, nm1, nb1, np1, ns1, nd1, cm1, cb1, cp1, cs1, cd1, ms1, bs1, ps1, ss1, ds1, rfl, ht1, hR1, hB1, hsz1, hIm1, hIs1, hId1⟩ := i1
  obtain ⟨W1, hW_W1⟩ : ∃ W1, w.alloc (.cells #[.int .i64 t1, .slice M1 nm1 cm1, .slice B1 nb1 cb1, .slice P1 np1 cp1, .slice S1 ns1 cs1, .slice D1 nd1 cd1] 56) = W1 := ⟨_, rfl⟩
  have hc_W10 : W1.cell? ⟨w.heap.size, 0, none⟩ = some (.int .i64 t1) := by rw [← hW_W1]; simp
  have hc_W11 : W1.cell? ⟨w.heap.size, 1, none⟩ = some (.slice M1 nm1 cm1) := by rw [← hW_W1]; simp
  have hc_W12 : W1.cell? ⟨w.heap.size, 2, none⟩ = some (.slice B1 nb1 cb1) := by rw [← hW_W1]; simp
  have hc_W13 : W1.cell? ⟨w.heap.size, 3, none⟩ = some (.slice P1 np1 cp1) := by rw [← hW_W1]; simp
  have hc_W14 : W1.cell? ⟨w.heap.size, 4, none⟩ = some (.slice S1 ns1 cs1) := by rw [← hW_W1]; simp
  have hc_W15 : W1.cell? ⟨w.heap.size, 5, none⟩ = some (.slice D1 nd1 cd1) := by rw [← hW_W1]; simp
  have hs_W1 : w.heap.size < W1.heap.size := by rw [← hW_W1]; simp
  have hb_W1 : Below w.heap.size w W1 := by rw [← hW_W1]; repeat (first | exact Below.refl _ _ | assumption | refine Below.next_ ?_ ?_ (by assumption) | refine Below.drew ?_ | refine below_drewN ?_ _ | refine Below.alloc ?_ ?_ _ | refine Below.setCell ?_ ?_ _ | omega | (simp <;> omega) | (simp at * <;> omega))
  have HW_W1 := hide hW_W1
  clear hW_W1
  have hkR := RdR.below hR1 hb_W1
  by_cases hgd : szR nm1 nb1 ps1 ns1 ds1 1048576 < 0
  · go_enter Try.func12, Try.ntmps12
    go_wp2_with fail
    rw [HW_W1.out]
    clear HW_W1
    refine (szRedacted_any hkR (by omega) (by omega) hB1 hsz1).mono ?_
    rintro e w2 ⟨rfl, hb2⟩
    go_wp2_with fail
    go_ret
    exact ⟨rfl, by repeat (first | exact Below.refl _ _ | assumption | refine Below.next_ ?_ ?_ (by assumption) | refine Below.drew ?_ | refine below_drewN ?_ _ | refine Below.alloc ?_ ?_ _ | refine Below.setCell ?_ ?_ _ | omega | (dsimp only; omega) | (simp <;> omega) | (simp at * <;> omega))⟩
  obtain ⟨hl1_, hl2_, hl3_, hl4_, hl5_, hl6_, hl7_, hl8_⟩ := szR_ok (left := 1048576) (by omega) (show 0 ≤ szR nm1 nb1 ps1 ns1 ds1 1048576 by omega)
  have hlp_ := hkR.p.maplen
  have hld_ := hkR.d.len
  have hC1 : BdR 1048576 nm1 nb1 np1 ns1 nd1 ds1 := ⟨by omega, by omega, by omega, by omega, by omega, fun x hx => by have := hl7_ x hx; omega⟩
  have hD1 : BdR 1099511627776 nm1 nb1 np1 ns1 nd1 ds1 := hC1.mono (by omega)
  have hpz1 : ∀ x ∈ ps1, x.size ≤ 1048576 := fun x hx => by have := hl6_ x hx; omega
  have hbb1 := hC1.b
  clear hl1_ hl2_ hl3_ hl4_ hl5_ hl6_ hl7_ hl8_ hlp_ hld_
  go_enter Try.func12, Try.ntmps12
  go_wp2_with fail
  rw [HW_W1.out]
  clear HW_W1
  refine (szRedacted_any hkR (by omega) (by omega) hB1 hsz1).mono ?_
  rintro e w1 ⟨rfl, hb_w1⟩
  have hs_w1 := hb_w1.size
  obtain ⟨hx0_, hx1_, hx2_, hx3_, hx4_, hx5_⟩ := keep6 (W := W1) (w' := w1) (by repeat (first | exact Below.refl _ _ | assumption | refine Below.next_ ?_ ?_ (by assumption) | refine Below.drew ?_ | refine below_drewN ?_ _ | refine Below.alloc ?_ ?_ _ | refine Below.setCell ?_ ?_ _ | omega | (dsimp only; omega) | (simp <;> omega) | (simp at * <;> omega))) hc_W10 hc_W11 hc_W12 hc_W13 hc_W14 hc_W15
  go_wp2_with fail
  refine (toRedacted_any (RdR.below hkR (by repeat (first | exact Below.refl _ _ | assumption | refine Below.next_ ?_ ?_ (by assumption) | refine Below.drew ?_ | refine below_drewN ?_ _ | refine Below.alloc ?_ ?_ _ | refine Below.setCell ?_ ?_ _ | omega | (dsimp only; omega) | (simp <;> omega) | (simp at * <;> omega)))) hD1).mono ?_
  rintro e w2 ⟨M_2, B_2, P_2, S_2, D_2, cm_2, cb_2, cp_2, cs_2, cd_2, rfl, hq_2, hb_w2⟩
  have hs_w2 := hb_w2.size; (try simp at hs_w2)
  obtain ⟨hx0_, hx1_, hx2_, hx3_, hx4_, hx5_⟩ := keep6 (W := W1) (w' := w2) (by repeat (first | exact Below.refl _ _ | assumption | refine Below.next_ ?_ ?_ (by assumption) | refine Below.drew ?_ | refine below_drewN ?_ _ | refine Below.alloc ?_ ?_ _ | refine Below.setCell ?_ ?_ _ | omega | (dsimp only; omega) | (simp <;> omega) | (simp at * <;> omega))) hc_W10 hc_W11 hc_W12 hc_W13 hc_W14 hc_W15
  go_wp2_with fail
  refine (specRedactedDigest_any (RdR.below hq_2 (by repeat (first | exact Below.refl _ _ | assumption | refine Below.next_ ?_ ?_ (by assumption) | refine Below.drew ?_ | refine below_drewN ?_ _ | refine Below.alloc ?_ ?_ _ | refine Below.setCell ?_ ?_ _ | omega | (dsimp only; omega) | (simp <;> omega) | (simp at * <;> omega)))) hD1 hpz1 ht1 hx0 hIs1 hId1).mono ?_
  rintro e w3 ⟨rfl, hb_w3⟩
  have hs_w3 := hb_w3.size; (try simp at hs_w3)
  obtain ⟨hx0_, hx1_, hx2_, hx3_, hx4_, hx5_⟩ := keep6 (W := W1) (w' := w3) (by repeat (first | exact Below.refl _ _ | assumption | refine Below.next_ ?_ ?_ (by assumption) | refine Below.drew ?_ | refine below_drewN ?_ _ | refine Below.alloc ?_ ?_ _ | refine Below.setCell ?_ ?_ _ | omega | (dsimp only; omega) | (simp <;> omega) | (simp at * <;> omega))) hc_W10 hc_W11 hc_W12 hc_W13 hc_W14 hc_W15
  go_wp2_with fail
  refine (toRedacted_any (RdR.below hkR (by repeat (first | exact Below.refl _ _ | assumption | refine Below.next_ ?_ ?_ (by assumption) | refine Below.drew ?_ | refine below_drewN ?_ _ | refine Below.alloc ?_ ?_ _ | refine Below.setCell ?_ ?_ _ | omega | (dsimp only; omega) | (simp <;> omega) | (simp at * <;> omega)))) hD1).mono ?_
  rintro e w4 ⟨M_4, B_4, P_4, S_4, D_4, cm_4, cb_4, cp_4, cs_4, cd_4, rfl, hq_4, hb_w4⟩
  have hs_w4 := hb_w4.size; (try simp at hs_w4)
  obtain ⟨hx0_, hx1_, hx2_, hx3_, hx4_, hx5_⟩ := keep6 (W := W1) (w' := w4) (by repeat (first | exact Below.refl _ _ | assumption | refine Below.next_ ?_ ?_ (by assumption) | refine Below.drew ?_ | refine below_drewN ?_ _ | refine Below.alloc ?_ ?_ _ | refine Below.setCell ?_ ?_ _ | omega | (dsimp only; omega) | (simp <;> omega) | (simp at * <;> omega))) hc_W10 hc_W11 hc_W12 hc_W13 hc_W14 hc_W15
  go_wp2_with fail
  refine (implRedactedDigest_any (RdR.below hq_4 (by repeat (first | exact Below.refl _ _ | assumption | refine Below.next_ ?_ ?_ (by assumption) | refine Below.drew ?_ | refine below_drewN ?_ _ | refine Below.alloc ?_ ?_ _ | refine Below.setCell ?_ ?_ _ | omega | (dsimp only; omega) | (simp <;> omega) | (simp at * <;> omega)))) hD1 hpz1 ht1 hx0 hIs1 hId1).mono ?_
  rintro e w5 ⟨rfl, hb_w5⟩
  have hs_w5 := hb_w5.size; (try simp at hs_w5)
  obtain ⟨hx0_, hx1_, hx2_, hx3_, hx4_, hx5_⟩ := keep6 (W := W1) (w' := w5) (by repeat (first | exact Below.refl _ _ | assumption | refine Below.next_ ?_ ?_ (by assumption) | refine Below.drew ?_ | refine below_drewN ?_ _ | refine Below.alloc ?_ ?_ _ | refine Below.setCell ?_ ?_ _ | omega | (dsimp only; omega) | (simp <;> omega) | (simp at * <;> omega))) hc_W10 hc_W11 hc_W12 hc_W13 hc_W14 hc_W15
  have hz0_ : w5.cell? ⟨w4.heap.size, 0, none⟩ = some (.int .i64 t1) := (hb_w5.cell (p := ⟨w4.heap.size, 0, none⟩) (by simp)).trans (by simp)
  have hz1_ : w5.cell? ⟨w4.heap.size, 1, none⟩ = some (.slice M_4 nm1 cm_4) := (hb_w5.cell (p := ⟨w4.heap.size, 1, none⟩) (by simp)).trans (by simp)
  have hz2_ : w5.cell? ⟨w4.heap.size, 2, none⟩ = some (.slice B_4 nb1 cb_4) := (hb_w5.cell (p := ⟨w4.heap.size, 2, none⟩) (by simp)).trans (by simp)
  have hz3_ : w5.cell? ⟨w4.heap.size, 3, none⟩ = some (.slice P_4 np1 cp_4) := (hb_w5.cell (p := ⟨w4.heap.size, 3, none⟩) (by simp)).trans (by simp)
  have hz4_ : w5.cell? ⟨w4.heap.size, 4, none⟩ = some (.slice S_4 ns1 cs_4) := (hb_w5.cell (p := ⟨w4.heap.size, 4, none⟩) (by simp)).trans (by simp)
  have hz5_ : w5.cell? ⟨w4.heap.size, 5, none⟩ = some (.slice D_4 nd1 cd_4) := (hb_w5.cell (p := ⟨w4.heap.size, 5, none⟩) (by simp)).trans (by simp)
  go_wp2_with fail
  go_region_held3 (fun w' => w'.cell? ⟨w.heap.size, 0, none⟩ = some (.int .i64 t1) ∧ w'.cell? ⟨w.heap.size, 1, none⟩ = some (.slice M1 nm1 cm1) ∧ w'.cell? ⟨w.heap.size, 2, none⟩ = some (.slice B1 nb1 cb1) ∧ w'.cell? ⟨w.heap.size, 3, none⟩ = some (.slice P1 np1 cp1) ∧ w'.cell? ⟨w.heap.size, 4, none⟩ = some (.slice S1 ns1 cs1) ∧ w'.cell? ⟨w.heap.size, 5, none⟩ = some (.slice D1 nd1 cd1) ∧ w'.cell? ⟨w4.heap.size, 0, none⟩ = some (.int .i64 t1) ∧ w'.cell? ⟨w4.heap.size, 1, none⟩ = some (.slice M_4 nm1 cm_4) ∧ w'.cell? ⟨w4.heap.size, 2, none⟩ = some (.slice B_4 nb1 cb_4) ∧ w'.cell? ⟨w4.heap.size, 3, none⟩ = some (.slice P_4 np1 cp_4) ∧ w'.cell? ⟨w4.heap.size, 4, none⟩ = some (.slice S_4 ns1 cs_4) ∧ w'.cell? ⟨w4.heap.size, 5, none⟩ = some (.slice D_4 nd1 cd_4)) (((refine keep12 (W := w5) ?_ hx0_ hx1_ hx2_ hx3_ hx4_ hx5_ hz0_ hz1_ hz2_ hz3_ hz4_ hz5_); (focus (repeat (first | exact Below.refl _ _ | assumption | refine Below.next_ ?_ ?_ (by assumption) | refine Below.drew ?_ | refine below_drewN ?_ _ | refine Below.alloc ?_ ?_ _ | refine Below.setCell ?_ ?_ _ | omega | (simp <;> omega) | (simp at * <;> omega))))))
      (first | (go_at_call 37; with_reducible refine (toRedacted_any (RdR.below hkR ?_) hD1).mono ?_; (focus (repeat (first | exact Below.refl _ _ | assumption | refine Below.next_ ?_ ?_ (by assumption) | refine Below.drew ?_ | refine below_drewN ?_ _ | refine Below.alloc ?_ ?_ _ | refine Below.setCell ?_ ?_ _ | omega | (dsimp only; omega) | (simp <;> omega) | (simp at * <;> omega)))); rintro e w6 ⟨M_6, B_6, P_6, S_6, D_6, cm_6, cb_6, cp_6, cs_6, cd_6, rfl, hq_6, hb_w6⟩; have hs_w6 := hb_w6.size; (try simp at hs_w6)) | (go_at_call 28; with_reducible refine (eqRedacted_any (RdR.below hq_4 ?_) (RdR.below hq_6 ?_) hD1 hD1).mono ?_; (focus (repeat (first | exact Below.refl _ _ | assumption | refine Below.next_ ?_ ?_ (by assumption) | refine Below.drew ?_ | refine below_drewN ?_ _ | refine Below.alloc ?_ ?_ _ | refine Below.setCell ?_ ?_ _ | omega | (dsimp only; omega) | (simp <;> omega) | (simp at * <;> omega)))); (focus (repeat (first | exact Below.refl _ _ | assumption | refine Below.next_ ?_ ?_ (by assumption) | refine Below.drew ?_ | refine below_drewN ?_ _ | refine Below.alloc ?_ ?_ _ | refine Below.setCell ?_ ?_ _ | omega | (dsimp only; omega) | (simp <;> omega) | (simp at * <;> omega)))); rintro e w7 ⟨rfl, hb_w7⟩; have hs_w7 := hb_w7.size; (try simp at hs_w7)))
  go_wp2_with fail
  go_ret
  exact ⟨rfl, by repeat (first | exact Below.refl _ _ | assumption | refine Below.next_ ?_ ?_ (by assumption) | refine Below.drew ?_ | refine below_drewN ?_ _ | refine Below.alloc ?_ ?_ _ | refine Below.setCell ?_ ?_ _ | omega | (simp <;> omega) | (simp at * <;> omega))⟩
theorem lifted (os : Os) (started : os.Started) (H : Type) (enc : TypeId × Value → H) :
    ReturnsInHanded {} Try.checked os 12 .any (Rows.fnExactRedactedDigestSpec.pre6 enc Try.prog Try.f12 Rows.fnExactRedactedDigestRow.domain false) (Rows.fnExactRedactedDigestSpec.post enc Try.prog Try.f12 false true false false) := by
  refine returnsInHanded_of_change (C := Try.checked) own started (by kernel_rfl) Try.func12
    (ChangeSpec.witness6 (enc := enc) (C := Try.checked) false ⟨#[], #[.int .i64 0, .agg #[.int .i64 0, .slice none 0 0, .slice none 0 0, .slice none 0 0, .slice none 0 0, .slice none 0 0]], []⟩ 8 (by kernel_rfl) (by kernel_rfl) (by kernel_rfl) (by kernel_rfl)) ?_
  intro W base args ds gs before hval0 hW _ _
  have hval : ∀ (j : Nat) t v, Try.f12.params[j]? = some t → args[j]? = some v → Value.okWide Try.prog W .any base t v := hval0
  have hW' := hW
  obtain ⟨p, q, hA0, hV, rfl, _, _⟩ := hW
  have hA : DataW.TrodAll enc Try.prog W 0 (fun _ => true) true Try.f12.params.toList args.toList ds p := hA0
  have hlt : ∀ x ∈ p, x.block < W.heap.size := fun x hx => hW'.lt x (by simp [hx])
  have hkeep : ∀ W' : World, Below W.heap.size W W' → ∀ sp : Nat → Bool, (∀ x ∈ p ++ q, sp x.block = true) → DataW.TrodAll enc Try.prog W' 0 sp true Try.f12.params.toList args.toList ds p :=
    fun W' hb sp hsp => trodAll_stays laid hb _ _ _ _ (by kernel_rfl) hlt (fun x hx => hsp x (by simp [hx])) hA
  rw [Try.params12] at hA hval
  obtain ⟨v0, vs0, d0, ds0, p0, q0, hargs, rfl, rfl, h0, r0⟩ := trodAll_cons hA
  obtain ⟨v1, vs1, d1, ds1, p1, q1, rfl, rfl, rfl, h1, r1⟩ := trodAll_cons r0
  obtain ⟨rfl, rfl, rfl⟩ := trodAll_nil r1
  obtain rfl : args = #[v0, v1] := by cases args; simp_all
  obtain ⟨rfl, rfl⟩ := trodVars_none hV
  have i0 : InInt W v0 := InInt.of (hval 0 3 v0 rfl rfl) h0
  have i1 : InRed W v1 := InRed.of (hval 1 56 v1 rfl rfl) h1
  refine (law_any i0 i1 W rfl).mono fun e W' ⟨he, hb⟩ => ?_
  subst he
  exact ⟨_, rfl, post_of_below (pv := []) hW' (fun _ _ _ => (trodAll_cons_mk (shut_bool Try.underlying4 _) trodAll_mk0)) (hkeep W' hb) (fun _ _ => rfl) rfl
    hb (ok_one (by kernel_rfl) rfl (okWide_bool_mk Try.underlying4 _))⟩

theorem over : Rows.fnExactRedactedDigestRow.holds Try.pinned (OpenSpec.ofChange Rows.fnExactRedactedDigestSpec) :=
  OpenClaim.holds_of_wide 12 Try.f12 rfl rfl rfl rfl rfl rfl rfl ⟨rfl, rfl, rfl, rfl, rfl⟩ rfl rfl rfl rfl rfl (by kernel_rfl) Try.func12 (by kernel_rfl)
    (of_decide_eq_true (by kernel_rfl)) (by unfold Func.isWrapper; first | (rw [if_pos (by decide +kernel)]; kernel_rfl) | (rw [if_neg (by decide +kernel)]; exact ⟨rfl, rfl⟩))
    (fun os started H enc _ => lifted os started H enc)

theorem proved : Rows.FnExactRedactedDigestSaid :=
  over
#print axioms proved
end Go.Proofs.Ytgeffaohdoeclaa.lawFnExactRedactedDigest
