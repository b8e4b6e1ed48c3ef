/- The contract of l7Equal. For rows of at most 2^40 elements, those of the first argument of one length. -/
import Derived.Test.YthjdigiaajdnbaaRed
import Derived.Test.YthjdigiaajdnbaaEqI
import Derived.Test.YthjdigiaajdnbaaDocE
import Derived.BigQuiet
namespace Go.Proofs.Ythjdigiaajdnbaa
open Go.RowKit Go.WideShapes Go.ChangeShapes Go.Deep
set_option linter.unusedSimpArgs false
set_option linter.unusedVariables false
set_option maxRecDepth 1000000
theorem tk3 {bs bs2 : List Bool} {ps ps2 : List ByteArray} {ds ds2 : List (List Int)} {k : Nat} {b : Bool} {p : ByteArray} {d : List Int} (h : bs.take k = bs2.take k ∧ ps.take k = ps2.take k ∧ ds.take k = ds2.take k) (h1 : bs[k]? = some b) (h2 : bs2[k]? = some b) (h3 : ps[k]? = some p) (h4 : ps2[k]? = some p) (h5 : ds[k]? = some d) (h6 : ds2[k]? = some d) :
    bs.take (k + 1) = bs2.take (k + 1) ∧ ps.take (k + 1) = ps2.take (k + 1) ∧ ds.take (k + 1) = ds2.take (k + 1) := ⟨take_step h1 h2 h.1, take_step h3 h4 h.2.1, take_step h5 h6 h.2.2⟩
set_option maxHeartbeats 8000000 in
theorem l7Equal_any {t : Int} {M B P S D : Option Addr} {nm nb np ns nd cm cb cp cs cd : Nat} {ms : List Int} {bs : List Bool} {ps : List ByteArray} {ss : List Int} {ds : List (List Int)} {t2 : Int} {M2 B2 P2 S2 D2 : Option Addr} {nm2 nb2 np2 ns2 nd2 cm2 cb2 cp2 cs2 cd2 : Nat} {ms2 : List Int} {bs2 : List Bool} {ps2 : List ByteArray} {ss2 : List Int} {ds2 : List (List Int)} {w : World} (h : RdR w M B P S D nm nb np ns nd ms bs ps ss ds) (h2_ : RdR w M2 B2 P2 S2 D2 nm2 nb2 np2 ns2 nd2 ms2 bs2 ps2 ss2 ds2) (hB : BdR 1099511627776 nm nb np ns nd ds) (hB2 : BdR 1099511627776 nm2 nb2 np2 ns2 nd2 ds2) (hl1 : np = nb) (hl2 : nd = nb) :
    Calls Try.prog 49 #[reV t M B P S D nm nb np ns nd cm cb cp cs cd, reV t2 M2 B2 P2 S2 D2 nm2 nb2 np2 ns2 nd2 cm2 cb2 cp2 cs2 cd2] w fun e w' => e = .returned (.bool (decide (RedD.mk t ms bs ps ss ds = RedD.mk t2 ms2 bs2 ps2 ss2 ds2))) ∧ Below w.heap.size w w' := by
  subst hl1 hl2
  obtain ⟨W1, hW_W1⟩ : ∃ W1, (w.alloc (.cells #[.int .i64 t, .slice M nm cm, .slice B nd cb, .slice P nd cp, .slice S ns cs, .slice D nd cd] 33)).alloc (.cells #[.int .i64 t2, .slice M2 nm2 cm2, .slice B2 nb2 cb2, .slice P2 np2 cp2, .slice S2 ns2 cs2, .slice D2 nd2 cd2] 33) = W1 := ⟨_, rfl⟩
  have hc_W10 : W1.cell? ⟨w.heap.size, 0, none⟩ = some (.int .i64 t) := by rw [← hW_W1]; simp
  have hc_W11 : W1.cell? ⟨w.heap.size, 1, none⟩ = some (.slice M nm cm) := by rw [← hW_W1]; simp
  have hc_W12 : W1.cell? ⟨w.heap.size, 2, none⟩ = some (.slice B nd cb) := by rw [← hW_W1]; simp
  have hc_W13 : W1.cell? ⟨w.heap.size, 3, none⟩ = some (.slice P nd cp) := by rw [← hW_W1]; simp
  have hc_W14 : W1.cell? ⟨w.heap.size, 4, none⟩ = some (.slice S ns cs) := by rw [← hW_W1]; simp
  have hc_W15 : W1.cell? ⟨w.heap.size, 5, none⟩ = some (.slice D nd cd) := by rw [← hW_W1]; simp
  have hc_W16 : W1.cell? ⟨w.heap.size + 1, 0, none⟩ = some (.int .i64 t2) := by rw [← hW_W1]; simp
  have hc_W17 : W1.cell? ⟨w.heap.size + 1, 1, none⟩ = some (.slice M2 nm2 cm2) := by rw [← hW_W1]; simp
  have hc_W18 : W1.cell? ⟨w.heap.size + 1, 2, none⟩ = some (.slice B2 nb2 cb2) := by rw [← hW_W1]; simp
  have hc_W19 : W1.cell? ⟨w.heap.size + 1, 3, none⟩ = some (.slice P2 np2 cp2) := by rw [← hW_W1]; simp
  have hc_W110 : W1.cell? ⟨w.heap.size + 1, 4, none⟩ = some (.slice S2 ns2 cs2) := by rw [← hW_W1]; simp
  have hc_W111 : W1.cell? ⟨w.heap.size + 1, 5, none⟩ = some (.slice D2 nd2 cd2) := by rw [← hW_W1]; simp
  have hs_W1 : w.heap.size < W1.heap.size := by rw [← hW_W1]; simp
  have hb_W1 : Below w.heap.size w W1 := by rw [← hW_W1]; repeat (first | exact Below.refl _ _ | assumption | refine Below.next_ ?_ ?_ (by assumption) | refine Below.drew ?_ | refine below_drewN ?_ _ | refine Below.alloc ?_ ?_ _ | refine Below.setCell ?_ ?_ _ | omega | (simp <;> omega) | (simp at * <;> omega))
  have HW_W1 := hide hW_W1
  clear hW_W1
  have kk := RdR.below h hb_W1
  have kk2 := RdR.below h2_ hb_W1
  have hb0 := hB.m
  have hb1 := hB.b
  have hb3 := hB.s
  have hc0 := hB2.m
  have hc3 := hB2.s
  have HBL := hide hB.l
  have HBL2 := hide hB2.l
  have HLb := hide kk.b.maplen
  have HLp := hide kk.p.maplen
  have HLd := hide kk.d.len
  have HLb2 := hide kk2.b.maplen
  have HLp2 := hide kk2.p.maplen
  have HLd2 := hide kk2.d.len
  by_cases ht : t = t2
  rotate_left
  · have ht' : (t == t2) = false := by simpa using ht
    have ht2 : (t != t2) = true := by simpa using ht
    have hfin := hide (show decide (RedD.mk t ms bs ps ss ds = RedD.mk t2 ms2 bs2 ps2 ss2 ds2) = false by simp [ht])
    clear ht
    go_enter Try.func49, Try.ntmps49
    go_wp2_with (first | (rw [HW_W1.out]))
    go_ret
    exact ⟨ret_b hfin.out.symm, by repeat (first | exact Below.refl _ _ | assumption | refine Below.next_ ?_ ?_ (by assumption) | refine Below.drew ?_ | refine below_drewN ?_ _ | refine Below.alloc ?_ ?_ _ | refine Below.setCell ?_ ?_ _ | omega | (dsimp only; omega) | (simp <;> omega) | (simp at * <;> omega))⟩
  subst ht
  by_cases e1 : ms = ms2
  rotate_left
  · have HTm := hide (show ∀ V : World, Below W1.heap.size W1 V → Calls Try.prog 71 #[.slice M nm cm, .slice M2 nm2 cm2] V fun e w' => e = .returned (.bool false) ∧ ∃ q, w' = V.drewN q from fun V hV => by
      have T := specEqualInts_any (c := cm) (d := cm2) (kk.m.below hV) (kk2.m.below hV) (by omega) (by omega)
      rwa [decide_eq_false e1] at T)
    have hfin := hide (show decide (RedD.mk t ms bs ps ss ds = RedD.mk t ms2 bs2 ps2 ss2 ds2) = false by simp [e1])
    clear e1
    go_enter Try.func49, Try.ntmps49
    go_wp2_with (first | (rw [HW_W1.out]) | (go_at_call 71; with_reducible refine (HTm.out _ ?_).mono ?_; (focus (repeat (first | exact Below.refl _ _ | assumption | refine Below.next_ ?_ ?_ (by assumption) | refine Below.drew ?_ | refine below_drewN ?_ _ | refine Below.alloc ?_ ?_ _ | refine Below.setCell ?_ ?_ _ | omega | (dsimp only; omega) | (simp <;> omega) | (simp at * <;> omega)))); rintro e _ ⟨rfl, qm, rfl⟩))
    go_ret
    exact ⟨ret_b hfin.out.symm, by repeat (first | exact Below.refl _ _ | assumption | refine Below.next_ ?_ ?_ (by assumption) | refine Below.drew ?_ | refine below_drewN ?_ _ | refine Below.alloc ?_ ?_ _ | refine Below.setCell ?_ ?_ _ | omega | (dsimp only; omega) | (simp <;> omega) | (simp at * <;> omega))⟩
  have HTm := hide (show ∀ V : World, Below W1.heap.size W1 V → Calls Try.prog 71 #[.slice M nm cm, .slice M2 nm2 cm2] V fun e w' => e = .returned (.bool true) ∧ ∃ q, w' = V.drewN q from fun V hV => by
      have T := specEqualInts_any (c := cm) (d := cm2) (kk.m.below hV) (kk2.m.below hV) (by omega) (by omega)
      rwa [decide_eq_true e1] at T)
  by_cases e2 : ss = ss2
  rotate_left
  · have HTs := hide (show ∀ V : World, Below W1.heap.size W1 V → Calls Try.prog 71 #[.slice S ns cs, .slice S2 ns2 cs2] V fun e w' => e = .returned (.bool false) ∧ ∃ q, w' = V.drewN q from fun V hV => by
      have T := specEqualInts_any (c := cs) (d := cs2) (kk.s.below hV) (kk2.s.below hV) (by omega) (by omega)
      rwa [decide_eq_false e2] at T)
    have hfin := hide (show decide (RedD.mk t ms bs ps ss ds = RedD.mk t ms2 bs2 ps2 ss2 ds2) = false by simp [e2])
    clear e1 e2
    go_enter Try.func49, Try.ntmps49
    go_wp2_with (first | (rw [HW_W1.out]) | (go_at_call 71; with_reducible refine (HTm.out _ ?_).mono ?_; (focus (repeat (first | exact Below.refl _ _ | assumption | refine Below.next_ ?_ ?_ (by assumption) | refine Below.drew ?_ | refine below_drewN ?_ _ | refine Below.alloc ?_ ?_ _ | refine Below.setCell ?_ ?_ _ | omega | (dsimp only; omega) | (simp <;> omega) | (simp at * <;> omega)))); rintro e _ ⟨rfl, qm, rfl⟩) | (go_at_call 71; with_reducible refine (HTs.out _ ?_).mono ?_; (focus (repeat (first | exact Below.refl _ _ | assumption | refine Below.next_ ?_ ?_ (by assumption) | refine Below.drew ?_ | refine below_drewN ?_ _ | refine Below.alloc ?_ ?_ _ | refine Below.setCell ?_ ?_ _ | omega | (dsimp only; omega) | (simp <;> omega) | (simp at * <;> omega)))); rintro e _ ⟨rfl, qs, rfl⟩))
    go_ret
    exact ⟨ret_b hfin.out.symm, by repeat (first | exact Below.refl _ _ | assumption | refine Below.next_ ?_ ?_ (by assumption) | refine Below.drew ?_ | refine below_drewN ?_ _ | refine Below.alloc ?_ ?_ _ | refine Below.setCell ?_ ?_ _ | omega | (dsimp only; omega) | (simp <;> omega) | (simp at * <;> omega))⟩
  have HTs := hide (show ∀ V : World, Below W1.heap.size W1 V → Calls Try.prog 71 #[.slice S ns cs, .slice S2 ns2 cs2] V fun e w' => e = .returned (.bool true) ∧ ∃ q, w' = V.drewN q from fun V hV => by
      have T := specEqualInts_any (c := cs) (d := cs2) (kk.s.below hV) (kk2.s.below hV) (by omega) (by omega)
      rwa [decide_eq_true e2] at T)
  have E1 := hide e1
  have E2 := hide e2
  clear e1 e2
  by_cases e3 : nd = nb2
  rotate_left
  · have q1 : ((nd : Int) == (nb2 : Int)) = false := by simpa using (by omega : ¬ (nd : Int) = nb2)
    have q2 : ((nd : Int) != (nb2 : Int)) = true := by simpa using (by omega : ¬ (nd : Int) = nb2)
    have hfin := hide (show decide (RedD.mk t ms bs ps ss ds = RedD.mk t ms2 bs2 ps2 ss2 ds2) = false by have h1 := HLb.out; have h2 := HLb2.out; simp only [decide_eq_false_iff_not, RedD.mk.injEq]; rintro ⟨_, _, rfl, _⟩; omega)
    clear e3
    go_enter Try.func49, Try.ntmps49
    go_wp2_with (first | (rw [HW_W1.out]) | (go_at_call 71; with_reducible refine (HTm.out _ ?_).mono ?_; (focus (repeat (first | exact Below.refl _ _ | assumption | refine Below.next_ ?_ ?_ (by assumption) | refine Below.drew ?_ | refine below_drewN ?_ _ | refine Below.alloc ?_ ?_ _ | refine Below.setCell ?_ ?_ _ | omega | (dsimp only; omega) | (simp <;> omega) | (simp at * <;> omega)))); rintro e _ ⟨rfl, qm, rfl⟩) | (go_at_call 71; with_reducible refine (HTs.out _ ?_).mono ?_; (focus (repeat (first | exact Below.refl _ _ | assumption | refine Below.next_ ?_ ?_ (by assumption) | refine Below.drew ?_ | refine below_drewN ?_ _ | refine Below.alloc ?_ ?_ _ | refine Below.setCell ?_ ?_ _ | omega | (dsimp only; omega) | (simp <;> omega) | (simp at * <;> omega)))); rintro e _ ⟨rfl, qs, rfl⟩))
    go_ret
    exact ⟨ret_b hfin.out.symm, by repeat (first | exact Below.refl _ _ | assumption | refine Below.next_ ?_ ?_ (by assumption) | refine Below.drew ?_ | refine below_drewN ?_ _ | refine Below.alloc ?_ ?_ _ | refine Below.setCell ?_ ?_ _ | omega | (dsimp only; omega) | (simp <;> omega) | (simp at * <;> omega))⟩
  subst e3
  by_cases e4 : nd = np2
  rotate_left
  · have q1 : ((nd : Int) == (np2 : Int)) = false := by simpa using (by omega : ¬ (nd : Int) = np2)
    have q2 : ((nd : Int) != (np2 : Int)) = true := by simpa using (by omega : ¬ (nd : Int) = np2)
    have hfin := hide (show decide (RedD.mk t ms bs ps ss ds = RedD.mk t ms2 bs2 ps2 ss2 ds2) = false by have h1 := HLp.out; have h2 := HLp2.out; simp only [decide_eq_false_iff_not, RedD.mk.injEq]; rintro ⟨_, _, _, rfl, _⟩; omega)
    clear e4
    go_enter Try.func49, Try.ntmps49
    go_wp2_with (first | (rw [HW_W1.out]) | (go_at_call 71; with_reducible refine (HTm.out _ ?_).mono ?_; (focus (repeat (first | exact Below.refl _ _ | assumption | refine Below.next_ ?_ ?_ (by assumption) | refine Below.drew ?_ | refine below_drewN ?_ _ | refine Below.alloc ?_ ?_ _ | refine Below.setCell ?_ ?_ _ | omega | (dsimp only; omega) | (simp <;> omega) | (simp at * <;> omega)))); rintro e _ ⟨rfl, qm, rfl⟩) | (go_at_call 71; with_reducible refine (HTs.out _ ?_).mono ?_; (focus (repeat (first | exact Below.refl _ _ | assumption | refine Below.next_ ?_ ?_ (by assumption) | refine Below.drew ?_ | refine below_drewN ?_ _ | refine Below.alloc ?_ ?_ _ | refine Below.setCell ?_ ?_ _ | omega | (dsimp only; omega) | (simp <;> omega) | (simp at * <;> omega)))); rintro e _ ⟨rfl, qs, rfl⟩))
    go_ret
    exact ⟨ret_b hfin.out.symm, by repeat (first | exact Below.refl _ _ | assumption | refine Below.next_ ?_ ?_ (by assumption) | refine Below.drew ?_ | refine below_drewN ?_ _ | refine Below.alloc ?_ ?_ _ | refine Below.setCell ?_ ?_ _ | omega | (dsimp only; omega) | (simp <;> omega) | (simp at * <;> omega))⟩
  subst e4
  by_cases e5 : nd = nd2
  rotate_left
  · have q1 : ((nd : Int) == (nd2 : Int)) = false := by simpa using (by omega : ¬ (nd : Int) = nd2)
    have q2 : ((nd : Int) != (nd2 : Int)) = true := by simpa using (by omega : ¬ (nd : Int) = nd2)
    have hfin := hide (show decide (RedD.mk t ms bs ps ss ds = RedD.mk t ms2 bs2 ps2 ss2 ds2) = false by have h1 := HLd.out; have h2 := HLd2.out; simp only [decide_eq_false_iff_not, RedD.mk.injEq]; rintro ⟨_, _, _, _, _, rfl⟩; omega)
    clear e5
    go_enter Try.func49, Try.ntmps49
    go_wp2_with (first | (rw [HW_W1.out]) | (go_at_call 71; with_reducible refine (HTm.out _ ?_).mono ?_; (focus (repeat (first | exact Below.refl _ _ | assumption | refine Below.next_ ?_ ?_ (by assumption) | refine Below.drew ?_ | refine below_drewN ?_ _ | refine Below.alloc ?_ ?_ _ | refine Below.setCell ?_ ?_ _ | omega | (dsimp only; omega) | (simp <;> omega) | (simp at * <;> omega)))); rintro e _ ⟨rfl, qm, rfl⟩) | (go_at_call 71; with_reducible refine (HTs.out _ ?_).mono ?_; (focus (repeat (first | exact Below.refl _ _ | assumption | refine Below.next_ ?_ ?_ (by assumption) | refine Below.drew ?_ | refine below_drewN ?_ _ | refine Below.alloc ?_ ?_ _ | refine Below.setCell ?_ ?_ _ | omega | (dsimp only; omega) | (simp <;> omega) | (simp at * <;> omega)))); rintro e _ ⟨rfl, qs, rfl⟩))
    go_ret
    exact ⟨ret_b hfin.out.symm, by repeat (first | exact Below.refl _ _ | assumption | refine Below.next_ ?_ ?_ (by assumption) | refine Below.drew ?_ | refine below_drewN ?_ _ | refine Below.alloc ?_ ?_ _ | refine Below.setCell ?_ ?_ _ | omega | (dsimp only; omega) | (simp <;> omega) | (simp at * <;> omega))⟩
  subst e5
  go_enter Try.func49, Try.ntmps49
  go_wp2_with (first | (rw [HW_W1.out]) | (go_at_call 71; with_reducible refine (HTm.out _ ?_).mono ?_; (focus (repeat (first | exact Below.refl _ _ | assumption | refine Below.next_ ?_ ?_ (by assumption) | refine Below.drew ?_ | refine below_drewN ?_ _ | refine Below.alloc ?_ ?_ _ | refine Below.setCell ?_ ?_ _ | omega | (dsimp only; omega) | (simp <;> omega) | (simp at * <;> omega)))); rintro e _ ⟨rfl, qm, rfl⟩) | (go_at_call 71; with_reducible refine (HTs.out _ ?_).mono ?_; (focus (repeat (first | exact Below.refl _ _ | assumption | refine Below.next_ ?_ ?_ (by assumption) | refine Below.drew ?_ | refine below_drewN ?_ _ | refine Below.alloc ?_ ?_ _ | refine Below.setCell ?_ ?_ _ | omega | (dsimp only; omega) | (simp <;> omega) | (simp at * <;> omega)))); rintro e _ ⟨rfl, qs, rfl⟩))
  clear HTm HTs
  go_loopw [5] (fun i wr => ∃ k : Nat, k ≤ nd ∧ i = .int .i64 k ∧ Hid (bs.take k = bs2.take k ∧ ps.take k = ps2.take k ∧ ds.take k = ds2.take k) ∧ Below W1.heap.size W1 wr) (fun i _ => nd - (intOf i).toNat)
  case atStart => exact ⟨0, Nat.zero_le _, rfl, ⟨rfl, rfl, rfl⟩, by repeat (first | exact Below.refl _ _ | assumption | refine Below.next_ ?_ ?_ (by assumption) | refine Below.drew ?_ | refine below_drewN ?_ _ | refine Below.alloc ?_ ?_ _ | refine Below.setCell ?_ ?_ _ | omega | (dsimp only; omega) | (simp <;> omega) | (simp at * <;> omega))⟩
  case round =>
    obtain ⟨k, hk, rfl, htk, hb⟩ := hrel
    have hz := hb.size
    have hk0 : (0 : Int) ≤ (k : Int) := by omega
    obtain ⟨x0, x1, x2, x3, x4, x5⟩ := keep6 hb hc_W10 hc_W11 hc_W12 hc_W13 hc_W14 hc_W15
    obtain ⟨y0, y1, y2, y3, y4, y5⟩ := keep6 hb hc_W16 hc_W17 hc_W18 hc_W19 hc_W110 hc_W111
    by_cases hlt : k < nd
    · have hkn : (k : Int) < (nd : Int) := by omega
      obtain ⟨ab, b, rfl, hxb, hcb0⟩ := Rd.bl kk.b hlt
      obtain ⟨ap, p, rfl, hxp, hcp0⟩ := Rd.st kk.p hlt
      obtain ⟨ad, Bd, md, qd, dl, rfl, hxd, hcd0, hrd0⟩ := kk.d.at_ hlt
      obtain ⟨ab2, b2, rfl, hxb2, hcb20⟩ := Rd.bl kk2.b hlt
      obtain ⟨ap2, p2, rfl, hxp2, hcp20⟩ := Rd.st kk2.p hlt
      obtain ⟨ad2, Bd2, md2, qd2, dl2, rfl, hxd2, hcd20, hrd20⟩ := kk2.d.at_ hlt
      have hcb := keep1 hb hcb0
      have hcp := keep1 hb hcp0
      have hcd := keep1 hb hcd0
      have hcb2 := keep1 hb hcb20
      have hcp2 := keep1 hb hcp20
      have hcd2 := keep1 hb hcd20
      have hm1 : md ≤ 1099511627776 := by have := hrd0.len; have := HBL.out dl (List.mem_of_getElem? hxd); omega
      have hm2 : md2 ≤ 1099511627776 := by have := hrd20.len; have := HBL2.out dl2 (List.mem_of_getElem? hxd2); omega
      have hrd := hrd0.below hb
      have hrd2 := hrd20.below hb
      have HXb := hide hxb
      have HXp := hide hxp
      have HXd := hide hxd
      have HXb2 := hide hxb2
      have HXp2 := hide hxp2
      have HXd2 := hide hxd2
      clear hxb hxp hxd hxb2 hxp2 hxd2 hcb0 hcp0 hcd0 hcb20 hcp20 hcd20 hrd0 hrd20
      by_cases e6 : b = b2
      rotate_left
      · have q1 : (b == b2) = false := by simpa using e6
        have q2 : (b != b2) = true := by simpa using e6
        have hfin := hide (show decide (RedD.mk t ms bs ps ss ds = RedD.mk t ms2 bs2 ps2 ss2 ds2) = false by simp only [decide_eq_false_iff_not, RedD.mk.injEq]; rintro ⟨_, _, h, _⟩; exact ne_of_at HXb.out HXb2.out e6 h)
        clear e6
        go_wp2_with fail
        have ha_0 := after_cell x2
        have ha_1 := after_cell x3
        have ha_2 := after_cell x5
        have ha_3 := after_cell y2
        have ha_4 := after_cell y3
        have ha_5 := after_cell y5
        have ha_6 := after_cell hcb
        have ha_7 := after_cell hcp
        have ha_8 := after_cell hcd
        have ha_9 := after_cell hcb2
        have ha_10 := after_cell hcp2
        have ha_11 := after_cell hcd2
        have ha_12 := after_cell_f x2
        have ha_13 := after_cell_f x3
        have ha_14 := after_cell_f x5
        have ha_15 := after_cell_f y2
        have ha_16 := after_cell_f y3
        have ha_17 := after_cell_f y5
        refine wp_region_after (by kernel_rfl) (by kernel_rfl) ?_
        repeat (go_big_quiet_step (fail))
        refine wpQuiet_nil ?_
        rintro _ ⟨⟨w5, hb_w5⟩, rfl⟩
        go_wp2_with fail
        go_ret
        exact ⟨ret_b hfin.out.symm, Below.next_ hb_W1 hb_W1.size (Below.next_ hb hz hb_w5)⟩
      subst e6
      have q6 : (b != b) = false := by simp
      by_cases e7 : p = p2
      rotate_left
      · have q1 : (p.toList == p2.toList) = false := by simpa [ByteArray.toList_eq, ByteArray.ext_iff, Array.ext_iff] using e7
        have q2 : (p.toList != p2.toList) = true := by simp only [bne, q1]; rfl
        have hfin := hide (show decide (RedD.mk t ms bs ps ss ds = RedD.mk t ms2 bs2 ps2 ss2 ds2) = false by simp only [decide_eq_false_iff_not, RedD.mk.injEq]; rintro ⟨_, _, _, h, _⟩; exact ne_of_at HXp.out HXp2.out e7 h)
        clear e7
        go_wp2_with fail
        have ha_0 := after_cell x2
        have ha_1 := after_cell x3
        have ha_2 := after_cell x5
        have ha_3 := after_cell y2
        have ha_4 := after_cell y3
        have ha_5 := after_cell y5
        have ha_6 := after_cell hcb
        have ha_7 := after_cell hcp
        have ha_8 := after_cell hcd
        have ha_9 := after_cell hcb2
        have ha_10 := after_cell hcp2
        have ha_11 := after_cell hcd2
        have ha_12 := after_cell_f x2
        have ha_13 := after_cell_f x3
        have ha_14 := after_cell_f x5
        have ha_15 := after_cell_f y2
        have ha_16 := after_cell_f y3
        have ha_17 := after_cell_f y5
        refine wp_region_after (by kernel_rfl) (by kernel_rfl) ?_
        repeat (go_big_quiet_step (fail))
        refine wpQuiet_nil ?_
        rintro _ ⟨⟨w5, hb_w5⟩, rfl⟩
        go_wp2_with fail
        go_ret
        exact ⟨ret_b hfin.out.symm, Below.next_ hb_W1 hb_W1.size (Below.next_ hb hz hb_w5)⟩
      subst e7
      have q7 : (p.toList == p.toList) = true := by simp
      by_cases e8 : dl = dl2
      rotate_left
      · have HT1 := hide (show ∀ V : World, Below wr.heap.size wr V → Calls Try.prog 71 #[.slice Bd md qd, .slice Bd2 md2 qd2] V fun e w' => e = .returned (.bool false) ∧ ∃ q, w' = V.drewN q from fun V hV => by
          have T := specEqualInts_any (c := qd) (d := qd2) (hrd.below hV) (hrd2.below hV) hm1 hm2
          rwa [decide_eq_false e8] at T)
        have hfin := hide (show decide (RedD.mk t ms bs ps ss ds = RedD.mk t ms2 bs2 ps2 ss2 ds2) = false by simp only [decide_eq_false_iff_not, RedD.mk.injEq]; rintro ⟨_, _, _, _, _, h⟩; exact ne_of_at HXd.out HXd2.out e8 h)
        clear e8
        go_wp2_with fail
        have ha_0 := after_cell x2
        have ha_1 := after_cell x3
        have ha_2 := after_cell x5
        have ha_3 := after_cell y2
        have ha_4 := after_cell y3
        have ha_5 := after_cell y5
        have ha_6 := after_cell hcb
        have ha_7 := after_cell hcp
        have ha_8 := after_cell hcd
        have ha_9 := after_cell hcb2
        have ha_10 := after_cell hcp2
        have ha_11 := after_cell hcd2
        have ha_12 := after_cell_f x2
        have ha_13 := after_cell_f x3
        have ha_14 := after_cell_f x5
        have ha_15 := after_cell_f y2
        have ha_16 := after_cell_f y3
        have ha_17 := after_cell_f y5
        refine wp_region_after (by kernel_rfl) (by kernel_rfl) ?_
        repeat (go_big_quiet_step ((first | (go_at_call 71; with_reducible refine Calls.after_q (HT1.out _ (After.below _))))))
        refine wpQuiet_nil ?_
        rintro _ ⟨⟨w5, hb_w5⟩, rfl⟩
        go_wp2_with fail
        go_ret
        exact ⟨ret_b hfin.out.symm, Below.next_ hb_W1 hb_W1.size (Below.next_ hb hz hb_w5)⟩
      have HT1 := hide (show ∀ V : World, Below wr.heap.size wr V → Calls Try.prog 71 #[.slice Bd md qd, .slice Bd2 md2 qd2] V fun e w' => e = .returned (.bool true) ∧ ∃ q, w' = V.drewN q from fun V hV => by
        have T := specEqualInts_any (c := qd) (d := qd2) (hrd.below hV) (hrd2.below hV) hm1 hm2
        rwa [decide_eq_true e8] at T)
      have HST := hide (tk3 htk.out HXb.out HXb2.out HXp.out HXp2.out HXd.out (e8 ▸ HXd2.out))
      clear e8
      go_wp2_with fail
      have ha_0 := after_cell x2
      have ha_1 := after_cell x3
      have ha_2 := after_cell x5
      have ha_3 := after_cell y2
      have ha_4 := after_cell y3
      have ha_5 := after_cell y5
      have ha_6 := after_cell hcb
      have ha_7 := after_cell hcp
      have ha_8 := after_cell hcd
      have ha_9 := after_cell hcb2
      have ha_10 := after_cell hcp2
      have ha_11 := after_cell hcd2
      have ha_12 := after_cell_f x2
      have ha_13 := after_cell_f x3
      have ha_14 := after_cell_f x5
      have ha_15 := after_cell_f y2
      have ha_16 := after_cell_f y3
      have ha_17 := after_cell_f y5
      refine wp_region_after (by kernel_rfl) (by kernel_rfl) ?_
      repeat (go_big_quiet_step ((first | (go_at_call 71; with_reducible refine Calls.after_q (HT1.out _ (After.below _))))))
      refine wpQuiet_nil ?_
      rintro _ ⟨⟨w5, hb_w5⟩, rfl⟩
      go_wp2_with fail
      go_roundw
      case rel => exact ⟨k + 1, by omega, by go_num, HST, Below.next_ hb hz hb_w5⟩
      case measure => simp [intOf]; omega
    · obtain rfl : k = nd := by omega
      have hkn : ¬ (k : Int) < (k : Int) := by omega
      have F1 := hide (eq_of_takes HLb.out HLb2.out htk.out.1)
      have F2 := hide (eq_of_takes HLp.out HLp2.out htk.out.2.1)
      have F3 := hide (eq_of_takes HLd.out HLd2.out htk.out.2.2)
      go_wp2_with fail
      go_ret
      exact ⟨ret_b (by have g1 := E1.out; have g2 := E2.out; have g3 := F1.out; have g4 := F2.out; have g5 := F3.out; subst g1 g2 g3 g4 g5; simp), by repeat (first | exact Below.refl _ _ | assumption | refine Below.next_ ?_ ?_ (by assumption) | refine Below.drew ?_ | refine below_drewN ?_ _ | refine Below.alloc ?_ ?_ _ | refine Below.setCell ?_ ?_ _ | omega | (dsimp only; omega) | (simp <;> omega) | (simp at * <;> omega))⟩
end Go.Proofs.Ythjdigiaajdnbaa
