/- Contracts of the laws' own comparison of redacted documents. For rows of at most 2^40 elements. -/
import Derived.Test.YthjdigiaajdnbaaRed
import Derived.Test.YthjdigiaajdnbaaDocE
namespace Go.Proofs.Ythjdigiaajdnbaa
open Go.RowKit Go.WideShapes Go.ChangeShapes Go.Deep
set_option linter.unusedSimpArgs false
set_option linter.unusedVariables false
set_option maxRecDepth 1000000
set_option maxHeartbeats 2000000 in
theorem eqIntSS_any {A B : Option Addr} {n m c d : Nat} {l1 l2 : List (List Int)} {w : World} (h1 : RdSS w A n l1) (h2 : RdSS w B m l2) (hn : n ≤ 1099511627776) (hm : m ≤ 1099511627776) (hb1 : ∀ x ∈ l1, x.length ≤ 1099511627776) (hb2 : ∀ x ∈ l2, x.length ≤ 1099511627776) :
    Calls Try.prog 57 #[.slice A n c, .slice B m d] w fun e w' => e = .returned (.bool (decide (l1 = l2))) ∧ Below w.heap.size w w' := by
  have e1 : l1.length = n := h1.len
  have e2 : l2.length = m := h2.len
  by_cases hnm : n = m
  · subst hnm
    have E1 := hide e1
    have E2 := hide e2
    have HB1 := hide hb1
    have HB2 := hide hb2
    clear e1 e2 hb1 hb2
    go_enter Try.func57, Try.ntmps57
    go_wp2_with fail
    go_loopw [5] (fun i wr => ∃ k : Nat, k ≤ n ∧ i = .int .i64 k ∧ Hid (l1.take k = l2.take k) ∧ Below w.heap.size w wr) (fun i _ => n - (intOf i).toNat)
    case atStart => exact ⟨0, Nat.zero_le _, rfl, rfl, Below.refl _ _⟩
    case round =>
      obtain ⟨k, hk, rfl, ht, hb⟩ := hrel
      have hz := hb.size
      have hk0 : (0 : Int) ≤ (k : Int) := by omega
      by_cases hlt : k < n
      · obtain ⟨ad, B1, m1, c1, x, rfl, hx, hcx, hrx⟩ := (h1.below hb).at_ hlt
        obtain ⟨bd, B2, m2, c2, y, rfl, hy, hcy, hry⟩ := (h2.below hb).at_ hlt
        have hkn : (k : Int) < (n : Int) := by omega
        have HX := hide hx
        have HY := hide hy
        have hm1 : m1 ≤ 4398046511104 := by have := hrx.len; have := HB1.out x (List.mem_of_getElem? hx); omega
        have hm2 : m2 ≤ 4398046511104 := by have := hry.len; have := HB2.out y (List.mem_of_getElem? hy); omega
        clear hx hy
        by_cases hxy : x = y
        · have T1 : ∀ V : World, Below wr.heap.size wr V → Calls Try.prog 54 #[.slice B1 m1 c1, .slice B2 m2 c2] V fun e w' => e = .returned (.bool true) ∧ ∃ q, w' = V.drewN q := fun V h => by
            have c := eqIntS_any (c := c1) (d := c2) (hrx.below h) (hry.below h) hm1 hm2
            rwa [decide_eq_true hxy] at c
          have hst := hide (take_step HX.out (hxy ▸ HY.out) ht)
          clear hxy
          go_wp2_with fail
          have ha_0 := after_cell hcx
          have ha_1 := after_cell hcy
          refine wp_region_after (by kernel_rfl) (by kernel_rfl) ?_
          repeat (go_big_quiet_step ((first | (go_at_call 54; refine Calls.after_q (T1 _ (After.below _))))))
          refine wpQuiet_nil ?_
          rintro _ ⟨⟨w5, hb_w5⟩, rfl⟩
          go_wp2_with fail
          go_roundw
          case rel => exact ⟨k + 1, by omega, by go_num, hst, Below.next_ hb hz hb_w5⟩
          case measure => simp [intOf]; omega
        · have T1 : ∀ V : World, Below wr.heap.size wr V → Calls Try.prog 54 #[.slice B1 m1 c1, .slice B2 m2 c2] V fun e w' => e = .returned (.bool false) ∧ ∃ q, w' = V.drewN q := fun V h => by
            have c := eqIntS_any (c := c1) (d := c2) (hrx.below h) (hry.below h) hm1 hm2
            rwa [decide_eq_false hxy] at c
          have hfin := hide (show decide (l1 = l2) = false by simpa using ne_of_at HX.out HY.out hxy)
          clear hxy
          go_wp2_with fail
          have ha_0 := after_cell hcx
          have ha_1 := after_cell hcy
          refine wp_region_after (by kernel_rfl) (by kernel_rfl) ?_
          repeat (go_big_quiet_step ((first | (go_at_call 54; refine Calls.after_q (T1 _ (After.below _))))))
          refine wpQuiet_nil ?_
          rintro _ ⟨⟨w5, hb_w5⟩, rfl⟩
          go_wp2_with fail
          go_ret
          exact ⟨ret_b hfin.out.symm, Below.next_ hb hz hb_w5⟩
      · have hfin := hide (show decide (l1 = l2) = true by
          have hkn : k = n := by omega
          subst hkn
          simpa using eq_of_takes E1.out E2.out ht.out)
        have hkn : ¬ (k : Int) < (n : Int) := by omega
        go_wp2_with fail
        go_ret
        exact ⟨ret_b hfin.out.symm, hb⟩
  · have hfin := hide (show decide (l1 = l2) = false by
      simp only [decide_eq_false_iff_not]
      rintro rfl
      omega)
    have hb : ((n : Int) == (m : Int)) = false := by simpa using (by omega : ¬ (n : Int) = m)
    clear hnm e1 e2
    go_enter Try.func57, Try.ntmps57
    go_wp2_with fail
    go_ret
    exact ⟨ret_b hfin.out.symm, Below.refl _ _⟩
set_option maxHeartbeats 4000000 in
theorem eqRedacted_any {t : Int} {M B P S D : Option Addr} {nm nb np ns nd cm cb cp cs cd : Nat} {ms : List Int} {bs : List Bool} {ps : List ByteArray} {ss : List Int} {ds : List (List Int)} {t2 : Int} {M2 B2 P2 S2 D2 : Option Addr} {nm2 nb2 np2 ns2 nd2 cm2 cb2 cp2 cs2 cd2 : Nat} {ms2 : List Int} {bs2 : List Bool} {ps2 : List ByteArray} {ss2 : List Int} {ds2 : List (List Int)} {w : World} (h : RdR w M B P S D nm nb np ns nd ms bs ps ss ds) (k : RdR w M2 B2 P2 S2 D2 nm2 nb2 np2 ns2 nd2 ms2 bs2 ps2 ss2 ds2) (hB : BdR 1099511627776 nm nb np ns nd ds) (hB2 : BdR 1099511627776 nm2 nb2 np2 ns2 nd2 ds2) :
    Calls Try.prog 23 #[reV t M B P S D nm nb np ns nd cm cb cp cs cd, reV t2 M2 B2 P2 S2 D2 nm2 nb2 np2 ns2 nd2 cm2 cb2 cp2 cs2 cd2] w fun e w' => e = .returned (.bool (decide (RedD.mk t ms bs ps ss ds = RedD.mk t2 ms2 bs2 ps2 ss2 ds2))) ∧ Below w.heap.size w w' := by
  have hb0 := hB.m
  have hb1 := hB.b
  have hb2 := hB.p
  have hb3 := hB.s
  have hb4 := hB.d
  have hc0 := hB2.m
  have hc1 := hB2.b
  have hc2 := hB2.p
  have hc3 := hB2.s
  have hc4 := hB2.d
  obtain ⟨W1, hW_W1⟩ : ∃ W1, (w.alloc (.cells #[.int .i64 t, .slice M nm cm, .slice B nb cb, .slice P np cp, .slice S ns cs, .slice D nd cd] 33)).alloc (.cells #[.int .i64 t2, .slice M2 nm2 cm2, .slice B2 nb2 cb2, .slice P2 np2 cp2, .slice S2 ns2 cs2, .slice D2 nd2 cd2] 33) = W1 := ⟨_, rfl⟩
  have hc_W10 : W1.cell? ⟨w.heap.size, 0, none⟩ = some (.int .i64 t) := by rw [← hW_W1]; simp
  have hc_W11 : W1.cell? ⟨w.heap.size, 1, none⟩ = some (.slice M nm cm) := by rw [← hW_W1]; simp
  have hc_W12 : W1.cell? ⟨w.heap.size, 2, none⟩ = some (.slice B nb cb) := by rw [← hW_W1]; simp
  have hc_W13 : W1.cell? ⟨w.heap.size, 3, none⟩ = some (.slice P np cp) := by rw [← hW_W1]; simp
  have hc_W14 : W1.cell? ⟨w.heap.size, 4, none⟩ = some (.slice S ns cs) := by rw [← hW_W1]; simp
  have hc_W15 : W1.cell? ⟨w.heap.size, 5, none⟩ = some (.slice D nd cd) := by rw [← hW_W1]; simp
  have hc_W16 : W1.cell? ⟨w.heap.size + 1, 0, none⟩ = some (.int .i64 t2) := by rw [← hW_W1]; simp
  have hc_W17 : W1.cell? ⟨w.heap.size + 1, 1, none⟩ = some (.slice M2 nm2 cm2) := by rw [← hW_W1]; simp
  have hc_W18 : W1.cell? ⟨w.heap.size + 1, 2, none⟩ = some (.slice B2 nb2 cb2) := by rw [← hW_W1]; simp
  have hc_W19 : W1.cell? ⟨w.heap.size + 1, 3, none⟩ = some (.slice P2 np2 cp2) := by rw [← hW_W1]; simp
  have hc_W110 : W1.cell? ⟨w.heap.size + 1, 4, none⟩ = some (.slice S2 ns2 cs2) := by rw [← hW_W1]; simp
  have hc_W111 : W1.cell? ⟨w.heap.size + 1, 5, none⟩ = some (.slice D2 nd2 cd2) := by rw [← hW_W1]; simp
  have hs_W1 : w.heap.size < W1.heap.size := by rw [← hW_W1]; simp
  have hb_W1 : Below w.heap.size w W1 := by rw [← hW_W1]; repeat (first | exact Below.refl _ _ | assumption | refine Below.next_ ?_ ?_ (by assumption) | refine Below.drew ?_ | refine below_drewN ?_ _ | refine Below.alloc ?_ ?_ _ | refine Below.setCell ?_ ?_ _ | omega | (simp <;> omega) | (simp at * <;> omega))
  have HW_W1 := hide hW_W1
  clear hW_W1
  have kk := RdR.below h hb_W1
  have kk2 := RdR.below k hb_W1
  by_cases ht : t = t2
  rotate_left
  · have ht' : (t == t2) = false := by simpa using ht
    have ht2 : (t != t2) = true := by simpa using ht
    have hfin := hide (show decide (RedD.mk t ms bs ps ss ds = RedD.mk t2 ms2 bs2 ps2 ss2 ds2) = false by simp [ht])
    clear ht
    go_enter Try.func23, Try.ntmps23
    go_wp2_with fail
    rw [HW_W1.out]
    clear HW_W1
    go_ret
    exact ⟨ret_b hfin.out.symm, by repeat (first | exact Below.refl _ _ | assumption | refine Below.next_ ?_ ?_ (by assumption) | refine Below.drew ?_ | refine below_drewN ?_ _ | refine Below.alloc ?_ ?_ _ | refine Below.setCell ?_ ?_ _ | omega | (dsimp only; omega) | (simp <;> omega) | (simp at * <;> omega))⟩
  subst ht
  by_cases e0 : ms = ms2
  rotate_left
  · have g0 := hide (decide_eq_false e0)
    have hfin := hide (show decide (RedD.mk t ms bs ps ss ds = RedD.mk t ms2 bs2 ps2 ss2 ds2) = false by simp [e0])
    clear e0
    go_enter Try.func23, Try.ntmps23
    go_wp2_with fail
    rw [HW_W1.out]
    clear HW_W1
    refine (eqIntS_any (kk.m.below (by repeat (first | exact Below.refl _ _ | assumption | refine Below.next_ ?_ ?_ (by assumption) | refine Below.drew ?_ | refine below_drewN ?_ _ | refine Below.alloc ?_ ?_ _ | refine Below.setCell ?_ ?_ _ | omega | (dsimp only; omega) | (simp <;> omega) | (simp at * <;> omega)))) (kk2.m.below (by repeat (first | exact Below.refl _ _ | assumption | refine Below.next_ ?_ ?_ (by assumption) | refine Below.drew ?_ | refine below_drewN ?_ _ | refine Below.alloc ?_ ?_ _ | refine Below.setCell ?_ ?_ _ | omega | (dsimp only; omega) | (simp <;> omega) | (simp at * <;> omega)))) (by omega) (by omega)).mono ?_
    rintro e _ ⟨rfl, q0, rfl⟩
    rw [g0.out]
    go_wp2_with fail
    go_ret
    exact ⟨ret_b hfin.out.symm, by repeat (first | exact Below.refl _ _ | assumption | refine Below.next_ ?_ ?_ (by assumption) | refine Below.drew ?_ | refine below_drewN ?_ _ | refine Below.alloc ?_ ?_ _ | refine Below.setCell ?_ ?_ _ | omega | (dsimp only; omega) | (simp <;> omega) | (simp at * <;> omega))⟩
  have g0 := hide (decide_eq_true e0)
  by_cases e1 : bs = bs2
  rotate_left
  · have g1 := hide (decide_eq_false e1)
    have hfin := hide (show decide (RedD.mk t ms bs ps ss ds = RedD.mk t ms2 bs2 ps2 ss2 ds2) = false by simp [e1])
    clear e1 e0
    go_enter Try.func23, Try.ntmps23
    go_wp2_with fail
    rw [HW_W1.out]
    clear HW_W1
    refine (eqIntS_any (kk.m.below (by repeat (first | exact Below.refl _ _ | assumption | refine Below.next_ ?_ ?_ (by assumption) | refine Below.drew ?_ | refine below_drewN ?_ _ | refine Below.alloc ?_ ?_ _ | refine Below.setCell ?_ ?_ _ | omega | (dsimp only; omega) | (simp <;> omega) | (simp at * <;> omega)))) (kk2.m.below (by repeat (first | exact Below.refl _ _ | assumption | refine Below.next_ ?_ ?_ (by assumption) | refine Below.drew ?_ | refine below_drewN ?_ _ | refine Below.alloc ?_ ?_ _ | refine Below.setCell ?_ ?_ _ | omega | (dsimp only; omega) | (simp <;> omega) | (simp at * <;> omega)))) (by omega) (by omega)).mono ?_
    rintro e _ ⟨rfl, q0, rfl⟩
    rw [g0.out]
    go_wp2_with fail
    refine (eqBoolS_any (kk.b.below (by repeat (first | exact Below.refl _ _ | assumption | refine Below.next_ ?_ ?_ (by assumption) | refine Below.drew ?_ | refine below_drewN ?_ _ | refine Below.alloc ?_ ?_ _ | refine Below.setCell ?_ ?_ _ | omega | (dsimp only; omega) | (simp <;> omega) | (simp at * <;> omega)))) (kk2.b.below (by repeat (first | exact Below.refl _ _ | assumption | refine Below.next_ ?_ ?_ (by assumption) | refine Below.drew ?_ | refine below_drewN ?_ _ | refine Below.alloc ?_ ?_ _ | refine Below.setCell ?_ ?_ _ | omega | (dsimp only; omega) | (simp <;> omega) | (simp at * <;> omega)))) (by omega) (by omega)).mono ?_
    rintro e _ ⟨rfl, q1, rfl⟩
    rw [g1.out]
    go_wp2_with fail
    go_ret
    exact ⟨ret_b hfin.out.symm, by repeat (first | exact Below.refl _ _ | assumption | refine Below.next_ ?_ ?_ (by assumption) | refine Below.drew ?_ | refine below_drewN ?_ _ | refine Below.alloc ?_ ?_ _ | refine Below.setCell ?_ ?_ _ | omega | (dsimp only; omega) | (simp <;> omega) | (simp at * <;> omega))⟩
  have g1 := hide (decide_eq_true e1)
  by_cases e2 : ps = ps2
  rotate_left
  · have g2 := hide (decide_eq_false e2)
    have hfin := hide (show decide (RedD.mk t ms bs ps ss ds = RedD.mk t ms2 bs2 ps2 ss2 ds2) = false by simp [e2])
    clear e2 e0 e1
    go_enter Try.func23, Try.ntmps23
    go_wp2_with fail
    rw [HW_W1.out]
    clear HW_W1
    refine (eqIntS_any (kk.m.below (by repeat (first | exact Below.refl _ _ | assumption | refine Below.next_ ?_ ?_ (by assumption) | refine Below.drew ?_ | refine below_drewN ?_ _ | refine Below.alloc ?_ ?_ _ | refine Below.setCell ?_ ?_ _ | omega | (dsimp only; omega) | (simp <;> omega) | (simp at * <;> omega)))) (kk2.m.below (by repeat (first | exact Below.refl _ _ | assumption | refine Below.next_ ?_ ?_ (by assumption) | refine Below.drew ?_ | refine below_drewN ?_ _ | refine Below.alloc ?_ ?_ _ | refine Below.setCell ?_ ?_ _ | omega | (dsimp only; omega) | (simp <;> omega) | (simp at * <;> omega)))) (by omega) (by omega)).mono ?_
    rintro e _ ⟨rfl, q0, rfl⟩
    rw [g0.out]
    go_wp2_with fail
    refine (eqBoolS_any (kk.b.below (by repeat (first | exact Below.refl _ _ | assumption | refine Below.next_ ?_ ?_ (by assumption) | refine Below.drew ?_ | refine below_drewN ?_ _ | refine Below.alloc ?_ ?_ _ | refine Below.setCell ?_ ?_ _ | omega | (dsimp only; omega) | (simp <;> omega) | (simp at * <;> omega)))) (kk2.b.below (by repeat (first | exact Below.refl _ _ | assumption | refine Below.next_ ?_ ?_ (by assumption) | refine Below.drew ?_ | refine below_drewN ?_ _ | refine Below.alloc ?_ ?_ _ | refine Below.setCell ?_ ?_ _ | omega | (dsimp only; omega) | (simp <;> omega) | (simp at * <;> omega)))) (by omega) (by omega)).mono ?_
    rintro e _ ⟨rfl, q1, rfl⟩
    rw [g1.out]
    go_wp2_with fail
    refine (eqStringS_any (kk.p.below (by repeat (first | exact Below.refl _ _ | assumption | refine Below.next_ ?_ ?_ (by assumption) | refine Below.drew ?_ | refine below_drewN ?_ _ | refine Below.alloc ?_ ?_ _ | refine Below.setCell ?_ ?_ _ | omega | (dsimp only; omega) | (simp <;> omega) | (simp at * <;> omega)))) (kk2.p.below (by repeat (first | exact Below.refl _ _ | assumption | refine Below.next_ ?_ ?_ (by assumption) | refine Below.drew ?_ | refine below_drewN ?_ _ | refine Below.alloc ?_ ?_ _ | refine Below.setCell ?_ ?_ _ | omega | (dsimp only; omega) | (simp <;> omega) | (simp at * <;> omega)))) (by omega) (by omega)).mono ?_
    rintro e _ ⟨rfl, q2, rfl⟩
    rw [g2.out]
    go_wp2_with fail
    go_ret
    exact ⟨ret_b hfin.out.symm, by repeat (first | exact Below.refl _ _ | assumption | refine Below.next_ ?_ ?_ (by assumption) | refine Below.drew ?_ | refine below_drewN ?_ _ | refine Below.alloc ?_ ?_ _ | refine Below.setCell ?_ ?_ _ | omega | (dsimp only; omega) | (simp <;> omega) | (simp at * <;> omega))⟩
  have g2 := hide (decide_eq_true e2)
  by_cases e3 : ss = ss2
  rotate_left
  · have g3 := hide (decide_eq_false e3)
    have hfin := hide (show decide (RedD.mk t ms bs ps ss ds = RedD.mk t ms2 bs2 ps2 ss2 ds2) = false by simp [e3])
    clear e3 e0 e1 e2
    go_enter Try.func23, Try.ntmps23
    go_wp2_with fail
    rw [HW_W1.out]
    clear HW_W1
    refine (eqIntS_any (kk.m.below (by repeat (first | exact Below.refl _ _ | assumption | refine Below.next_ ?_ ?_ (by assumption) | refine Below.drew ?_ | refine below_drewN ?_ _ | refine Below.alloc ?_ ?_ _ | refine Below.setCell ?_ ?_ _ | omega | (dsimp only; omega) | (simp <;> omega) | (simp at * <;> omega)))) (kk2.m.below (by repeat (first | exact Below.refl _ _ | assumption | refine Below.next_ ?_ ?_ (by assumption) | refine Below.drew ?_ | refine below_drewN ?_ _ | refine Below.alloc ?_ ?_ _ | refine Below.setCell ?_ ?_ _ | omega | (dsimp only; omega) | (simp <;> omega) | (simp at * <;> omega)))) (by omega) (by omega)).mono ?_
    rintro e _ ⟨rfl, q0, rfl⟩
    rw [g0.out]
    go_wp2_with fail
    refine (eqBoolS_any (kk.b.below (by repeat (first | exact Below.refl _ _ | assumption | refine Below.next_ ?_ ?_ (by assumption) | refine Below.drew ?_ | refine below_drewN ?_ _ | refine Below.alloc ?_ ?_ _ | refine Below.setCell ?_ ?_ _ | omega | (dsimp only; omega) | (simp <;> omega) | (simp at * <;> omega)))) (kk2.b.below (by repeat (first | exact Below.refl _ _ | assumption | refine Below.next_ ?_ ?_ (by assumption) | refine Below.drew ?_ | refine below_drewN ?_ _ | refine Below.alloc ?_ ?_ _ | refine Below.setCell ?_ ?_ _ | omega | (dsimp only; omega) | (simp <;> omega) | (simp at * <;> omega)))) (by omega) (by omega)).mono ?_
    rintro e _ ⟨rfl, q1, rfl⟩
    rw [g1.out]
    go_wp2_with fail
    refine (eqStringS_any (kk.p.below (by repeat (first | exact Below.refl _ _ | assumption | refine Below.next_ ?_ ?_ (by assumption) | refine Below.drew ?_ | refine below_drewN ?_ _ | refine Below.alloc ?_ ?_ _ | refine Below.setCell ?_ ?_ _ | omega | (dsimp only; omega) | (simp <;> omega) | (simp at * <;> omega)))) (kk2.p.below (by repeat (first | exact Below.refl _ _ | assumption | refine Below.next_ ?_ ?_ (by assumption) | refine Below.drew ?_ | refine below_drewN ?_ _ | refine Below.alloc ?_ ?_ _ | refine Below.setCell ?_ ?_ _ | omega | (dsimp only; omega) | (simp <;> omega) | (simp at * <;> omega)))) (by omega) (by omega)).mono ?_
    rintro e _ ⟨rfl, q2, rfl⟩
    rw [g2.out]
    go_wp2_with fail
    refine (eqIntS_any (kk.s.below (by repeat (first | exact Below.refl _ _ | assumption | refine Below.next_ ?_ ?_ (by assumption) | refine Below.drew ?_ | refine below_drewN ?_ _ | refine Below.alloc ?_ ?_ _ | refine Below.setCell ?_ ?_ _ | omega | (dsimp only; omega) | (simp <;> omega) | (simp at * <;> omega)))) (kk2.s.below (by repeat (first | exact Below.refl _ _ | assumption | refine Below.next_ ?_ ?_ (by assumption) | refine Below.drew ?_ | refine below_drewN ?_ _ | refine Below.alloc ?_ ?_ _ | refine Below.setCell ?_ ?_ _ | omega | (dsimp only; omega) | (simp <;> omega) | (simp at * <;> omega)))) (by omega) (by omega)).mono ?_
    rintro e _ ⟨rfl, q3, rfl⟩
    rw [g3.out]
    go_wp2_with fail
    go_ret
    exact ⟨ret_b hfin.out.symm, by repeat (first | exact Below.refl _ _ | assumption | refine Below.next_ ?_ ?_ (by assumption) | refine Below.drew ?_ | refine below_drewN ?_ _ | refine Below.alloc ?_ ?_ _ | refine Below.setCell ?_ ?_ _ | omega | (dsimp only; omega) | (simp <;> omega) | (simp at * <;> omega))⟩
  have g3 := hide (decide_eq_true e3)
  by_cases e4 : ds = ds2
  rotate_left
  · have g4 := hide (decide_eq_false e4)
    have hfin := hide (show decide (RedD.mk t ms bs ps ss ds = RedD.mk t ms2 bs2 ps2 ss2 ds2) = false by simp [e4])
    clear e4 e0 e1 e2 e3
    go_enter Try.func23, Try.ntmps23
    go_wp2_with fail
    rw [HW_W1.out]
    clear HW_W1
    refine (eqIntS_any (kk.m.below (by repeat (first | exact Below.refl _ _ | assumption | refine Below.next_ ?_ ?_ (by assumption) | refine Below.drew ?_ | refine below_drewN ?_ _ | refine Below.alloc ?_ ?_ _ | refine Below.setCell ?_ ?_ _ | omega | (dsimp only; omega) | (simp <;> omega) | (simp at * <;> omega)))) (kk2.m.below (by repeat (first | exact Below.refl _ _ | assumption | refine Below.next_ ?_ ?_ (by assumption) | refine Below.drew ?_ | refine below_drewN ?_ _ | refine Below.alloc ?_ ?_ _ | refine Below.setCell ?_ ?_ _ | omega | (dsimp only; omega) | (simp <;> omega) | (simp at * <;> omega)))) (by omega) (by omega)).mono ?_
    rintro e _ ⟨rfl, q0, rfl⟩
    rw [g0.out]
    go_wp2_with fail
    refine (eqBoolS_any (kk.b.below (by repeat (first | exact Below.refl _ _ | assumption | refine Below.next_ ?_ ?_ (by assumption) | refine Below.drew ?_ | refine below_drewN ?_ _ | refine Below.alloc ?_ ?_ _ | refine Below.setCell ?_ ?_ _ | omega | (dsimp only; omega) | (simp <;> omega) | (simp at * <;> omega)))) (kk2.b.below (by repeat (first | exact Below.refl _ _ | assumption | refine Below.next_ ?_ ?_ (by assumption) | refine Below.drew ?_ | refine below_drewN ?_ _ | refine Below.alloc ?_ ?_ _ | refine Below.setCell ?_ ?_ _ | omega | (dsimp only; omega) | (simp <;> omega) | (simp at * <;> omega)))) (by omega) (by omega)).mono ?_
    rintro e _ ⟨rfl, q1, rfl⟩
    rw [g1.out]
    go_wp2_with fail
    refine (eqStringS_any (kk.p.below (by repeat (first | exact Below.refl _ _ | assumption | refine Below.next_ ?_ ?_ (by assumption) | refine Below.drew ?_ | refine below_drewN ?_ _ | refine Below.alloc ?_ ?_ _ | refine Below.setCell ?_ ?_ _ | omega | (dsimp only; omega) | (simp <;> omega) | (simp at * <;> omega)))) (kk2.p.below (by repeat (first | exact Below.refl _ _ | assumption | refine Below.next_ ?_ ?_ (by assumption) | refine Below.drew ?_ | refine below_drewN ?_ _ | refine Below.alloc ?_ ?_ _ | refine Below.setCell ?_ ?_ _ | omega | (dsimp only; omega) | (simp <;> omega) | (simp at * <;> omega)))) (by omega) (by omega)).mono ?_
    rintro e _ ⟨rfl, q2, rfl⟩
    rw [g2.out]
    go_wp2_with fail
    refine (eqIntS_any (kk.s.below (by repeat (first | exact Below.refl _ _ | assumption | refine Below.next_ ?_ ?_ (by assumption) | refine Below.drew ?_ | refine below_drewN ?_ _ | refine Below.alloc ?_ ?_ _ | refine Below.setCell ?_ ?_ _ | omega | (dsimp only; omega) | (simp <;> omega) | (simp at * <;> omega)))) (kk2.s.below (by repeat (first | exact Below.refl _ _ | assumption | refine Below.next_ ?_ ?_ (by assumption) | refine Below.drew ?_ | refine below_drewN ?_ _ | refine Below.alloc ?_ ?_ _ | refine Below.setCell ?_ ?_ _ | omega | (dsimp only; omega) | (simp <;> omega) | (simp at * <;> omega)))) (by omega) (by omega)).mono ?_
    rintro e _ ⟨rfl, q3, rfl⟩
    rw [g3.out]
    go_wp2_with fail
    refine (eqIntSS_any (kk.d.below (by repeat (first | exact Below.refl _ _ | assumption | refine Below.next_ ?_ ?_ (by assumption) | refine Below.drew ?_ | refine below_drewN ?_ _ | refine Below.alloc ?_ ?_ _ | refine Below.setCell ?_ ?_ _ | omega | (dsimp only; omega) | (simp <;> omega) | (simp at * <;> omega)))) (kk2.d.below (by repeat (first | exact Below.refl _ _ | assumption | refine Below.next_ ?_ ?_ (by assumption) | refine Below.drew ?_ | refine below_drewN ?_ _ | refine Below.alloc ?_ ?_ _ | refine Below.setCell ?_ ?_ _ | omega | (dsimp only; omega) | (simp <;> omega) | (simp at * <;> omega)))) (by omega) (by omega) hB.l hB2.l).mono ?_
    rintro e w9 ⟨rfl, hb9⟩
    rw [g4.out]
    go_wp2_with fail
    go_ret
    exact ⟨ret_b hfin.out.symm, by repeat (first | exact Below.refl _ _ | assumption | refine Below.next_ ?_ ?_ (by assumption) | refine Below.drew ?_ | refine below_drewN ?_ _ | refine Below.alloc ?_ ?_ _ | refine Below.setCell ?_ ?_ _ | omega | (dsimp only; omega) | (simp <;> omega) | (simp at * <;> omega))⟩
  have g4 := hide (decide_eq_true e4)
  have hfin := hide (show decide (RedD.mk t ms bs ps ss ds = RedD.mk t ms2 bs2 ps2 ss2 ds2) = true by simp [e0, e1, e2, e3, e4])
  clear e0 e1 e2 e3 e4
  go_enter Try.func23, Try.ntmps23
  go_wp2_with fail
  rw [HW_W1.out]
  clear HW_W1
  refine (eqIntS_any (kk.m.below (by repeat (first | exact Below.refl _ _ | assumption | refine Below.next_ ?_ ?_ (by assumption) | refine Below.drew ?_ | refine below_drewN ?_ _ | refine Below.alloc ?_ ?_ _ | refine Below.setCell ?_ ?_ _ | omega | (dsimp only; omega) | (simp <;> omega) | (simp at * <;> omega)))) (kk2.m.below (by repeat (first | exact Below.refl _ _ | assumption | refine Below.next_ ?_ ?_ (by assumption) | refine Below.drew ?_ | refine below_drewN ?_ _ | refine Below.alloc ?_ ?_ _ | refine Below.setCell ?_ ?_ _ | omega | (dsimp only; omega) | (simp <;> omega) | (simp at * <;> omega)))) (by omega) (by omega)).mono ?_
  rintro e _ ⟨rfl, q0, rfl⟩
  rw [g0.out]
  go_wp2_with fail
  refine (eqBoolS_any (kk.b.below (by repeat (first | exact Below.refl _ _ | assumption | refine Below.next_ ?_ ?_ (by assumption) | refine Below.drew ?_ | refine below_drewN ?_ _ | refine Below.alloc ?_ ?_ _ | refine Below.setCell ?_ ?_ _ | omega | (dsimp only; omega) | (simp <;> omega) | (simp at * <;> omega)))) (kk2.b.below (by repeat (first | exact Below.refl _ _ | assumption | refine Below.next_ ?_ ?_ (by assumption) | refine Below.drew ?_ | refine below_drewN ?_ _ | refine Below.alloc ?_ ?_ _ | refine Below.setCell ?_ ?_ _ | omega | (dsimp only; omega) | (simp <;> omega) | (simp at * <;> omega)))) (by omega) (by omega)).mono ?_
  rintro e _ ⟨rfl, q1, rfl⟩
  rw [g1.out]
  go_wp2_with fail
  refine (eqStringS_any (kk.p.below (by repeat (first | exact Below.refl _ _ | assumption | refine Below.next_ ?_ ?_ (by assumption) | refine Below.drew ?_ | refine below_drewN ?_ _ | refine Below.alloc ?_ ?_ _ | refine Below.setCell ?_ ?_ _ | omega | (dsimp only; omega) | (simp <;> omega) | (simp at * <;> omega)))) (kk2.p.below (by repeat (first | exact Below.refl _ _ | assumption | refine Below.next_ ?_ ?_ (by assumption) | refine Below.drew ?_ | refine below_drewN ?_ _ | refine Below.alloc ?_ ?_ _ | refine Below.setCell ?_ ?_ _ | omega | (dsimp only; omega) | (simp <;> omega) | (simp at * <;> omega)))) (by omega) (by omega)).mono ?_
  rintro e _ ⟨rfl, q2, rfl⟩
  rw [g2.out]
  go_wp2_with fail
  refine (eqIntS_any (kk.s.below (by repeat (first | exact Below.refl _ _ | assumption | refine Below.next_ ?_ ?_ (by assumption) | refine Below.drew ?_ | refine below_drewN ?_ _ | refine Below.alloc ?_ ?_ _ | refine Below.setCell ?_ ?_ _ | omega | (dsimp only; omega) | (simp <;> omega) | (simp at * <;> omega)))) (kk2.s.below (by repeat (first | exact Below.refl _ _ | assumption | refine Below.next_ ?_ ?_ (by assumption) | refine Below.drew ?_ | refine below_drewN ?_ _ | refine Below.alloc ?_ ?_ _ | refine Below.setCell ?_ ?_ _ | omega | (dsimp only; omega) | (simp <;> omega) | (simp at * <;> omega)))) (by omega) (by omega)).mono ?_
  rintro e _ ⟨rfl, q3, rfl⟩
  rw [g3.out]
  go_wp2_with fail
  refine (eqIntSS_any (kk.d.below (by repeat (first | exact Below.refl _ _ | assumption | refine Below.next_ ?_ ?_ (by assumption) | refine Below.drew ?_ | refine below_drewN ?_ _ | refine Below.alloc ?_ ?_ _ | refine Below.setCell ?_ ?_ _ | omega | (dsimp only; omega) | (simp <;> omega) | (simp at * <;> omega)))) (kk2.d.below (by repeat (first | exact Below.refl _ _ | assumption | refine Below.next_ ?_ ?_ (by assumption) | refine Below.drew ?_ | refine below_drewN ?_ _ | refine Below.alloc ?_ ?_ _ | refine Below.setCell ?_ ?_ _ | omega | (dsimp only; omega) | (simp <;> omega) | (simp at * <;> omega)))) (by omega) (by omega) hB.l hB2.l).mono ?_
  rintro e w9 ⟨rfl, hb9⟩
  rw [g4.out]
  go_wp2_with fail
  go_ret
  exact ⟨ret_b hfin.out.symm, by repeat (first | exact Below.refl _ _ | assumption | refine Below.next_ ?_ ?_ (by assumption) | refine Below.drew ?_ | refine below_drewN ?_ _ | refine Below.alloc ?_ ?_ _ | refine Below.setCell ?_ ?_ _ | omega | (dsimp only; omega) | (simp <;> omega) | (simp at * <;> omega))⟩
end Go.Proofs.Ythjdigiaajdnbaa
