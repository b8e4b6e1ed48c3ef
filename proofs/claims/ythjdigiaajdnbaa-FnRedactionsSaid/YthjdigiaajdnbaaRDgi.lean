/- The contract of RedactedDigest of the program. For rows of at most 2^40 elements. -/
import Derived.Test.YthjdigiaajdnbaaRDg
import Derived.Test.YthjdigiaajdnbaaIsRi
import Derived.Test.YthjdigiaajdnbaaStep
import Derived.Deep.RegionHeld3
import Derived.BigQuiet
import Derived.Deep.Cut
import Derived.Deep.CutRange
namespace Go.Proofs.Ythjdigiaajdnbaa
open Go.RowKit Go.WideShapes Go.ChangeShapes Go.Deep
set_option linter.unusedSimpArgs false
set_option linter.unusedVariables false
set_option maxRecDepth 1000000
set_option maxHeartbeats 8000000 in
theorem implRedactedDigest_any {t : Int} {M B P S D : Option Addr} {nm nb np ns nd cm cb cp cs cd : Nat} {ms : List Int} {bs : List Bool} {ps : List ByteArray} {ss : List Int} {ds : List (List Int)} {mth : Int} {w : World} (h : RdR w M B P S D nm nb np ns nd ms bs ps ss ds) (hB : BdR 1099511627776 nm nb np ns nd ds) (hpz : ∀ x ∈ ps, x.size ≤ 1048576) (ht : I64 t) (hM : I64 mth) (hIs : ∀ x ∈ ss, I64 x) (hId : ∀ x ∈ ds, ∀ y ∈ x, I64 y) :
    Calls Try.prog 11 #[.int .i64 mth, reV t M B P S D nm nb np ns nd cm cb cp cs cd] w fun e w' => e = .returned (.int .i64 (redDig mth t ms bs ps ss ds)) ∧ Below w.heap.size w w' := by
  obtain ⟨iInt, hiInt, hzInt0, hzInt1, hzInt2⟩ := info_parts Int_info
  obtain ⟨W1, hW_W1⟩ : ∃ W1, w.alloc (.cells #[.int .i64 t, .slice M nm cm, .slice B nb cb, .slice P np cp, .slice S ns cs, .slice D nd cd] 33) = W1 := ⟨_, rfl⟩
  have hc_W10 : W1.cell? ⟨w.heap.size, 0, none⟩ = some (.int .i64 t) := by rw [← hW_W1]; simp
  have hc_W11 : W1.cell? ⟨w.heap.size, 1, none⟩ = some (.slice M nm cm) := by rw [← hW_W1]; simp
  have hc_W12 : W1.cell? ⟨w.heap.size, 2, none⟩ = some (.slice B nb cb) := by rw [← hW_W1]; simp
  have hc_W13 : W1.cell? ⟨w.heap.size, 3, none⟩ = some (.slice P np cp) := by rw [← hW_W1]; simp
  have hc_W14 : W1.cell? ⟨w.heap.size, 4, none⟩ = some (.slice S ns cs) := by rw [← hW_W1]; simp
  have hc_W15 : W1.cell? ⟨w.heap.size, 5, none⟩ = some (.slice D nd cd) := by rw [← hW_W1]; simp
  have hs_W1 : w.heap.size < W1.heap.size := by rw [← hW_W1]; simp
  have hb_W1 : Below w.heap.size w W1 := by rw [← hW_W1]; repeat (first | exact Below.refl _ _ | assumption | refine Below.next_ ?_ ?_ (by assumption) | refine Below.drew ?_ | refine below_drewN ?_ _ | refine Below.alloc ?_ ?_ _ | refine Below.setCell ?_ ?_ _ | omega | (simp <;> omega) | (simp at * <;> omega))
  have HW_W1 := hide hW_W1
  clear hW_W1
  have k1 := RdR.below h hb_W1
  have HLm := hide k1.m.len
  have HLb := hide k1.b.maplen
  have HLp := hide k1.p.maplen
  have HLs := hide k1.s.maplen
  have HLd := hide k1.d.len
  have HM := hide hM
  have HT := hide ht
  have HIS := hide hIs
  have HID := hide hId
  have hnb := hB.b
  have hnm := hB.m
  clear hM ht hIs hId
  have T := fun (V : World) (hV : Below W1.heap.size W1 V) => implIsRedacted_any (cm := cm) (cb := cb) (cp := cp) (cs := cs) (cd := cd) (k1.below hV) hB hpz (t := t)
  rw [show nm = ms.length from HLm.out.symm] at T
  obtain ⟨kk, hkk⟩ : ∃ kk, idxF ms mth = kk := ⟨_, rfl⟩
  obtain ⟨kv, hkv⟩ : ∃ kv, idxI ms mth = kv := ⟨_, rfl⟩
  have hkv1 : kk < nm → kv = (kk : Int) := fun h => by rw [← hkv]; unfold idxI; rw [hkk, if_pos (by have := HLm.out; omega)]
  have hkv2 : ¬ kk < nm → kv = -1 := fun h => by rw [← hkv]; unfold idxI; rw [hkk, if_neg (by have := HLm.out; omega)]
  have TI := indexOf_any (x := mth) (c := cm) k1.m (by omega)
  rw [hkv] at TI
  have HTI := hide TI
  have HKV1 := hide hkv1
  have HKV2 := hide hkv2
  have HKK := hide hkk
  clear TI hkv hkv1 hkv2 hkk
  cases g : isRed t ms.length bs ps ss ds with
  | false =>
    have hfin := hide (redDig_no (m := mth) g)
    rw [g, show ms.length = nm from HLm.out] at T
    have HT2 := hide T
    clear T
    go_enter Try.func11, Try.ntmps11
    go_wp2_with fail
    rw [HW_W1.out]
    clear HW_W1
    refine HTI.out.mono ?_
    rintro e _ ⟨rfl, rfl⟩
    go_wp2_with fail
    have ha_0 := after_cell hc_W10
    have ha_1 := after_cell hc_W11
    have ha_2 := after_cell hc_W12
    have ha_3 := after_cell hc_W13
    have ha_4 := after_cell hc_W14
    have ha_5 := after_cell hc_W15
    have ha_6 := after_cell_f hc_W10
    have ha_7 := after_cell_f hc_W11
    have ha_8 := after_cell_f hc_W12
    have ha_9 := after_cell_f hc_W13
    have ha_10 := after_cell_f hc_W14
    have ha_11 := after_cell_f hc_W15
    refine wp_region_after (by kernel_rfl) (by kernel_rfl) ?_
    repeat (go_big_quiet_step ((first | (go_at_call 16; with_reducible refine Calls.after (HT2.out _ (After.below _))))))
    refine wpQuiet_nil ?_
    rintro _ ⟨⟨w5, hb_w5⟩, rfl⟩
    go_wp2_with fail
    go_ret
    exact ⟨ret_i hfin.out.symm, by repeat (first | exact Below.refl _ _ | assumption | refine Below.next_ ?_ ?_ (by assumption) | refine Below.drew ?_ | refine below_drewN ?_ _ | refine Below.alloc ?_ ?_ _ | refine Below.setCell ?_ ?_ _ | omega | (dsimp only; omega) | (simp <;> omega) | (simp at * <;> omega))⟩
  | true =>
    rw [g, show ms.length = nm from HLm.out] at T
    have HT2 := hide T
    clear T
    obtain ⟨⟨hn1, hn6⟩, hl1, hl2, hl3, hok⟩ := isRed_all g
    rw [HLm.out] at hok
    rw [HLb.out] at hn1 hn6
    obtain rfl : np = nb := by rw [← HLp.out, ← HLb.out]; exact hl1
    obtain rfl : ns = np := by rw [← HLs.out, ← HLb.out]; exact hl2
    obtain rfl : nd = ns := by rw [← HLd.out, ← HLb.out]; exact hl3
    have HG := hide g
    have HOK := hide hok
    clear hl1 hl2 hl3 g hok hn1
    have HTC := hide (fun (V : World) (hV : Below W1.heap.size W1 V) => implCountShown_any (t := t) (cm := cm) (cb := cb) (cp := cp) (cs := cs) (cd := cd) (k1.below hV) (by omega))
    by_cases hhid : ¬ kk < nm ∧ cntF bs < nd
    · obtain ⟨hh1, hh2⟩ := hhid
      have hfin := hide (redDig_hid (t := t) (ps := ps) (ss := ss) (ds := ds) (show ms.length ≤ idxF ms mth by rw [HLm.out, HKK.out]; omega) (show cntF bs < bs.length by rw [HLb.out]; exact hh2))
      obtain rfl := HKV2.out hh1
      have hcI : (cntF bs : Int) < (nd : Int) := by omega
      clear hh1 hh2
      go_enter Try.func11, Try.ntmps11
      go_wp2_with fail
      rw [HW_W1.out]
      clear HW_W1
      refine HTI.out.mono ?_
      rintro e _ ⟨rfl, rfl⟩
      go_wp2_with fail
      have ha_0 := after_cell hc_W10
      have ha_1 := after_cell hc_W11
      have ha_2 := after_cell hc_W12
      have ha_3 := after_cell hc_W13
      have ha_4 := after_cell hc_W14
      have ha_5 := after_cell hc_W15
      have ha_6 := after_cell_f hc_W10
      have ha_7 := after_cell_f hc_W11
      have ha_8 := after_cell_f hc_W12
      have ha_9 := after_cell_f hc_W13
      have ha_10 := after_cell_f hc_W14
      have ha_11 := after_cell_f hc_W15
      refine wp_region_after (by kernel_rfl) (by kernel_rfl) ?_
      repeat (go_big_quiet_step ((first | (go_at_call 16; with_reducible refine Calls.after (HT2.out _ (After.below _))) | (go_at_call 17; with_reducible refine Calls.after (HTC.out _ (After.below _))))))
      refine wpQuiet_nil ?_
      rintro _ ⟨⟨w5, hb_w5⟩, rfl⟩
      go_wp2_with fail
      go_ret
      exact ⟨ret_i hfin.out.symm, by repeat (first | exact Below.refl _ _ | assumption | refine Below.next_ ?_ ?_ (by assumption) | refine Below.drew ?_ | refine below_drewN ?_ _ | refine Below.alloc ?_ ?_ _ | refine Below.setCell ?_ ?_ _ | omega | (dsimp only; omega) | (simp <;> omega) | (simp at * <;> omega))⟩
    have HHID := hide hhid
    clear hhid
    go_enter Try.func11, Try.ntmps11
    go_wp2_with fail
    rw [HW_W1.out]
    clear HW_W1
    refine HTI.out.mono ?_
    rintro e _ ⟨rfl, rfl⟩
    go_upto_region 2 with fail
    go_cut [27] from 13 to 27 (fun v wx => v = .bool false ∧ Below W1.heap.size W1 wx)
    case first =>
      by_cases hkm : kk < nm
      · obtain rfl := HKV1.out hkm
        have hk0 : ¬ ((kk : Int) < 0) := by omega
        have ha_0 := after_cell hc_W10
        have ha_1 := after_cell hc_W11
        have ha_2 := after_cell hc_W12
        have ha_3 := after_cell hc_W13
        have ha_4 := after_cell hc_W14
        have ha_5 := after_cell hc_W15
        have ha_6 := after_cell_f hc_W10
        have ha_7 := after_cell_f hc_W11
        have ha_8 := after_cell_f hc_W12
        have ha_9 := after_cell_f hc_W13
        have ha_10 := after_cell_f hc_W14
        have ha_11 := after_cell_f hc_W15
        refine wp_region_after (by kernel_rfl) (by kernel_rfl) ?_
        repeat (go_big_quiet_step ((first | (go_at_call 16; with_reducible refine Calls.after (HT2.out _ (After.below _))))))
        refine wpQuiet_nil ?_
        rintro _ ⟨⟨w5, hb_w5⟩, rfl⟩
        go_wp2_with fail
        go_meet
        exact ⟨rfl, hb_w5⟩
      · obtain rfl := HKV2.out hkm
        have hcI : ¬ (cntF bs : Int) < (nd : Int) := by have := HHID.out; omega
        have ha_0 := after_cell hc_W10
        have ha_1 := after_cell hc_W11
        have ha_2 := after_cell hc_W12
        have ha_3 := after_cell hc_W13
        have ha_4 := after_cell hc_W14
        have ha_5 := after_cell hc_W15
        have ha_6 := after_cell_f hc_W10
        have ha_7 := after_cell_f hc_W11
        have ha_8 := after_cell_f hc_W12
        have ha_9 := after_cell_f hc_W13
        have ha_10 := after_cell_f hc_W14
        have ha_11 := after_cell_f hc_W15
        refine wp_region_after (by kernel_rfl) (by kernel_rfl) ?_
        repeat (go_big_quiet_step ((first | (go_at_call 16; with_reducible refine Calls.after (HT2.out _ (After.below _))) | (go_at_call 17; with_reducible refine Calls.after (HTC.out _ (After.below _))))))
        refine wpQuiet_nil ?_
        rintro _ ⟨⟨w5, hb_w5⟩, rfl⟩
        go_wp2_with fail
        go_meet
        exact ⟨rfl, hb_w5⟩
    case rest =>
      obtain ⟨rfl, hb1⟩ := hcut
      obtain ⟨w1, rfl⟩ : ∃ x, x = wc := ⟨wc, rfl⟩
      have hs1 := hb1.size
      obtain ⟨r0, r1, r2, r3, r4, r5⟩ := keep6 hb1 hc_W10 hc_W11 hc_W12 hc_W13 hc_W14 hc_W15
      have ho0 := own_base (World.ownsRow_lit (base := w1.heap.size) (e := 3) (size := 1) w1 #[.int .i64 t] 1 (Nat.le_refl _) (by unfold maxLen; omega) rfl) hs1
      have hb0 := hb1.alloc hs1 (.cells #[.int .i64 t] 3)
      have s2_ := keep1 hb0 hc_W12
      go_wp2_with fail
      go_loopw [6, 34] (fun lv i wr => ∃ (j : Nat) (B2 : Option Addr) (e : Nat), j ≤ nd ∧ i = .int .i64 j ∧ lv = .slice B2 (1 + j) e ∧ wr.ownsRow W1.heap.size 3 1 (.slice B2 (1 + j) e) (1 + j) (ints (t :: (rdL mth kk bs ps ss ds).take j)) ∧ Below W1.heap.size W1 wr) (fun _ i _ => nd - (intOf i).toNat)
      case atStart => exact ⟨0, _, _, Nat.zero_le _, rfl, rfl, ho0, hb0⟩
      case round =>
            clear ho0 hb0 s2_ hb1 hs1 r0 r1 r2 r3 r4 r5
            obtain ⟨j, B2, e, hj, rfl, rfl, ho, hb⟩ := hrel
            have hz := hb.size
            obtain ⟨r0, r1, r2, r3, r4, r5⟩ := keep6 hb hc_W10 hc_W11 hc_W12 hc_W13 hc_W14 hc_W15
            have hj0 : (0 : Int) ≤ (j : Int) := by omega
            by_cases hlt : j < nd
            · have hkn : (j : Int) < (nd : Int) := by omega
              obtain ⟨ab, b, rfl, hxb, hcb0⟩ := Rd.bl k1.b hlt
              obtain ⟨ap, p, rfl, hxp, hcp0⟩ := Rd.st k1.p hlt
              obtain ⟨as_, s, rfl, hxs, hcs0⟩ := Rd.int k1.s hlt
              obtain ⟨ad, Bd, md, cd2, d, rfl, hxd, hcd0, hrd⟩ := k1.d.at_ hlt
              have hcb := keep1 hb hcb0
              have hcp := keep1 hb hcp0
              have hcs := keep1 hb hcs0
              have hcd := keep1 hb hcd0
              have hsz2 : p.size ≤ 137438953472 := by have := hpz p (List.mem_of_getElem? hxp); omega
              have hsI : I64 s := HIS.out s (List.mem_of_getElem? hxs)
              have HX := hide (rdL_at (m := mth) (at_ := kk) hxb hxp hxs hxd)
              have HOKA := hide (okAll_at HOK.out hxb hxp hxs hxd)
              have HXb := hide hxb
              clear hxb hxp hxs hxd
              cases b with
              | true =>
                go_wp2_with fail
                go_region_held3 (fun w' => w'.cell? ⟨w.heap.size, 3, none⟩ = some (.slice (some ap) nd cp) ∧ w'.cell? ⟨w.heap.size, 4, none⟩ = some (.slice (some as_) nd cs) ∧ w'.cell? (ap.add j) = some (.string p) ∧ w'.cell? (as_.add j) = some (.int .i64 s)) (((refine keep4 (W := W1) ?_ hc_W13 hc_W14 hcp0 hcs0); (focus (repeat (first | exact Below.refl _ _ | assumption | refine Below.next_ ?_ ?_ (by assumption) | refine Below.drew ?_ | refine below_drewN ?_ _ | refine Below.alloc ?_ ?_ _ | refine Below.setCell ?_ ?_ _ | omega | (simp <;> omega) | (simp at * <;> omega))))))
                  (first | (go_at_call 35; (with_reducible refine (implPartDigest_any hsz2 HM.out hsI).mono ?_); rintro e w3 ⟨rfl, hb_w3⟩; have hs_w3 := hb_w3.size; (try simp at hs_w3)) | (first | (refine step_app2 (B := W1.heap.size) (w0 := W1) _ rfl (.tmp 40) (.tmp 53) 24 rfl 3 iInt (.int .i64 0) 1 8 Try.underlying24 hiInt hzInt0 hzInt1 hzInt2 rfl (by omega) rfl (own_below ho ?_) rfl (Rd.one _ _ _) (ints_one [_]) ?_ ?_ (Nat.add_assoc 1 j 1) rfl ?_ ?_ ?_ ?_ ?_; (focus (repeat (first | exact Below.refl _ _ | assumption | refine Below.next_ ?_ ?_ (by assumption) | refine Below.drew ?_ | refine below_drewN ?_ _ | refine Below.alloc ?_ ?_ _ | refine Below.setCell ?_ ?_ _ | omega | (dsimp only; omega) | (simp <;> omega) | (simp at * <;> omega)))); (focus (unfold maxLen; omega)); (focus omega); (focus (repeat (first | exact Below.refl _ _ | assumption | refine Below.next_ ?_ ?_ (by assumption) | refine Below.drew ?_ | refine below_drewN ?_ _ | refine Below.alloc ?_ ?_ _ | refine Below.setCell ?_ ?_ _ | omega | (dsimp only; omega) | (simp <;> omega) | (simp at * <;> omega)))); (focus (first | omega | (simp <;> omega) | (simp at * <;> omega))); (focus (first | exact Nat.le_refl _ | omega)); (focus (first | omega | (simp <;> omega) | (simp at * <;> omega))); intro A2 c2 w2 ho2 hb2 hg2 hat2) | (refine step_app2 (B := W1.heap.size) (w0 := W1) _ rfl (.tmp 40) (.tmp 53) 24 rfl 3 iInt (.int .i64 0) 1 8 Try.underlying24 hiInt hzInt0 hzInt1 hzInt2 rfl (by omega) rfl (own_below ho ?_) rfl (Rd.drew_ (Rd.one _ _ _)) (ints_one [_]) ?_ ?_ (Nat.add_assoc 1 j 1) rfl ?_ ?_ ?_ ?_ ?_; (focus (repeat (first | exact Below.refl _ _ | assumption | refine Below.next_ ?_ ?_ (by assumption) | refine Below.drew ?_ | refine below_drewN ?_ _ | refine Below.alloc ?_ ?_ _ | refine Below.setCell ?_ ?_ _ | omega | (dsimp only; omega) | (simp <;> omega) | (simp at * <;> omega)))); (focus (unfold maxLen; omega)); (focus omega); (focus (repeat (first | exact Below.refl _ _ | assumption | refine Below.next_ ?_ ?_ (by assumption) | refine Below.drew ?_ | refine below_drewN ?_ _ | refine Below.alloc ?_ ?_ _ | refine Below.setCell ?_ ?_ _ | omega | (dsimp only; omega) | (simp <;> omega) | (simp at * <;> omega)))); (focus (first | omega | (simp <;> omega) | (simp at * <;> omega))); (focus (first | exact Nat.le_refl _ | omega)); (focus (first | omega | (simp <;> omega) | (simp at * <;> omega))); intro A2 c2 w2 ho2 hb2 hg2 hat2) | (refine step_app2 (B := W1.heap.size) (w0 := W1) _ rfl (.tmp 40) (.tmp 53) 24 rfl 3 iInt (.int .i64 0) 1 8 Try.underlying24 hiInt hzInt0 hzInt1 hzInt2 rfl (by omega) rfl (own_below ho ?_) rfl (Rd.drew_ (Rd.drew_ (Rd.one _ _ _))) (ints_one [_]) ?_ ?_ (Nat.add_assoc 1 j 1) rfl ?_ ?_ ?_ ?_ ?_; (focus (repeat (first | exact Below.refl _ _ | assumption | refine Below.next_ ?_ ?_ (by assumption) | refine Below.drew ?_ | refine below_drewN ?_ _ | refine Below.alloc ?_ ?_ _ | refine Below.setCell ?_ ?_ _ | omega | (dsimp only; omega) | (simp <;> omega) | (simp at * <;> omega)))); (focus (unfold maxLen; omega)); (focus omega); (focus (repeat (first | exact Below.refl _ _ | assumption | refine Below.next_ ?_ ?_ (by assumption) | refine Below.drew ?_ | refine below_drewN ?_ _ | refine Below.alloc ?_ ?_ _ | refine Below.setCell ?_ ?_ _ | omega | (dsimp only; omega) | (simp <;> omega) | (simp at * <;> omega)))); (focus (first | omega | (simp <;> omega) | (simp at * <;> omega))); (focus (first | exact Nat.le_refl _ | omega)); (focus (first | omega | (simp <;> omega) | (simp at * <;> omega))); intro A2 c2 w2 ho2 hb2 hg2 hat2)))
                go_wp2_with fail
                go_roundw
                case rel => exact ⟨j + 1, A2, c2, by omega, by go_num, rfl, by rw [take_snoc_ HX.out]; simpa [ints] using ho2, hb2⟩
                case measure => simp [intOf]; omega
              | false =>
                have hkm : kk < nm := by
                  rcases Nat.lt_or_ge kk nm with h | h
                  · exact h
                  · exfalso
                    have h1 := HHID.out
                    have h2 := cntF_all (bs := bs) (by rw [HLb.out]; intro h3; exact h1 ⟨by omega, h3⟩) HXb.out
                    cases h2
                obtain rfl := HKV1.out hkm
                have hmd : kk < md := by
                  have h1 := okAt_f HOKA.out
                  have h2 := hrd.len
                  omega
                obtain ⟨ae, x, rfl, hxe, hce0⟩ := Rd.int hrd hmd
                have hce := keep1 hb hce0
                have hkmd : (kk : Int) < (md : Int) := by omega
                have hkk0 : (0 : Int) ≤ (kk : Int) := by omega
                have HX2 := hide (show (rdL mth kk bs ps ss ds)[j]? = some x by rw [HX.out]; simp [List.getD_eq_getElem?_getD, hxe])
                clear hxe
                go_wp2_with (at_builtin; refine wpList_app2 _ rfl (.tmp 55) (.tmp 64) 24 rfl 3 iInt (.int .i64 0) 1 8 Try.underlying24 hiInt hzInt0 hzInt1 hzInt2 rfl (by omega) rfl (ho.alloc _) rfl (Rd.one _ _ _) (ints_one [_]) (by unfold maxLen; omega) (by omega) (Nat.add_assoc 1 j 1) rfl (hb.alloc hz _) (by simp; omega) (Nat.le_refl _) (by simp; omega) ?_; intro A2 c2 w2 ho2 hb2 hg2 hat2)
                go_roundw
                case rel => exact ⟨j + 1, A2, c2, by omega, by go_num, rfl, by rw [take_snoc_ HX2.out]; simpa [ints] using ho2, hb2⟩
                case measure => simp [intOf]; omega
            · obtain rfl : j = nd := by omega
              have hkn : ¬ (j : Int) < (j : Int) := by omega
              have hLr := rdL_len (m := mth) (at_ := kk) HLb.out HLp.out HLs.out HLd.out
              have HLR := hide hLr
              rw [List.take_of_length_le (by omega)] at ho
              have hfin := hide (show redDig mth t ms bs ps ss ds = digestF mth (t :: rdL mth kk bs ps ss ds) by
                rw [← HKK.out]
                refine redDig_yes HG.out ?_
                rintro ⟨h1, h2⟩
                rw [HLm.out, HKK.out] at h1
                rw [HLb.out] at h2
                exact HHID.out ⟨by omega, h2⟩)
              clear hLr
              go_wp2_with fail
              refine (implDigestOf_any (l := t :: rdL mth kk bs ps ss ds) (Rd.of_own ho) (by omega) (rd_I64 HT.out HID.out) HM.out).mono ?_
              rintro e w4 ⟨rfl, hb4⟩
              go_wp2_with fail
              go_ret
              exact ⟨ret_i hfin.out.symm, by repeat (first | exact Below.refl _ _ | assumption | refine Below.next_ ?_ ?_ (by assumption) | refine Below.drew ?_ | refine below_drewN ?_ _ | refine Below.alloc ?_ ?_ _ | refine Below.setCell ?_ ?_ _ | omega | (dsimp only; omega) | (simp <;> omega) | (simp at * <;> omega))⟩
end Go.Proofs.Ythjdigiaajdnbaa
