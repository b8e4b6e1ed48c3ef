/- The contract of RedactedDigest of the reference. For rows of at most 2^40 elements. -/
import Derived.Test.YtgeffaohdoeclaaRDg
import Derived.Test.YtgeffaohdoeclaaIsRs
import Derived.Test.YtgeffaohdoeclaaStep
import Derived.Deep.RegionHeld3
import Derived.BigQuiet
import Derived.Deep.Cut
import Derived.Deep.CutRange
namespace Go.Proofs.Ytgeffaohdoeclaa
open Go.RowKit Go.WideShapes Go.ChangeShapes Go.Deep
set_option linter.unusedSimpArgs false
set_option linter.unusedVariables false
set_option maxRecDepth 1000000
set_option maxHeartbeats 8000000 in
theorem specRedactedDigest_any {t : Int} {M B P S D : Option Addr} {nm nb np ns nd cm cb cp cs cd : Nat} {ms : List Int} {bs : List Bool} {ps : List ByteArray} {ss : List Int} {ds : List (List Int)} {mth : Int} {w : World} (h : RdR w M B P S D nm nb np ns nd ms bs ps ss ds) (hB : BdR 1099511627776 nm nb np ns nd ds) (hpz : ∀ x ∈ ps, x.size ≤ 1048576) (ht : I64 t) (hM : I64 mth) (hIs : ∀ x ∈ ss, I64 x) (hId : ∀ x ∈ ds, ∀ y ∈ x, I64 y) :
    Calls Try.prog 66 #[.int .i64 mth, reV t M B P S D nm nb np ns nd cm cb cp cs cd] w fun e w' => e = .returned (.int .i64 (redDig mth t ms bs ps ss ds)) ∧ Below w.heap.size w w' := by
  obtain ⟨iInt, hiInt, hzInt0, hzInt1, hzInt2⟩ := info_parts Int_info
  obtain ⟨W1, hW_W1⟩ : ∃ W1, w.alloc (.cells #[.int .i64 t, .slice M nm cm, .slice B nb cb, .slice P np cp, .slice S ns cs, .slice D nd cd] 33) = W1 := ⟨_, rfl⟩
  have hc_W10 : W1.cell? ⟨w.heap.size, 0, none⟩ = some (.int .i64 t) := by rw [← hW_W1]; simp
  have hc_W11 : W1.cell? ⟨w.heap.size, 1, none⟩ = some (.slice M nm cm) := by rw [← hW_W1]; simp
  have hc_W12 : W1.cell? ⟨w.heap.size, 2, none⟩ = some (.slice B nb cb) := by rw [← hW_W1]; simp
  have hc_W13 : W1.cell? ⟨w.heap.size, 3, none⟩ = some (.slice P np cp) := by rw [← hW_W1]; simp
  have hc_W14 : W1.cell? ⟨w.heap.size, 4, none⟩ = some (.slice S ns cs) := by rw [← hW_W1]; simp
  have hc_W15 : W1.cell? ⟨w.heap.size, 5, none⟩ = some (.slice D nd cd) := by rw [← hW_W1]; simp
  have hs_W1 : w.heap.size < W1.heap.size := by rw [← hW_W1]; simp
  have hb_W1 : Below w.heap.size w W1 := by rw [← hW_W1]; repeat (first | exact Below.refl _ _ | assumption | refine Below.next_ ?_ ?_ (by assumption) | refine Below.drew ?_ | refine below_drewN ?_ _ | refine Below.alloc ?_ ?_ _ | refine Below.setCell ?_ ?_ _ | omega | (simp <;> omega) | (simp at * <;> omega))
  have HW_W1 := hide hW_W1
  clear hW_W1
  have k1 := RdR.below h hb_W1
  have HLm := hide k1.m.len
  have HLb := hide k1.b.maplen
  have HLp := hide k1.p.maplen
  have HLs := hide k1.s.maplen
  have HLd := hide k1.d.len
  have HM := hide hM
  have HT := hide ht
  have HIS := hide hIs
  have HID := hide hId
  have hnb := hB.b
  have hnm := hB.m
  clear hM ht hIs hId
  cases g : isRed t ms.length bs ps ss ds with
  | false =>
    have hfin := hide (redDig_no (m := mth) g)
    have T := specIsRedacted_any (cm := cm) (cb := cb) (cp := cp) (cs := cs) (cd := cd) k1 hB hpz (t := t)
    rw [show nm = ms.length from HLm.out.symm] at T
    rw [g] at T
    rw [show ms.length = nm from HLm.out] at T
    have HT2 := hide T
    clear T
    go_enter Try.func66, Try.ntmps66
    go_wp2_with fail
    rw [HW_W1.out]
    clear HW_W1
    refine HT2.out.mono ?_
    rintro e w1 ⟨rfl, hb1⟩
    go_wp2_with fail
    go_ret
    exact ⟨ret_i hfin.out.symm, by repeat (first | exact Below.refl _ _ | assumption | refine Below.next_ ?_ ?_ (by assumption) | refine Below.drew ?_ | refine below_drewN ?_ _ | refine Below.alloc ?_ ?_ _ | refine Below.setCell ?_ ?_ _ | omega | (dsimp only; omega) | (simp <;> omega) | (simp at * <;> omega))⟩
  | true =>
    have T := specIsRedacted_any (cm := cm) (cb := cb) (cp := cp) (cs := cs) (cd := cd) k1 hB hpz (t := t)
    rw [show nm = ms.length from HLm.out.symm] at T
    rw [g] at T
    rw [show ms.length = nm from HLm.out] at T
    have HT2 := hide T
    clear T
    obtain ⟨⟨hn1, hn6⟩, hl1, hl2, hl3, hok⟩ := isRed_all g
    rw [HLm.out] at hok
    rw [HLb.out] at hn1 hn6
    obtain rfl : np = nb := by rw [← HLp.out, ← HLb.out]; exact hl1
    obtain rfl : ns = np := by rw [← HLs.out, ← HLb.out]; exact hl2
    obtain rfl : nd = ns := by rw [← HLd.out, ← HLb.out]; exact hl3
    have HG := hide g
    have HOK := hide hok
    clear hl1 hl2 hl3 g hok hn1
    go_enter Try.func66, Try.ntmps66
    go_wp2_with fail
    rw [HW_W1.out]
    clear HW_W1
    refine HT2.out.mono ?_
    rintro e w1 ⟨rfl, hb1⟩
    obtain ⟨r0, r1, r2, r3, r4, r5⟩ := keep6 hb1 hc_W10 hc_W11 hc_W12 hc_W13 hc_W14 hc_W15
    have hs1 := hb1.size
    go_wp2_with fail
    go_loopw [5] (fun i wr => ∃ k : Nat, k ≤ nm ∧ i = .int .i64 k ∧ Hid (∀ (j : Nat) (y : Int), j < k → ms[j]? = some y → y ≠ mth) ∧ wr = w1) (fun i _ => nm - (intOf i).toNat)
    case atStart => exact ⟨0, Nat.zero_le _, rfl, (fun j p hj => absurd hj (Nat.not_lt_zero _)), rfl⟩
    case round =>
      obtain ⟨k, hk, rfl, hall, rfl⟩ := hrel
      have hk0 : (0 : Int) ≤ (k : Int) := by omega
      by_cases hgo : k < nm ∧ ms[k]? ≠ some mth
      · obtain ⟨hlt, hne⟩ := hgo
        obtain ⟨ad, y, rfl, hy, hcy⟩ := Rd.int (k1.m.below hb1) hlt
        have hkn : (k : Int) < (nm : Int) := by omega
        have hxy : y ≠ mth := by rintro rfl; exact hne hy
        have hq : (y == mth) = false := by simpa using hxy
        have hq2 : (y != mth) = true := by simpa using hxy
        have hst := hide (all_stepI hall.out hy hxy)
        clear hy hxy hne
        go_wp2_with fail
        go_roundw
        case rel => exact ⟨k + 1, by omega, by go_num, hst, trivial⟩
        case measure => simp [intOf]; omega
      · go_upto_region 4 with fail
        go_cut [24] from 11 to 26 (fun v wx => v = .bool false ∧ k = idxF ms mth ∧ wx = wr)
        case first =>
          by_cases hlt : k < nm
          · obtain ⟨ad, y, rfl, hy, hcy⟩ := Rd.int (k1.m.below hb1) hlt
            have hkn : (k : Int) < (nm : Int) := by omega
            have hxy : y = mth := by
              rcases Classical.em (y = mth) with h | h
              · exact h
              · exact absurd ⟨hlt, by rw [hy]; intro h2; injection h2 with h2; exact h h2⟩ hgo
            subst hxy
            have HI := hide (idxF_hit hall.out hy).symm
            have hq : (y == y) = true := by simp
            have hq2 : (y != y) = false := by simp
            clear hy hgo
            go_wp2_with fail
            go_meet
            exact ⟨rfl, HI.out, rfl⟩
          · have hkn : ¬ (k : Int) < (nm : Int) := by omega
            have HI := hide (show k = idxF ms mth by rw [idxF_miss (fun j y hj => hall.out j y (by have := get_lt hj; have := HLm.out; omega) hj)]; have := HLm.out; omega)
            clear hgo
            go_wp2_with fail
            go_meet
            exact ⟨rfl, HI.out, rfl⟩
        case rest =>
          obtain ⟨rfl, hidx, rfl⟩ := hcut
          obtain ⟨w1, rfl⟩ : ∃ x, x = wc := ⟨wc, rfl⟩
          have HIDX := hide hidx
          clear hidx hgo
          have ho0 := own_base (World.ownsRow_lit (base := w1.heap.size) (e := 3) (size := 1) w1 #[.int .i64 t] 1 (Nat.le_refl _) (by unfold maxLen; omega) rfl) hs1
          have hb0 := hb1.alloc hs1 (.cells #[.int .i64 t] 3)
          go_wp2_with fail
          go_loopw [6, 7] (fun lv i wr => ∃ (j : Nat) (B2 : Option Addr) (e : Nat), j ≤ nd ∧ i = .int .i64 j ∧ lv = .slice B2 (1 + j) e ∧ wr.ownsRow W1.heap.size 3 1 (.slice B2 (1 + j) e) (1 + j) (ints (t :: (rdL mth k bs ps ss ds).take j)) ∧ Hid (nm ≤ k → ∀ (i : Nat) (b : Bool), i < j → bs[i]? = some b → b = true) ∧ Below W1.heap.size W1 wr) (fun _ i _ => nd - (intOf i).toNat)
          case atStart => exact ⟨0, _, _, Nat.zero_le _, rfl, rfl, ho0, (fun _ i b hi => absurd hi (Nat.not_lt_zero _)), hb0⟩
          case round =>
            clear ho0 hb0 r0 r1 r2 r3 r4 r5
            obtain ⟨j, B2, e, hj, rfl, rfl, ho, hall2, hb⟩ := hrel
            have hz := hb.size
            obtain ⟨r0, r1, r2, r3, r4, r5⟩ := keep6 hb hc_W10 hc_W11 hc_W12 hc_W13 hc_W14 hc_W15
            have hj0 : (0 : Int) ≤ (j : Int) := by omega
            by_cases hlt : j < nd
            · have hkn : (j : Int) < (nd : Int) := by omega
              obtain ⟨ab, b, rfl, hxb, hcb0⟩ := Rd.bl k1.b hlt
              obtain ⟨ap, p, rfl, hxp, hcp0⟩ := Rd.st k1.p hlt
              obtain ⟨as_, s, rfl, hxs, hcs0⟩ := Rd.int k1.s hlt
              obtain ⟨ad, Bd, md, cd2, d, rfl, hxd, hcd0, hrd⟩ := k1.d.at_ hlt
              have hcb := keep1 hb hcb0
              have hcp := keep1 hb hcp0
              have hcs := keep1 hb hcs0
              have hcd := keep1 hb hcd0
              have hsz2 : p.size ≤ 137438953472 := by have := hpz p (List.mem_of_getElem? hxp); omega
              have hsI : I64 s := HIS.out s (List.mem_of_getElem? hxs)
              have HX := hide (rdL_at (m := mth) (at_ := k) hxb hxp hxs hxd)
              have HOKA := hide (okAll_at HOK.out hxb hxp hxs hxd)
              have HXb := hide hxb
              clear hxb hxp hxs hxd
              cases b with
              | true =>
                have HALL := hide (show nm ≤ k → ∀ (i : Nat) (b : Bool), i < j + 1 → bs[i]? = some b → b = true from fun h i b hi hb => by
                  rcases Nat.lt_or_ge i j with h1 | h1
                  · exact hall2.out h i b h1 hb
                  · obtain rfl : i = j := by omega
                    have := HXb.out
                    rw [hb] at this
                    injection this)
                go_wp2_with fail
                go_region_held3 (fun w' => w'.cell? ⟨w.heap.size, 3, none⟩ = some (.slice (some ap) nd cp) ∧ w'.cell? ⟨w.heap.size, 4, none⟩ = some (.slice (some as_) nd cs) ∧ w'.cell? (ap.add j) = some (.string p) ∧ w'.cell? (as_.add j) = some (.int .i64 s)) (((refine keep4 (W := W1) ?_ hc_W13 hc_W14 hcp0 hcs0); (focus (repeat (first | exact Below.refl _ _ | assumption | refine Below.next_ ?_ ?_ (by assumption) | refine Below.drew ?_ | refine below_drewN ?_ _ | refine Below.alloc ?_ ?_ _ | refine Below.setCell ?_ ?_ _ | omega | (simp <;> omega) | (simp at * <;> omega))))))
                  (first | (go_at_call 75; (with_reducible refine (specPartDigest_any hsz2 HM.out hsI).mono ?_); rintro e w3 ⟨rfl, hb_w3⟩; have hs_w3 := hb_w3.size; (try simp at hs_w3)) | (first | (refine step_app2 (B := W1.heap.size) (w0 := W1) _ rfl (.tmp 42) (.tmp 55) 24 rfl 3 iInt (.int .i64 0) 1 8 Try.underlying24 hiInt hzInt0 hzInt1 hzInt2 rfl (by omega) rfl (own_below ho ?_) rfl (Rd.one _ _ _) (ints_one [_]) ?_ ?_ (Nat.add_assoc 1 j 1) rfl ?_ ?_ ?_ ?_ ?_; (focus (repeat (first | exact Below.refl _ _ | assumption | refine Below.next_ ?_ ?_ (by assumption) | refine Below.drew ?_ | refine below_drewN ?_ _ | refine Below.alloc ?_ ?_ _ | refine Below.setCell ?_ ?_ _ | omega | (dsimp only; omega) | (simp <;> omega) | (simp at * <;> omega)))); (focus (unfold maxLen; omega)); (focus omega); (focus (repeat (first | exact Below.refl _ _ | assumption | refine Below.next_ ?_ ?_ (by assumption) | refine Below.drew ?_ | refine below_drewN ?_ _ | refine Below.alloc ?_ ?_ _ | refine Below.setCell ?_ ?_ _ | omega | (dsimp only; omega) | (simp <;> omega) | (simp at * <;> omega)))); (focus (first | omega | (simp <;> omega) | (simp at * <;> omega))); (focus (first | exact Nat.le_refl _ | omega)); (focus (first | omega | (simp <;> omega) | (simp at * <;> omega))); intro A2 c2 w2 ho2 hb2 hg2 hat2) | (refine step_app2 (B := W1.heap.size) (w0 := W1) _ rfl (.tmp 42) (.tmp 55) 24 rfl 3 iInt (.int .i64 0) 1 8 Try.underlying24 hiInt hzInt0 hzInt1 hzInt2 rfl (by omega) rfl (own_below ho ?_) rfl (Rd.drew_ (Rd.one _ _ _)) (ints_one [_]) ?_ ?_ (Nat.add_assoc 1 j 1) rfl ?_ ?_ ?_ ?_ ?_; (focus (repeat (first | exact Below.refl _ _ | assumption | refine Below.next_ ?_ ?_ (by assumption) | refine Below.drew ?_ | refine below_drewN ?_ _ | refine Below.alloc ?_ ?_ _ | refine Below.setCell ?_ ?_ _ | omega | (dsimp only; omega) | (simp <;> omega) | (simp at * <;> omega)))); (focus (unfold maxLen; omega)); (focus omega); (focus (repeat (first | exact Below.refl _ _ | assumption | refine Below.next_ ?_ ?_ (by assumption) | refine Below.drew ?_ | refine below_drewN ?_ _ | refine Below.alloc ?_ ?_ _ | refine Below.setCell ?_ ?_ _ | omega | (dsimp only; omega) | (simp <;> omega) | (simp at * <;> omega)))); (focus (first | omega | (simp <;> omega) | (simp at * <;> omega))); (focus (first | exact Nat.le_refl _ | omega)); (focus (first | omega | (simp <;> omega) | (simp at * <;> omega))); intro A2 c2 w2 ho2 hb2 hg2 hat2) | (refine step_app2 (B := W1.heap.size) (w0 := W1) _ rfl (.tmp 42) (.tmp 55) 24 rfl 3 iInt (.int .i64 0) 1 8 Try.underlying24 hiInt hzInt0 hzInt1 hzInt2 rfl (by omega) rfl (own_below ho ?_) rfl (Rd.drew_ (Rd.drew_ (Rd.one _ _ _))) (ints_one [_]) ?_ ?_ (Nat.add_assoc 1 j 1) rfl ?_ ?_ ?_ ?_ ?_; (focus (repeat (first | exact Below.refl _ _ | assumption | refine Below.next_ ?_ ?_ (by assumption) | refine Below.drew ?_ | refine below_drewN ?_ _ | refine Below.alloc ?_ ?_ _ | refine Below.setCell ?_ ?_ _ | omega | (dsimp only; omega) | (simp <;> omega) | (simp at * <;> omega)))); (focus (unfold maxLen; omega)); (focus omega); (focus (repeat (first | exact Below.refl _ _ | assumption | refine Below.next_ ?_ ?_ (by assumption) | refine Below.drew ?_ | refine below_drewN ?_ _ | refine Below.alloc ?_ ?_ _ | refine Below.setCell ?_ ?_ _ | omega | (dsimp only; omega) | (simp <;> omega) | (simp at * <;> omega)))); (focus (first | omega | (simp <;> omega) | (simp at * <;> omega))); (focus (first | exact Nat.le_refl _ | omega)); (focus (first | omega | (simp <;> omega) | (simp at * <;> omega))); intro A2 c2 w2 ho2 hb2 hg2 hat2)))
                go_wp2_with fail
                go_roundw
                case rel => exact ⟨j + 1, A2, c2, by omega, by go_num, rfl, by rw [take_snoc_ HX.out]; simpa [ints] using ho2, HALL.out, hb2⟩
                case measure => simp [intOf]; omega
              | false =>
                by_cases hkm : k < nm
                · have hmd : k < md := by
                    have h1 := okAt_f HOKA.out
                    have h2 := hrd.len
                    omega
                  obtain ⟨ae, x, rfl, hxe, hce0⟩ := Rd.int hrd hmd
                  have hce := keep1 hb hce0
                  have hkmd : (k : Int) < (md : Int) := by omega
                  have hneq : ((k : Int) == (nm : Int)) = false := by simpa using (by omega : ¬ (k : Int) = nm)
                  have HX2 := hide (show (rdL mth k bs ps ss ds)[j]? = some x by rw [HX.out]; simp [List.getD_eq_getElem?_getD, hxe])
                  have HALL := hide (show nm ≤ k → ∀ (i : Nat) (b : Bool), i < j + 1 → bs[i]? = some b → b = true from fun h => absurd h (by omega))
                  clear hxe
                  go_wp2_with (at_builtin; refine wpList_app2 _ rfl (.tmp 62) (.tmp 71) 24 rfl 3 iInt (.int .i64 0) 1 8 Try.underlying24 hiInt hzInt0 hzInt1 hzInt2 rfl (by omega) rfl (ho.alloc _) rfl (Rd.one _ _ _) (ints_one [_]) (by unfold maxLen; omega) (by omega) (Nat.add_assoc 1 j 1) rfl (hb.alloc hz _) (by simp; omega) (Nat.le_refl _) (by simp; omega) ?_; intro A2 c2 w2 ho2 hb2 hg2 hat2)
                  go_roundw
                  case rel => exact ⟨j + 1, A2, c2, by omega, by go_num, rfl, by rw [take_snoc_ HX2.out]; simpa [ints] using ho2, HALL.out, hb2⟩
                  case measure => simp [intOf]; omega
                · obtain rfl : k = nm := by omega
                  have hneq : ((k : Int) == (k : Int)) = true := by simp
                  have hfin := hide (redDig_hid (t := t) (ps := ps) (ss := ss) (ds := ds) (show ms.length ≤ idxF ms mth by rw [HLm.out, ← HIDX.out]; exact Nat.le_refl _) (show cntF bs < bs.length by
                    rcases Nat.lt_or_ge (cntF bs) bs.length with h | h
                    · exact h
                    · have := cntF_all (Nat.not_lt.2 h) HXb.out
                      cases this))
                  go_wp2_with fail
                  go_ret
                  exact ⟨ret_i hfin.out.symm, by repeat (first | exact Below.refl _ _ | assumption | refine Below.next_ ?_ ?_ (by assumption) | refine Below.drew ?_ | refine below_drewN ?_ _ | refine Below.alloc ?_ ?_ _ | refine Below.setCell ?_ ?_ _ | omega | (dsimp only; omega) | (simp <;> omega) | (simp at * <;> omega))⟩
            · obtain rfl : j = nd := by omega
              have hkn : ¬ (j : Int) < (j : Int) := by omega
              have hLr := rdL_len (m := mth) (at_ := k) HLb.out HLp.out HLs.out HLd.out
              have HLR := hide hLr
              rw [List.take_of_length_le (by omega)] at ho
              have hfin := hide (show redDig mth t ms bs ps ss ds = digestF mth (t :: rdL mth k bs ps ss ds) by
                rw [HIDX.out]
                refine redDig_yes HG.out ?_
                rintro ⟨h1, h2⟩
                rw [HLm.out, ← HIDX.out] at h1
                have h3 := hall2.out h1
                obtain ⟨i, hi, hf⟩ : ∃ i, i < bs.length ∧ bs[i]? = some false := cntF_lt h2
                have := h3 i false (by rw [HLb.out] at hi; exact hi) hf
                cases this)
              clear hLr
              go_wp2_with fail
              refine (specDigestOf_any (l := t :: rdL mth k bs ps ss ds) (Rd.of_own ho) (by omega) (rd_I64 HT.out HID.out) HM.out).mono ?_
              rintro e w4 ⟨rfl, hb4⟩
              go_wp2_with fail
              go_ret
              exact ⟨ret_i hfin.out.symm, by repeat (first | exact Below.refl _ _ | assumption | refine Below.next_ ?_ ?_ (by assumption) | refine Below.drew ?_ | refine below_drewN ?_ _ | refine Below.alloc ?_ ?_ _ | refine Below.setCell ?_ ?_ _ | omega | (dsimp only; omega) | (simp <;> omega) | (simp at * <;> omega))⟩
end Go.Proofs.Ytgeffaohdoeclaa
