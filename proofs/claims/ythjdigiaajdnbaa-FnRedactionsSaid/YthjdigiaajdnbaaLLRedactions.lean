/- Hiding parts changes no digest by the methods for which it was made, and leaves nothing of what is hidden (P7). For every input. -/
import Derived.Test.YthjdigiaajdnbaaArgs
import Derived.Test.YthjdigiaajdnbaaDr7m
import Derived.Test.YthjdigiaajdnbaaRdti
import Derived.Test.YthjdigiaajdnbaaRdts
import Derived.Test.YthjdigiaajdnbaaRDgi
import Derived.Test.YthjdigiaajdnbaaIsRi
import Derived.Test.YthjdigiaajdnbaaCnt
import Derived.Test.YthjdigiaajdnbaaRoi
import Derived.Test.YthjdigiaajdnbaaIdx
import Derived.Test.YthjdigiaajdnbaaDocD
import Derived.Deep.Cut
import Derived.BigQuiet
namespace Go.Proofs.Ythjdigiaajdnbaa.lawFnRedactions
open Go.ChangeShapes Go.WideShapes Go.ChangeAt Go.RowKit
set_option maxRecDepth 1000000
set_option linter.unusedSimpArgs false
set_option linter.unusedVariables false
theorem own : ownKnob Try.prog.godebug = none := by kernel_rfl
set_option maxHeartbeats 16000000 in
theorem law_any {v0 : Value} {W : World} (i0 : InBytes W v0) (w : World) (hWw : w = W) :
    Calls Try.prog 3 #[v0] w fun e w' => e = .returned (.bool true) ∧ Below w.heap.size w w' := by
  subst hWw
  obtain ⟨A0, n0, c0, l0, rfl, hn0, hr0, hI0⟩ := i0
  by_cases hg0 : n0 ≤ 1048576
  rotate_left
  · have hg0' : (1048576 : Int) < (n0 : Int) := by omega
    go_enter Try.func3, Try.ntmps3
    go_wp2_with fail
    refine (big_any _).mono ?_
    rintro e _ ⟨rfl, rfl⟩
    go_wp2_with fail
    go_ret
    exact ⟨rfl, by repeat (first | exact Below.refl _ _ | assumption | refine Below.next_ ?_ ?_ (by assumption) | refine Below.drew ?_ | refine below_drewN ?_ _ | refine Below.alloc ?_ ?_ _ | refine Below.setCell ?_ ?_ _ | omega | (dsimp only; omega) | (simp <;> omega) | (simp at * <;> omega))⟩
  have hg0' : ¬ (1048576 : Int) < (n0 : Int) := by omega
  go_enter Try.func3, Try.ntmps3
  go_wp2_with fail
  refine (big_any _).mono ?_
  rintro e _ ⟨rfl, rfl⟩
  go_wp2_with fail
  refine (DrawRedactDocument_any hr0 hg0 hI0).mono ?_
  rintro e w1 ⟨M, nm, cm, ms, t, P, S, k, m, c2, d, ps, ss, H, nh, ch, hs, rfl, hnm, hms, hnh, hk, hm, htI, hps, hss, hrM, hrP, hrS, hrH, hb1⟩
  have HSS := hide hss
  have hMI := hide (show ∀ x ∈ ms, I64 x from fun x hx => by have := hms x hx; exact ⟨by omega, by omega⟩)
  have hz1 := hb1.size
  clear hps hss hms
  obtain ⟨W2, hW2⟩ : ∃ y_, w1.alloc (.cells #[.int .i64 t, .slice P k c2, .slice S m d] 27) = y_ := ⟨_, rfl⟩
  have hbAW2 : Below w1.heap.size w1 W2 := by rw [← hW2]; exact (Below.refl _ _).alloc (Nat.le_refl _) _
  have bkd : Blk W2 w1.heap.size [.int .i64 t, .slice P k c2, .slice S m d] := by rw [← hW2]; exact Blk.new _ _ _
  have hzW2 := hbAW2.size
  have HW2 := hide hW2
  clear hW2
  replace hrM := hrM.below hbAW2
  replace hrP := hrP.below hbAW2
  replace hrS := hrS.below hbAW2
  replace hrH := hrH.below hbAW2
  obtain ⟨⟨xt, xms, xbs, xps, xss, xds⟩, hX⟩ : ∃ X, redX ms t ps ss hs = X := ⟨_, rfl⟩
  obtain ⟨ok, hok⟩ : ∃ b, isDoc t ps ss = b := ⟨_, rfl⟩
  have HX := hide hX
  have HOK := hide hok
  clear hX hok
  obtain ⟨⟨v0, v1, v2⟩, v3, v4, v5⟩ := bkd.three
  go_wp2_with fail
  rw [HW2.out]
  clear HW2
  refine (implRedactDocument_any hrM hrP hrS hrH (by omega) (by omega) (by omega) (by omega) hMI.out).mono ?_
  intro e w3 hout
  rw [HX.out, HOK.out] at hout
  unfold RrOut at hout
  dsimp only at hout
  obtain ⟨Mx, Bx, Px, Sx, Dx, nmx, nbx, npx, nsx, ndx, cmx, cbx, cpx, csx, cdx, rsx, kx, rfl, hrl, hR, hb3⟩ := hout
  have kr := hR.rdr hrl
  have hz3 := hb3.size
  clear v0 v1 v2 v3 v4 v5
  clear hR hrl
  replace hrM := hrM.below hb3
  replace hrP := hrP.below hb3
  replace hrS := hrS.below hb3
  replace hrH := hrH.below hb3
  replace bkd := Blk.below bkd hb3
  obtain ⟨W4, hW4⟩ : ∃ y_, w3.alloc (.cells #[.int .i64 xt, .slice Mx nmx cmx, .slice Bx nbx cbx, .slice Px npx cpx, .slice Sx nsx csx, .slice Dx ndx cdx] 33) = y_ := ⟨_, rfl⟩
  have hbAW4 : Below w3.heap.size w3 W4 := by rw [← hW4]; exact (Below.refl _ _).alloc (Nat.le_refl _) _
  have bkr : Blk W4 w3.heap.size [.int .i64 xt, .slice Mx nmx cmx, .slice Bx nbx cbx, .slice Px npx cpx, .slice Sx nsx csx, .slice Dx ndx cdx] := by rw [← hW4]; exact Blk.new _ _ _
  have hzW4 := hbAW4.size
  have HW4 := hide hW4
  clear hW4
  replace hrM := hrM.below hbAW4
  replace hrP := hrP.below hbAW4
  replace hrS := hrS.below hbAW4
  replace hrH := hrH.below hbAW4
  replace bkd := Blk.below bkd hbAW4
  replace kr := RdR.below kr hbAW4
  obtain ⟨⟨v0, v1, v2⟩, v3, v4, v5⟩ := bkd.three
  go_upto_region 5 with fail
  rw [HW4.out]
  clear HW4
  go_wp2_with fail
  refine (specRedactDocument_any hrM hrP hrS hrH (by omega) (by omega) (by omega) (by omega) hMI.out).mono ?_
  intro e w5 hout
  rw [HX.out, HOK.out] at hout
  unfold RrOut at hout
  dsimp only at hout
  obtain ⟨My, By, Py, Sy, Dy, nmy, nby, npy, nsy, ndy, cmy, cby, cpy, csy, cdy, rsy, ky, rfl, hrly, hRy, hb5⟩ := hout
  have hz5 := hb5.size
  clear v0 v1 v2 v3 v4 v5
  clear hRy hrly
  replace hrM := hrM.below hb5
  replace hrP := hrP.below hb5
  replace hrS := hrS.below hb5
  replace hrH := hrH.below hb5
  replace bkd := Blk.below bkd hb5
  replace bkr := Blk.below bkr hb5
  replace kr := RdR.below kr hb5
  obtain ⟨W6, hW6⟩ : ∃ y_, w5.alloc (.cells #[.int .i64 xt, .slice My nmy cmy, .slice By nby cby, .slice Py npy cpy, .slice Sy nsy csy, .slice Dy ndy cdy] 33) = y_ := ⟨_, rfl⟩
  have hbAW6 : Below w5.heap.size w5 W6 := by rw [← hW6]; exact (Below.refl _ _).alloc (Nat.le_refl _) _
  have bks : Blk W6 w5.heap.size [.int .i64 xt, .slice My nmy cmy, .slice By nby cby, .slice Py npy cpy, .slice Sy nsy csy, .slice Dy ndy cdy] := by rw [← hW6]; exact Blk.new _ _ _
  have hzW6 := hbAW6.size
  have HW6 := hide hW6
  clear hW6
  replace hrM := hrM.below hbAW6
  replace hrP := hrP.below hbAW6
  replace hrS := hrS.below hbAW6
  replace hrH := hrH.below hbAW6
  replace bkd := Blk.below bkd hbAW6
  replace bkr := Blk.below bkr hbAW6
  replace kr := RdR.below kr hbAW6
  have hbw6 : Below w.heap.size w W6 := by repeat (first | exact Below.refl _ _ | assumption | refine Below.next_ ?_ ?_ (by assumption) | refine Below.drew ?_ | refine below_drewN ?_ _ | refine Below.alloc ?_ ?_ _ | refine Below.setCell ?_ ?_ _ | omega | (dsimp only; omega) | (simp <;> omega) | (simp at * <;> omega))
  clear hbAW2 hb3 hbAW4 hb5 hbAW6 hb1 bks
  go_upto_region 6 with fail
  rw [HW6.out]
  clear HW6
  cases ok with
  | true =>
    have hdoc := HOK.out
    have hxe := (redX_eq (ms := ms) (hd := hs) hdoc).symm.trans HX.out
    rw [RedD.mk.injEq] at hxe
    obtain ⟨q1, q2, e3, e4, e5, e6⟩ := hxe
    obtain rfl : t = xt := q1
    obtain rfl : ms = xms := q2
    
    have hpl := hrP.maplen
    have hred := hide (show isRed t nm xbs xps xss xds = true by rw [← hrM.len, ← e3, ← e4, ← e5, ← e6]; exact red_isRed hdoc)
    have hdig := hide (show ∀ μ ∈ ms, redDig μ t ms xbs xps xss xds = docDig μ t ps ss by intro μ hμ; rw [← e3, ← e4, ← e5, ← e6]; exact red_dig hdoc hμ)
    have hatB := hide (show ∀ j, j < k → xbs[j]? = some (!(hid hs j)) by intro j hj; rw [← e3]; exact rB_at (by omega))
    have hatP := hide (show ∀ j, j < k → hid hs j = true → xps[j]? = some ByteArray.empty by intro j hj hh; rw [← e4, rP_at (by omega), if_pos hh])
    have hatS := hide (show ∀ j, j < k → hid hs j = true → xss[j]? = some 0 by intro j hj hh; rw [← e5, rS_at (by omega), if_pos hh])
    have hrox := hide (show roF (RedD.mk t ms xbs xps xss xds) t ps ss = true by have h := red_ro (ms := ms) (hd := hs) hdoc; rw [HX.out] at h; exact h)
    have hP1 := hide (show ∀ x ∈ xps, x.size ≤ 1048576 by intro x hx; have h := redX_ps (ms := ms) (t := t) (ps := ps) (ss := ss) (hd := hs); rw [HX.out] at h; have := h x hx; omega)
    have hIs := hide (show ∀ x ∈ xss, I64 x by rw [← e5]; exact red_I64s HSS.out)
    have hId := hide (show ∀ x ∈ xds, ∀ y ∈ x, I64 y by rw [← e6]; exact red_I64d)
    obtain rfl : nm = nmx := by have h1 := kr.m.len; have h2 := hrM.len; omega
    obtain rfl : k = nbx := by have h1 := kr.b.maplen; have h2 := rB_len hs ps.length; rw [e3] at h2; omega
    obtain rfl : k = npx := by have h1 := kr.p.maplen; have h2 := rP_len hs ps ps.length; rw [e4] at h2; omega
    obtain rfl : k = nsx := by have h1 := kr.s.len; have h2 := rS_len hs ss ps.length; rw [e5] at h2; omega
    obtain rfl : k = ndx := by have h1 := kr.d.len; have h2 := rD_len hs ms ps ss ps.length; rw [e6] at h2; omega
    have hB1 := hide (show BdR 1048576 nm k k k k xds from ⟨by omega, by omega, by omega, by omega, by omega, fun x hx => by
      have h := (redX_small ms t ps ss hs).l
      rw [HX.out] at h
      have := h x hx
      have := hrM.len
      omega⟩)
    obtain ⟨cnt, hc_⟩ : ∃ x, cntF xbs = x := ⟨_, rfl⟩
    have hck : (cnt : Int) ≤ (k : Int) := by have h1 := cntF_le xbs; have h2 := kr.b.maplen; omega
    have hcnt := hide hc_
    clear hc_ e3 e4 e5 e6 hpl HX
    have T := implIsDocument_any (t := t) (c := c2) (d := d) hrP hrS (by omega) (by omega)
    rw [hdoc] at T
    have HT := hide T
    clear T hdoc
    obtain ⟨⟨v0, v1, v2⟩, v3, v4, v5⟩ := bkd.three
    go_wp2_with fail
    refine HT.out.mono ?_
    rintro e w7 ⟨rfl, hb7⟩
    clear HT
    clear v0 v1 v2 v3 v4 v5
    replace hrM := hrM.below hb7
    replace hrP := hrP.below hb7
    replace hrS := hrS.below hb7
    replace hrH := hrH.below hb7
    replace bkd := Blk.below bkd hb7
    replace bkr := Blk.below bkr hb7
    replace kr := RdR.below kr hb7
    have hbw7 := Below.next_ hbw6 hbw6.size hb7
    clear hb7 hbw6
    go_wp2_with fail
    go_loopw [10] (fun i wr => ∃ j : Nat, j ≤ nm ∧ i = .int .i64 j ∧ Below w7.heap.size w7 wr) (fun i _ => nm - (intOf i).toNat)
    case atStart => exact ⟨0, Nat.zero_le _, rfl, Below.refl _ _⟩
    case round =>
      obtain ⟨w8, rfl⟩ : ∃ x, x = wr := ⟨wr, rfl⟩
      obtain ⟨j, hj, rfl, hb8⟩ := hrel
      replace hrM := hrM.below hb8
      replace hrP := hrP.below hb8
      replace hrS := hrS.below hb8
      replace hrH := hrH.below hb8
      replace bkd := Blk.below bkd hb8
      replace bkr := Blk.below bkr hb8
      replace kr := RdR.below kr hb8
      have hbw8 := Below.next_ hbw7 hbw7.size hb8
      have hj0 : (0 : Int) ≤ (j : Int) := by omega
      by_cases hjl : j < nm
      · have hjn : (j : Int) < (nm : Int) := by omega
        obtain ⟨aM, μ, rfl, hμ, hcμ⟩ := Rd.int hrM hjl
        have hμm := List.mem_of_getElem? hμ
        have hμI := hMI.out μ hμm
        have hde := hdig.out μ hμm
        obtain ⟨dg, hdg⟩ : ∃ x, docDig μ t ps ss = x := ⟨_, rfl⟩
        rw [hdg] at hde
        have HT1 := hide (show ∀ V : World, Below w8.heap.size w8 V → Calls Try.prog 11 #[.int .i64 μ, reV t Mx Bx Px Sx Dx nm k k k k cmx cbx cpx csx cdx] V fun e w' => e = .returned (.int .i64 dg) ∧ Below V.heap.size V w' from fun V hV => by
          have T := implRedactedDigest_any (t := t) (cm := cmx) (cb := cbx) (cp := cpx) (cs := csx) (cd := cdx) (mth := μ) (RdR.below kr hV) (hB1.out.mono (by omega)) hP1.out htI hμI hIs.out hId.out
          rwa [hde] at T)
        have HT2 := hide (show ∀ V : World, Below w8.heap.size w8 V → Calls Try.prog 12 #[.int .i64 μ, doV t P S k m c2 d] V fun e w' => e = .returned (.int .i64 dg) ∧ Below V.heap.size V w' from fun V hV => by
          have T := implDocDigest_any (t := t) (M := μ) (c := c2) (d := d) (hrP.below hV) (hrS.below hV) (by omega) (by omega) hμI
          rwa [hdg] at T)
        clear hde hdg hμ hμm
        have q1 : (dg != dg) = false := by simp
        obtain ⟨⟨r0, r1, r2, r3, r4, r5⟩, r6, r7, r8, r9, r10, r11⟩ := bkr.six
        obtain ⟨⟨v0, v1, v2⟩, v3, v4, v5⟩ := bkd.three
        go_wp2_with fail
        have ha_0 := after_cell r0
        have ha_1 := after_cell r1
        have ha_2 := after_cell r2
        have ha_3 := after_cell r3
        have ha_4 := after_cell r4
        have ha_5 := after_cell r5
        have ha_6 := after_cell v0
        have ha_7 := after_cell v1
        have ha_8 := after_cell v2
        have ha_9 := after_cell_f r0
        have ha_10 := after_cell_f r1
        have ha_11 := after_cell_f r2
        have ha_12 := after_cell_f r3
        have ha_13 := after_cell_f r4
        have ha_14 := after_cell_f r5
        have ha_15 := after_cell_f v0
        have ha_16 := after_cell_f v1
        have ha_17 := after_cell_f v2
        have ha_18 := after_cell hcμ
        refine wp_region_after (by kernel_rfl) (by kernel_rfl) ?_
        repeat (go_big_quiet_step ((first | (go_at_call 11; with_reducible refine Calls.after (HT1.out _ (After.below _))) | (go_at_call 12; with_reducible refine Calls.after (HT2.out _ (After.below _))))))
        refine wpQuiet_nil ?_
        rintro _ ⟨⟨w9, hb_w9⟩, rfl⟩
        go_wp2_with fail
        go_roundw
        case rel => exact ⟨j + 1, by omega, by go_num, Below.next_ hb8 hb8.size hb_w9⟩
        case measure => simp [intOf]; omega
      · obtain rfl : nm = j := by omega
        have hjn : ¬ (nm : Int) < (nm : Int) := by omega
        clear hb8
        go_wp2_with fail
        go_loopw [11] (fun i wr => ∃ a : Nat, a ≤ k ∧ i = .int .i64 a ∧ Below w8.heap.size w8 wr) (fun i _ => k - (intOf i).toNat)
        case atStart => exact ⟨0, Nat.zero_le _, rfl, Below.refl _ _⟩
        case round =>
          obtain ⟨w9, rfl⟩ : ∃ x, x = wr := ⟨wr, rfl⟩
          obtain ⟨a, ha, rfl, hb9⟩ := hrel
          replace hrM := hrM.below hb9
          replace hrP := hrP.below hb9
          replace hrS := hrS.below hb9
          replace hrH := hrH.below hb9
          replace bkd := Blk.below bkd hb9
          replace bkr := Blk.below bkr hb9
          replace kr := RdR.below kr hb9
          have hbw9 := Below.next_ hbw8 hbw8.size hb9
          have ha0 : (0 : Int) ≤ (a : Int) := by omega
          obtain ⟨⟨r0, r1, r2, r3, r4, r5⟩, r6, r7, r8, r9, r10, r11⟩ := bkr.six
          obtain ⟨⟨v0, v1, v2⟩, v3, v4, v5⟩ := bkd.three
          by_cases hal : a < k
          · have han : (a : Int) < (k : Int) := by omega
            obtain ⟨aB, b, rfl, hb_, hcb⟩ := Rd.bl kr.b hal
            obtain ⟨aP, pv, rfl, hp_, hcp⟩ := Rd.st kr.p hal
            obtain ⟨aS, sv, rfl, hs_, hcs⟩ := Rd.int kr.s hal
            have hbe := hatB.out a hal
            rw [hb_] at hbe
            injection hbe with hbe
            have T := contains_any (c := ch) (x := (a : Int)) hrH (by omega)
            have hhe : hasF hs (a : Int) = hid hs a := rfl
            rw [hhe] at T
            cases hh : hid hs a with
            | true =>
              rw [hh] at hbe T
              have hpe := hatP.out a hal hh
              rw [hp_] at hpe
              injection hpe with hpe
              have hse := hatS.out a hal hh
              rw [hs_] at hse
              injection hse with hse
              subst hbe hpe hse
              have HT1 := hide (show ∀ V : World, Below w9.heap.size w9 V → Calls Try.prog 13 #[.slice H nh ch, .int .i64 a] V fun e w' => e = .returned (.bool true) ∧ V = w' from fun V hV => by
                have T := contains_any (c := ch) (x := (a : Int)) (hrH.below hV) (by omega)
                rwa [hhe, hh] at T)
              clear T hh hhe hb_ hp_ hs_
              go_wp2_with fail
              have ha_0 := after_cell r0
              have ha_1 := after_cell r1
              have ha_2 := after_cell r2
              have ha_3 := after_cell r3
              have ha_4 := after_cell r4
              have ha_5 := after_cell r5
              have ha_6 := after_cell_f r0
              have ha_7 := after_cell_f r1
              have ha_8 := after_cell_f r2
              have ha_9 := after_cell_f r3
              have ha_10 := after_cell_f r4
              have ha_11 := after_cell_f r5
              have ha_12 := after_cell hcb
              have ha_13 := after_cell hcp
              have ha_14 := after_cell hcs
              refine wp_region_after (by kernel_rfl) (by kernel_rfl) ?_
              repeat (go_big_quiet_step ((first | (go_at_call 13; with_reducible refine Calls.after_s (HT1.out _ (After.below _))))))
              refine wpQuiet_nil ?_
              rintro _ ⟨⟨w10, hb_w10⟩, rfl⟩
              go_wp2_with fail
              go_roundw
              case rel => exact ⟨a + 1, by omega, by go_num, Below.next_ hb9 hb9.size hb_w10⟩
              case measure => simp [intOf]; omega
            | false =>
              rw [hh] at hbe T
              subst hbe
              have HT1 := hide (show ∀ V : World, Below w9.heap.size w9 V → Calls Try.prog 13 #[.slice H nh ch, .int .i64 a] V fun e w' => e = .returned (.bool false) ∧ V = w' from fun V hV => by
                have T := contains_any (c := ch) (x := (a : Int)) (hrH.below hV) (by omega)
                rwa [hhe, hh] at T)
              clear T hh hhe hb_ hp_ hs_
              go_wp2_with fail
              have ha_0 := after_cell r0
              have ha_1 := after_cell r1
              have ha_2 := after_cell r2
              have ha_3 := after_cell r3
              have ha_4 := after_cell r4
              have ha_5 := after_cell r5
              have ha_6 := after_cell_f r0
              have ha_7 := after_cell_f r1
              have ha_8 := after_cell_f r2
              have ha_9 := after_cell_f r3
              have ha_10 := after_cell_f r4
              have ha_11 := after_cell_f r5
              have ha_12 := after_cell hcb
              have ha_13 := after_cell hcp
              have ha_14 := after_cell hcs
              refine wp_region_after (by kernel_rfl) (by kernel_rfl) ?_
              repeat (go_big_quiet_step ((first | (go_at_call 13; with_reducible refine Calls.after_s (HT1.out _ (After.below _))))))
              refine wpQuiet_nil ?_
              rintro _ ⟨⟨w10, hb_w10⟩, rfl⟩
              go_wp2_with fail
              go_roundw
              case rel => exact ⟨a + 1, by omega, by go_num, Below.next_ hb9 hb9.size hb_w10⟩
              case measure => simp [intOf]; omega
          · obtain rfl : k = a := by omega
            have han : ¬ (k : Int) < (k : Int) := by omega
            go_wp2_with fail
            clear r0 r1 r2 r3 r4 r5 r6 r7 r8 r9 r10 r11 v0 v1 v2 v3 v4 v5
            have hbw0 := hbw9
            refine (DrawIsRedactionOf_any (hr0.below hbw0) hg0 hI0).mono ?_
            rintro e w10 ⟨t2, M2, B2, P2, S2, D2, nm2, nb2, np2, ns2, nd2, cm2, cb2, cp2, cs2, cd2, ms2, bs2, ps2, ss2, ds2, td, Pd, Sd, n, c, d2, pd, sd, rfl, kr2, bd2, hps2, hms2, hn2, hrP2, hrS2, hb10⟩
            have hbw1 := Below.next_ hbw0 hbw0.size hb10
            replace hrP := hrP.below hb10
            replace hrS := hrS.below hb10
            replace bkd := Blk.below bkd hb10
            replace bkr := Blk.below bkr hb10
            replace kr := RdR.below kr hb10
            obtain ⟨W11, hW11⟩ : ∃ y_, (w10.alloc (.cells #[.int .i64 t2, .slice M2 nm2 cm2, .slice B2 nb2 cb2, .slice P2 np2 cp2, .slice S2 ns2 cs2, .slice D2 nd2 cd2] 33)).alloc (.cells #[.int .i64 td, .slice Pd n c, .slice Sd n d2] 27) = y_ := ⟨_, rfl⟩
            have hbA11 : Below w10.heap.size w10 W11 := by rw [← hW11]; repeat (first | exact Below.refl _ _ | assumption | refine Below.next_ ?_ ?_ (by assumption) | refine Below.drew ?_ | refine below_drewN ?_ _ | refine Below.alloc ?_ ?_ _ | refine Below.setCell ?_ ?_ _ | omega | (simp <;> omega) | (simp at * <;> omega))
            have bkx : Blk W11 w10.heap.size [.int .i64 t2, .slice M2 nm2 cm2, .slice B2 nb2 cb2, .slice P2 np2 cp2, .slice S2 ns2 cs2, .slice D2 nd2 cd2] := by rw [← hW11]; exact (Blk.new _ _ _).alloc _
            have bky : Blk W11 (w10.heap.size + 1) [.int .i64 td, .slice Pd n c, .slice Sd n d2] := by rw [← hW11]; exact Blk.new_ _ _ _ (by simp)
            have hz11 := hbA11.size
            have hbw2 := Below.next_ hbw1 hbw1.size hbA11
            replace hrP := hrP.below hbA11
            replace hrS := hrS.below hbA11
            replace bkd := Blk.below bkd hbA11
            replace bkr := Blk.below bkr hbA11
            replace kr := RdR.below kr hbA11
            replace kr2 := RdR.below kr2 hbA11
            replace hrP2 := hrP2.below hbA11
            replace hrS2 := hrS2.below hbA11
            have HW11 := hide hW11
            clear hW11 hbA11 hb10 hbw0 hbw1
            obtain ⟨ro, hro⟩ : ∃ b, roF (RedD.mk t2 ms2 bs2 ps2 ss2 ds2) td pd sd = b := ⟨_, rfl⟩
            have T := implIsRedactionOf_any (t := t2) (td := td) (cm := cm2) (cb := cb2) (cp := cp2) (cs := cs2) (cd := cd2) (c := c) (d := d2) kr2 hrP2 hrS2 bd2 (by omega) (by omega) hms2
            rw [hro] at T
            have HRO := hide (show ro = true → isRed t2 ms2.length bs2 ps2 ss2 ds2 = true ∧ isDoc td pd sd = true from fun h => ro_ok (hro.trans h))
            have HT := hide T
            have HP2 := hide hps2
            have HL2 := hide kr2.m.len
            clear T hro hps2 hms2
            obtain ⟨⟨r0, r1, r2, r3, r4, r5⟩, r6, r7, r8, r9, r10, r11⟩ := bkx.six
            obtain ⟨⟨v0, v1, v2⟩, v3, v4, v5⟩ := bky.three
            go_upto_region 21 with fail
            rw [HW11.out]
            clear HW11
            go_wp2_with fail
            refine HT.out.mono ?_
            rintro e w12 ⟨rfl, hb12⟩
            clear HT
            clear r0 r1 r2 r3 r4 r5 r6 r7 r8 r9 r10 r11 v0 v1 v2 v3 v4 v5
            replace hrP2 := hrP2.below hb12
            replace hrS2 := hrS2.below hb12
            replace bkx := Blk.below bkx hb12
            replace bky := Blk.below bky hb12
            replace kr2 := RdR.below kr2 hb12
            replace hrP := hrP.below hb12
            replace hrS := hrS.below hb12
            replace bkd := Blk.below bkd hb12
            replace bkr := Blk.below bkr hb12
            replace kr := RdR.below kr hb12
            have hbw3 := Below.next_ hbw2 hbw2.size hb12
            clear hb12 hbw2
            cases ro with
            | true =>
              obtain ⟨hq1, hq2⟩ := HRO.out rfl
              rw [HL2.out] at hq1
              have T := implIsRedacted_any (t := t2) (cm := cm2) (cb := cb2) (cp := cp2) (cs := cs2) (cd := cd2) kr2 (bd2.mono (by omega)) HP2.out
              rw [hq1] at T
              have HT := hide T
              clear T hq1
              obtain ⟨⟨r0, r1, r2, r3, r4, r5⟩, r6, r7, r8, r9, r10, r11⟩ := bkx.six
              go_wp2_with fail
              refine HT.out.mono ?_
              rintro e w13 ⟨rfl, hb13⟩
              clear HT
              clear r0 r1 r2 r3 r4 r5 r6 r7 r8 r9 r10 r11
              replace hrP2 := hrP2.below hb13
              replace hrS2 := hrS2.below hb13
              replace bky := Blk.below bky hb13
              replace hrP := hrP.below hb13
              replace hrS := hrS.below hb13
              replace bkd := Blk.below bkd hb13
              replace bkr := Blk.below bkr hb13
              replace kr := RdR.below kr hb13
              have hbw4 := Below.next_ hbw3 hbw3.size hb13
              clear hb13 hbw3
              have T := implIsDocument_any (t := td) (c := c) (d := d2) hrP2 hrS2 (by omega) (by omega)
              rw [hq2] at T
              have HT := hide T
              clear T hq2
              obtain ⟨⟨v0, v1, v2⟩, v3, v4, v5⟩ := bky.three
              go_wp2_with fail
              refine HT.out.mono ?_
              rintro e w14 ⟨rfl, hb14⟩
              clear HT
              clear v0 v1 v2 v3 v4 v5
              replace hrP := hrP.below hb14
              replace hrS := hrS.below hb14
              replace bkd := Blk.below bkd hb14
              replace bkr := Blk.below bkr hb14
              replace kr := RdR.below kr hb14
              have hbw5 := Below.next_ hbw4 hbw4.size hb14
              clear hb14 hbw4
              have HTi := hide (show ∀ V : World, Below w14.heap.size w14 V → Calls Try.prog 16 #[reV t Mx Bx Px Sx Dx nm k k k k cmx cbx cpx csx cdx] V fun e w' => e = .returned (.bool true) ∧ Below V.heap.size V w' from fun V hV => by
                have T := implIsRedacted_any (t := t) (cm := cmx) (cb := cbx) (cp := cpx) (cs := csx) (cd := cdx) (RdR.below kr hV) (hB1.out.mono (by omega)) hP1.out
                rwa [hred.out] at T)
              have HTo := hide (show ∀ V : World, Below w14.heap.size w14 V → Calls Try.prog 15 #[reV t Mx Bx Px Sx Dx nm k k k k cmx cbx cpx csx cdx, doV t P S k m c2 d] V fun e w' => e = .returned (.bool true) ∧ Below V.heap.size V w' from fun V hV => by
                have T := implIsRedactionOf_any (t := t) (cm := cmx) (cb := cbx) (cp := cpx) (cs := csx) (cd := cdx) (td := t) (c := c2) (d := d) (RdR.below kr hV) (hrP.below hV) (hrS.below hV) hB1.out (by omega) (by omega) hMI.out
                rwa [hrox.out] at T)
              have HTc := hide (show ∀ V : World, Below w14.heap.size w14 V → Calls Try.prog 17 #[reV t Mx Bx Px Sx Dx nm k k k k cmx cbx cpx csx cdx] V fun e w' => e = .returned (.int .i64 (cnt : Int)) ∧ Below V.heap.size V w' from fun V hV => by
                have T := implCountShown_any (t := t) (cm := cmx) (cb := cbx) (cp := cpx) (cs := csx) (cd := cdx) (RdR.below kr hV) (by omega)
                rwa [hcnt.out] at T)
              obtain ⟨⟨r0, r1, r2, r3, r4, r5⟩, r6, r7, r8, r9, r10, r11⟩ := bkr.six
              obtain ⟨⟨v0, v1, v2⟩, v3, v4, v5⟩ := bkd.three
              go_wp2_with fail
              have ha_0 := after_cell r0
              have ha_1 := after_cell r1
              have ha_2 := after_cell r2
              have ha_3 := after_cell r3
              have ha_4 := after_cell r4
              have ha_5 := after_cell r5
              have ha_6 := after_cell v0
              have ha_7 := after_cell v1
              have ha_8 := after_cell v2
              have ha_9 := after_cell_f r0
              have ha_10 := after_cell_f r1
              have ha_11 := after_cell_f r2
              have ha_12 := after_cell_f r3
              have ha_13 := after_cell_f r4
              have ha_14 := after_cell_f r5
              have ha_15 := after_cell_f v0
              have ha_16 := after_cell_f v1
              have ha_17 := after_cell_f v2
              refine wp_region_after (by kernel_rfl) (by kernel_rfl) ?_
              repeat (go_big_quiet_step ((first | (go_at_call 16; with_reducible refine Calls.after (HTi.out _ (After.below _))) | (go_at_call 15; with_reducible refine Calls.after (HTo.out _ (After.below _))) | (go_at_call 17; with_reducible refine Calls.after (HTc.out _ (After.below _))))))
              refine wpQuiet_nil ?_
              rintro _ ⟨⟨w15, hb_w15⟩, rfl⟩
              go_wp2_with fail
              go_ret
              exact ⟨rfl, Below.next_ hbw5 hbw5.size hb_w15⟩
            | false =>
              obtain ⟨w14, rfl⟩ : ∃ x, x = w12 := ⟨w12, rfl⟩
              have hbw5 := hbw3
              have HTi := hide (show ∀ V : World, Below w14.heap.size w14 V → Calls Try.prog 16 #[reV t Mx Bx Px Sx Dx nm k k k k cmx cbx cpx csx cdx] V fun e w' => e = .returned (.bool true) ∧ Below V.heap.size V w' from fun V hV => by
                have T := implIsRedacted_any (t := t) (cm := cmx) (cb := cbx) (cp := cpx) (cs := csx) (cd := cdx) (RdR.below kr hV) (hB1.out.mono (by omega)) hP1.out
                rwa [hred.out] at T)
              have HTo := hide (show ∀ V : World, Below w14.heap.size w14 V → Calls Try.prog 15 #[reV t Mx Bx Px Sx Dx nm k k k k cmx cbx cpx csx cdx, doV t P S k m c2 d] V fun e w' => e = .returned (.bool true) ∧ Below V.heap.size V w' from fun V hV => by
                have T := implIsRedactionOf_any (t := t) (cm := cmx) (cb := cbx) (cp := cpx) (cs := csx) (cd := cdx) (td := t) (c := c2) (d := d) (RdR.below kr hV) (hrP.below hV) (hrS.below hV) hB1.out (by omega) (by omega) hMI.out
                rwa [hrox.out] at T)
              have HTc := hide (show ∀ V : World, Below w14.heap.size w14 V → Calls Try.prog 17 #[reV t Mx Bx Px Sx Dx nm k k k k cmx cbx cpx csx cdx] V fun e w' => e = .returned (.int .i64 (cnt : Int)) ∧ Below V.heap.size V w' from fun V hV => by
                have T := implCountShown_any (t := t) (cm := cmx) (cb := cbx) (cp := cpx) (cs := csx) (cd := cdx) (RdR.below kr hV) (by omega)
                rwa [hcnt.out] at T)
              obtain ⟨⟨r0, r1, r2, r3, r4, r5⟩, r6, r7, r8, r9, r10, r11⟩ := bkr.six
              obtain ⟨⟨v0, v1, v2⟩, v3, v4, v5⟩ := bkd.three
              go_wp2_with fail
              have ha_0 := after_cell r0
              have ha_1 := after_cell r1
              have ha_2 := after_cell r2
              have ha_3 := after_cell r3
              have ha_4 := after_cell r4
              have ha_5 := after_cell r5
              have ha_6 := after_cell v0
              have ha_7 := after_cell v1
              have ha_8 := after_cell v2
              have ha_9 := after_cell_f r0
              have ha_10 := after_cell_f r1
              have ha_11 := after_cell_f r2
              have ha_12 := after_cell_f r3
              have ha_13 := after_cell_f r4
              have ha_14 := after_cell_f r5
              have ha_15 := after_cell_f v0
              have ha_16 := after_cell_f v1
              have ha_17 := after_cell_f v2
              refine wp_region_after (by kernel_rfl) (by kernel_rfl) ?_
              repeat (go_big_quiet_step ((first | (go_at_call 16; with_reducible refine Calls.after (HTi.out _ (After.below _))) | (go_at_call 15; with_reducible refine Calls.after (HTo.out _ (After.below _))) | (go_at_call 17; with_reducible refine Calls.after (HTc.out _ (After.below _))))))
              refine wpQuiet_nil ?_
              rintro _ ⟨⟨w15, hb_w15⟩, rfl⟩
              go_wp2_with fail
              go_ret
              exact ⟨rfl, Below.next_ hbw5 hbw5.size hb_w15⟩
  | false =>
    by_cases hpos : 0 < nm
    · clear htI
      have hxz : xbs.length = 0 := by
        have h := HX.out
        unfold redX at h
        rw [if_neg (by rw [HOK.out]; simp)] at h
        rw [RedD.mk.injEq] at h
        rw [← h.2.2.1]
        rfl
      obtain rfl : nbx = 0 := by have h := kr.b.maplen; omega
      clear hxz HX
      have T := implIsDocument_any (t := t) (c := c2) (d := d) hrP hrS (by omega) (by omega)
      rw [HOK.out] at T
      have HT := hide T
      clear T
      obtain ⟨⟨v0, v1, v2⟩, v3, v4, v5⟩ := bkd.three
      go_wp2_with fail
      refine HT.out.mono ?_
      rintro e w7 ⟨rfl, hb7⟩
      clear HT
      clear v0 v1 v2 v3 v4 v5
      replace bkd := Blk.below bkd hb7
      replace bkr := Blk.below bkr hb7
      have hbw7 := Below.next_ hbw6 hbw6.size hb7
      clear hb7 hbw6
      have hn0 : (0 : Int) < (nm : Int) := by omega
      go_wp2_with fail
      go_loopw [10] (fun i wr => i = .int .i64 0 ∧ wr = w7) (fun i _ => 0)
      case atStart => exact ⟨rfl, rfl⟩
      case round =>
        obtain ⟨rfl, rfl⟩ := hrel
        go_wp2_with fail
        obtain ⟨⟨r0, r1, r2, r3, r4, r5⟩, r6, r7, r8, r9, r10, r11⟩ := bkr.six
        go_loopw [11] (fun i wr_ => i = .int .i64 0 ∧ wr_ = wr) (fun i _ => 0)
        case atStart => exact ⟨rfl, rfl⟩
        case round =>
          obtain ⟨rfl, rfl⟩ := hrel
          go_wp2_with fail
          clear r0 r1 r2 r3 r4 r5 r6 r7 r8 r9 r10 r11
          have hbw0 := hbw7
          refine (DrawIsRedactionOf_any (hr0.below hbw0) hg0 hI0).mono ?_
          rintro e w10 ⟨t2, M2, B2, P2, S2, D2, nm2, nb2, np2, ns2, nd2, cm2, cb2, cp2, cs2, cd2, ms2, bs2, ps2, ss2, ds2, td, Pd, Sd, n, c, d2, pd, sd, rfl, kr2, bd2, hps2, hms2, hn2, hrP2, hrS2, hb10⟩
          have hbw1 := Below.next_ hbw0 hbw0.size hb10
          obtain ⟨W11, hW11⟩ : ∃ y_, (w10.alloc (.cells #[.int .i64 t2, .slice M2 nm2 cm2, .slice B2 nb2 cb2, .slice P2 np2 cp2, .slice S2 ns2 cs2, .slice D2 nd2 cd2] 33)).alloc (.cells #[.int .i64 td, .slice Pd n c, .slice Sd n d2] 27) = y_ := ⟨_, rfl⟩
          have hbA11 : Below w10.heap.size w10 W11 := by rw [← hW11]; repeat (first | exact Below.refl _ _ | assumption | refine Below.next_ ?_ ?_ (by assumption) | refine Below.drew ?_ | refine below_drewN ?_ _ | refine Below.alloc ?_ ?_ _ | refine Below.setCell ?_ ?_ _ | omega | (simp <;> omega) | (simp at * <;> omega))
          have bkx : Blk W11 w10.heap.size [.int .i64 t2, .slice M2 nm2 cm2, .slice B2 nb2 cb2, .slice P2 np2 cp2, .slice S2 ns2 cs2, .slice D2 nd2 cd2] := by rw [← hW11]; exact (Blk.new _ _ _).alloc _
          have bky : Blk W11 (w10.heap.size + 1) [.int .i64 td, .slice Pd n c, .slice Sd n d2] := by rw [← hW11]; exact Blk.new_ _ _ _ (by simp)
          have hz11 := hbA11.size
          have hbw2 := Below.next_ hbw1 hbw1.size hbA11
          replace kr2 := RdR.below kr2 hbA11
          replace hrP2 := hrP2.below hbA11
          replace hrS2 := hrS2.below hbA11
          have HW11 := hide hW11
          clear hW11 hbA11 hb10 hbw0 hbw1
          obtain ⟨ro, hro⟩ : ∃ b, roF (RedD.mk t2 ms2 bs2 ps2 ss2 ds2) td pd sd = b := ⟨_, rfl⟩
          have T := implIsRedactionOf_any (t := t2) (td := td) (cm := cm2) (cb := cb2) (cp := cp2) (cs := cs2) (cd := cd2) (c := c) (d := d2) kr2 hrP2 hrS2 bd2 (by omega) (by omega) hms2
          rw [hro] at T
          have HRO := hide (show ro = true → isRed t2 ms2.length bs2 ps2 ss2 ds2 = true ∧ isDoc td pd sd = true from fun h => ro_ok (hro.trans h))
          have HT := hide T
          have HP2 := hide hps2
          have HL2 := hide kr2.m.len
          clear T hro hps2 hms2
          obtain ⟨⟨r0, r1, r2, r3, r4, r5⟩, r6, r7, r8, r9, r10, r11⟩ := bkx.six
          obtain ⟨⟨v0, v1, v2⟩, v3, v4, v5⟩ := bky.three
          go_upto_region 21 with fail
          rw [HW11.out]
          clear HW11
          go_wp2_with fail
          refine HT.out.mono ?_
          rintro e w12 ⟨rfl, hb12⟩
          clear HT
          clear r0 r1 r2 r3 r4 r5 r6 r7 r8 r9 r10 r11 v0 v1 v2 v3 v4 v5
          replace hrP2 := hrP2.below hb12
          replace hrS2 := hrS2.below hb12
          replace bkx := Blk.below bkx hb12
          replace bky := Blk.below bky hb12
          replace kr2 := RdR.below kr2 hb12
          have hbw3 := Below.next_ hbw2 hbw2.size hb12
          clear hb12 hbw2
          cases ro with
          | true =>
            obtain ⟨hq1, hq2⟩ := HRO.out rfl
            rw [HL2.out] at hq1
            have T := implIsRedacted_any (t := t2) (cm := cm2) (cb := cb2) (cp := cp2) (cs := cs2) (cd := cd2) kr2 (bd2.mono (by omega)) HP2.out
            rw [hq1] at T
            have HT := hide T
            clear T hq1
            obtain ⟨⟨r0, r1, r2, r3, r4, r5⟩, r6, r7, r8, r9, r10, r11⟩ := bkx.six
            go_wp2_with fail
            refine HT.out.mono ?_
            rintro e w13 ⟨rfl, hb13⟩
            clear HT
            clear r0 r1 r2 r3 r4 r5 r6 r7 r8 r9 r10 r11
            replace hrP2 := hrP2.below hb13
            replace hrS2 := hrS2.below hb13
            replace bky := Blk.below bky hb13
            have hbw4 := Below.next_ hbw3 hbw3.size hb13
            clear hb13 hbw3
            have T := implIsDocument_any (t := td) (c := c) (d := d2) hrP2 hrS2 (by omega) (by omega)
            rw [hq2] at T
            have HT := hide T
            clear T hq2
            obtain ⟨⟨v0, v1, v2⟩, v3, v4, v5⟩ := bky.three
            go_wp2_with fail
            refine HT.out.mono ?_
            rintro e w14 ⟨rfl, hb14⟩
            clear HT
            clear v0 v1 v2 v3 v4 v5
            have hbw5 := Below.next_ hbw4 hbw4.size hb14
            clear hb14 hbw4
            go_wp2_with fail
            refine wp_region_after (by kernel_rfl) (by kernel_rfl) ?_
            repeat (go_big_quiet_step (fail))
            refine wpQuiet_nil ?_
            rintro _ ⟨⟨w15, hb_w15⟩, rfl⟩
            go_wp2_with fail
            go_ret
            exact ⟨rfl, Below.next_ hbw5 hbw5.size hb_w15⟩
          | false =>
            obtain ⟨w14, rfl⟩ : ∃ x, x = w12 := ⟨w12, rfl⟩
            have hbw5 := hbw3
            go_wp2_with fail
            refine wp_region_after (by kernel_rfl) (by kernel_rfl) ?_
            repeat (go_big_quiet_step (fail))
            refine wpQuiet_nil ?_
            rintro _ ⟨⟨w15, hb_w15⟩, rfl⟩
            go_wp2_with fail
            go_ret
            exact ⟨rfl, Below.next_ hbw5 hbw5.size hb_w15⟩
    · clear htI
      have hxz : xbs.length = 0 := by
        have h := HX.out
        unfold redX at h
        rw [if_neg (by rw [HOK.out]; simp)] at h
        rw [RedD.mk.injEq] at h
        rw [← h.2.2.1]
        rfl
      obtain rfl : nbx = 0 := by have h := kr.b.maplen; omega
      clear hxz HX
      have T := implIsDocument_any (t := t) (c := c2) (d := d) hrP hrS (by omega) (by omega)
      rw [HOK.out] at T
      have HT := hide T
      clear T
      obtain ⟨⟨v0, v1, v2⟩, v3, v4, v5⟩ := bkd.three
      go_wp2_with fail
      refine HT.out.mono ?_
      rintro e w7 ⟨rfl, hb7⟩
      clear HT
      clear v0 v1 v2 v3 v4 v5
      replace bkd := Blk.below bkd hb7
      replace bkr := Blk.below bkr hb7
      have hbw7 := Below.next_ hbw6 hbw6.size hb7
      clear hb7 hbw6
      have hn0 : ¬ (0 : Int) < (nm : Int) := by omega
      go_wp2_with fail
      go_loopw [10] (fun i wr => i = .int .i64 0 ∧ wr = w7) (fun i _ => 0)
      case atStart => exact ⟨rfl, rfl⟩
      case round =>
        obtain ⟨rfl, rfl⟩ := hrel
        go_wp2_with fail
        obtain ⟨⟨r0, r1, r2, r3, r4, r5⟩, r6, r7, r8, r9, r10, r11⟩ := bkr.six
        go_loopw [11] (fun i wr_ => i = .int .i64 0 ∧ wr_ = wr) (fun i _ => 0)
        case atStart => exact ⟨rfl, rfl⟩
        case round =>
          obtain ⟨rfl, rfl⟩ := hrel
          go_wp2_with fail
          clear r0 r1 r2 r3 r4 r5 r6 r7 r8 r9 r10 r11
          have hbw0 := hbw7
          refine (DrawIsRedactionOf_any (hr0.below hbw0) hg0 hI0).mono ?_
          rintro e w10 ⟨t2, M2, B2, P2, S2, D2, nm2, nb2, np2, ns2, nd2, cm2, cb2, cp2, cs2, cd2, ms2, bs2, ps2, ss2, ds2, td, Pd, Sd, n, c, d2, pd, sd, rfl, kr2, bd2, hps2, hms2, hn2, hrP2, hrS2, hb10⟩
          have hbw1 := Below.next_ hbw0 hbw0.size hb10
          obtain ⟨W11, hW11⟩ : ∃ y_, (w10.alloc (.cells #[.int .i64 t2, .slice M2 nm2 cm2, .slice B2 nb2 cb2, .slice P2 np2 cp2, .slice S2 ns2 cs2, .slice D2 nd2 cd2] 33)).alloc (.cells #[.int .i64 td, .slice Pd n c, .slice Sd n d2] 27) = y_ := ⟨_, rfl⟩
          have hbA11 : Below w10.heap.size w10 W11 := by rw [← hW11]; repeat (first | exact Below.refl _ _ | assumption | refine Below.next_ ?_ ?_ (by assumption) | refine Below.drew ?_ | refine below_drewN ?_ _ | refine Below.alloc ?_ ?_ _ | refine Below.setCell ?_ ?_ _ | omega | (simp <;> omega) | (simp at * <;> omega))
          have bkx : Blk W11 w10.heap.size [.int .i64 t2, .slice M2 nm2 cm2, .slice B2 nb2 cb2, .slice P2 np2 cp2, .slice S2 ns2 cs2, .slice D2 nd2 cd2] := by rw [← hW11]; exact (Blk.new _ _ _).alloc _
          have bky : Blk W11 (w10.heap.size + 1) [.int .i64 td, .slice Pd n c, .slice Sd n d2] := by rw [← hW11]; exact Blk.new_ _ _ _ (by simp)
          have hz11 := hbA11.size
          have hbw2 := Below.next_ hbw1 hbw1.size hbA11
          replace kr2 := RdR.below kr2 hbA11
          replace hrP2 := hrP2.below hbA11
          replace hrS2 := hrS2.below hbA11
          have HW11 := hide hW11
          clear hW11 hbA11 hb10 hbw0 hbw1
          obtain ⟨ro, hro⟩ : ∃ b, roF (RedD.mk t2 ms2 bs2 ps2 ss2 ds2) td pd sd = b := ⟨_, rfl⟩
          have T := implIsRedactionOf_any (t := t2) (td := td) (cm := cm2) (cb := cb2) (cp := cp2) (cs := cs2) (cd := cd2) (c := c) (d := d2) kr2 hrP2 hrS2 bd2 (by omega) (by omega) hms2
          rw [hro] at T
          have HRO := hide (show ro = true → isRed t2 ms2.length bs2 ps2 ss2 ds2 = true ∧ isDoc td pd sd = true from fun h => ro_ok (hro.trans h))
          have HT := hide T
          have HP2 := hide hps2
          have HL2 := hide kr2.m.len
          clear T hro hps2 hms2
          obtain ⟨⟨r0, r1, r2, r3, r4, r5⟩, r6, r7, r8, r9, r10, r11⟩ := bkx.six
          obtain ⟨⟨v0, v1, v2⟩, v3, v4, v5⟩ := bky.three
          go_upto_region 21 with fail
          rw [HW11.out]
          clear HW11
          go_wp2_with fail
          refine HT.out.mono ?_
          rintro e w12 ⟨rfl, hb12⟩
          clear HT
          clear r0 r1 r2 r3 r4 r5 r6 r7 r8 r9 r10 r11 v0 v1 v2 v3 v4 v5
          replace hrP2 := hrP2.below hb12
          replace hrS2 := hrS2.below hb12
          replace bkx := Blk.below bkx hb12
          replace bky := Blk.below bky hb12
          replace kr2 := RdR.below kr2 hb12
          have hbw3 := Below.next_ hbw2 hbw2.size hb12
          clear hb12 hbw2
          cases ro with
          | true =>
            obtain ⟨hq1, hq2⟩ := HRO.out rfl
            rw [HL2.out] at hq1
            have T := implIsRedacted_any (t := t2) (cm := cm2) (cb := cb2) (cp := cp2) (cs := cs2) (cd := cd2) kr2 (bd2.mono (by omega)) HP2.out
            rw [hq1] at T
            have HT := hide T
            clear T hq1
            obtain ⟨⟨r0, r1, r2, r3, r4, r5⟩, r6, r7, r8, r9, r10, r11⟩ := bkx.six
            go_wp2_with fail
            refine HT.out.mono ?_
            rintro e w13 ⟨rfl, hb13⟩
            clear HT
            clear r0 r1 r2 r3 r4 r5 r6 r7 r8 r9 r10 r11
            replace hrP2 := hrP2.below hb13
            replace hrS2 := hrS2.below hb13
            replace bky := Blk.below bky hb13
            have hbw4 := Below.next_ hbw3 hbw3.size hb13
            clear hb13 hbw3
            have T := implIsDocument_any (t := td) (c := c) (d := d2) hrP2 hrS2 (by omega) (by omega)
            rw [hq2] at T
            have HT := hide T
            clear T hq2
            obtain ⟨⟨v0, v1, v2⟩, v3, v4, v5⟩ := bky.three
            go_wp2_with fail
            refine HT.out.mono ?_
            rintro e w14 ⟨rfl, hb14⟩
            clear HT
            clear v0 v1 v2 v3 v4 v5
            have hbw5 := Below.next_ hbw4 hbw4.size hb14
            clear hb14 hbw4
            go_wp2_with fail
            refine wp_region_after (by kernel_rfl) (by kernel_rfl) ?_
            repeat (go_big_quiet_step (fail))
            refine wpQuiet_nil ?_
            rintro _ ⟨⟨w15, hb_w15⟩, rfl⟩
            go_wp2_with fail
            go_ret
            exact ⟨rfl, Below.next_ hbw5 hbw5.size hb_w15⟩
          | false =>
            obtain ⟨w14, rfl⟩ : ∃ x, x = w12 := ⟨w12, rfl⟩
            have hbw5 := hbw3
            go_wp2_with fail
            refine wp_region_after (by kernel_rfl) (by kernel_rfl) ?_
            repeat (go_big_quiet_step (fail))
            refine wpQuiet_nil ?_
            rintro _ ⟨⟨w15, hb_w15⟩, rfl⟩
            go_wp2_with fail
            go_ret
            exact ⟨rfl, Below.next_ hbw5 hbw5.size hb_w15⟩
theorem lifted (os : Os) (started : os.Started) (H : Type) (enc : TypeId × Value → H) :
    ReturnsInHanded {} Try.checked os 3 .any (Rows.fnRedactionsSpec.pre6 enc Try.prog Try.f3 Rows.fnRedactionsRow.domain false) (Rows.fnRedactionsSpec.post enc Try.prog Try.f3 false true false false) := by
  refine returnsInHanded_of_change (C := Try.checked) own started (by kernel_rfl) Try.func3
    (ChangeSpec.witness6 (enc := enc) (C := Try.checked) false ⟨#[], #[.slice none 0 0], []⟩ 8 (by kernel_rfl) (by kernel_rfl) (by kernel_rfl) (by kernel_rfl)) ?_
  intro W base args ds gs before hval0 hW _ _
  have hval : ∀ (j : Nat) t v, Try.f3.params[j]? = some t → args[j]? = some v → Value.okWide Try.prog W .any base t v := hval0
  have hW' := hW
  obtain ⟨p, q, hA0, hV, rfl, _, _⟩ := hW
  have hA : DataW.TrodAll enc Try.prog W 0 (fun _ => true) true Try.f3.params.toList args.toList ds p := hA0
  have hlt : ∀ x ∈ p, x.block < W.heap.size := fun x hx => hW'.lt x (by simp [hx])
  have hkeep : ∀ W' : World, Below W.heap.size W W' → ∀ sp : Nat → Bool, (∀ x ∈ p ++ q, sp x.block = true) → DataW.TrodAll enc Try.prog W' 0 sp true Try.f3.params.toList args.toList ds p :=
    fun W' hb sp hsp => trodAll_stays laid hb _ _ _ _ (by kernel_rfl) hlt (fun x hx => hsp x (by simp [hx])) hA
  rw [Try.params3] at hA hval
  obtain ⟨v0, vs0, d0, ds0, p0, q0, hargs, rfl, rfl, h0, r0⟩ := trodAll_cons hA
  obtain ⟨rfl, rfl, rfl⟩ := trodAll_nil r0
  obtain rfl : args = #[v0] := by cases args; simp_all
  obtain ⟨rfl, rfl⟩ := trodVars_none hV
  have i0 : InBytes W v0 := InBytes.of (hval 0 22 v0 rfl rfl) h0
  refine (law_any i0 W rfl).mono fun e W' ⟨he, hb⟩ => ?_
  subst he
  exact ⟨_, rfl, post_of_below (pv := []) hW' (fun _ _ _ => (trodAll_cons_mk (shut_bool Try.underlying4 _) trodAll_mk0)) (hkeep W' hb) (fun _ _ => rfl) rfl
    hb (ok_one (by kernel_rfl) rfl (okWide_bool_mk Try.underlying4 _))⟩

theorem over : Rows.fnRedactionsRow.holds Try.pinned (OpenSpec.ofChange Rows.fnRedactionsSpec) :=
  OpenClaim.holds_of_wide 3 Try.f3 rfl rfl rfl rfl rfl rfl rfl ⟨rfl, rfl, rfl, rfl, rfl⟩ rfl rfl rfl rfl rfl (by kernel_rfl) Try.func3 (by kernel_rfl)
    (of_decide_eq_true (by kernel_rfl)) (by unfold Func.isWrapper; first | (rw [if_pos (by decide +kernel)]; kernel_rfl) | (rw [if_neg (by decide +kernel)]; exact ⟨rfl, rfl⟩))
    (fun os started H enc _ => lifted os started H enc)

theorem proved : Rows.FnRedactionsSaid :=
  over
#print axioms proved
end Go.Proofs.Ythjdigiaajdnbaa.lawFnRedactions
