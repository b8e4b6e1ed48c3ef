/- A document with another part has another digest (P6). For every input. -/
import Derived.Test.YthjdigiaajdnbaaArgs
import Derived.Test.YthjdigiaajdnbaaPlD
import Derived.Test.YthjdigiaajdnbaaDr6b
import Derived.Test.YthjdigiaajdnbaaMkDi
import Derived.Test.YthjdigiaajdnbaaRpl
import Derived.Test.YthjdigiaajdnbaaDocQ
import Derived.Test.YthjdigiaajdnbaaDocD
import Derived.Deep.Cut
import Derived.BigQuiet
namespace Go.Proofs.Ythjdigiaajdnbaa.lawFnDocuments
open Go.ChangeShapes Go.WideShapes Go.ChangeAt Go.RowKit
set_option maxRecDepth 1000000
set_option linter.unusedSimpArgs false
set_option linter.unusedVariables false
theorem own : ownKnob Try.prog.godebug = none := by kernel_rfl
set_option maxHeartbeats 16000000 in
theorem law_any {v0 : Value} {W : World} (i0 : InBytes W v0) (w : World) (hWw : w = W) :
    Calls Try.prog 5 #[v0] w fun e w' => e = .returned (.bool true) ∧ Below w.heap.size w w' := by
  subst hWw
  obtain ⟨A0, n0, c0, l0, rfl, hn0, hr0, hI0⟩ := i0
  by_cases hg0 : n0 ≤ 1048576
  rotate_left
  · have hg0' : (1048576 : Int) < (n0 : Int) := by omega
    go_enter Try.func5, Try.ntmps5
    go_wp2_with fail
    refine (big_any _).mono ?_
    rintro e _ ⟨rfl, rfl⟩
    go_wp2_with fail
    go_ret
    exact ⟨rfl, by repeat (first | exact Below.refl _ _ | assumption | refine Below.next_ ?_ ?_ (by assumption) | refine Below.drew ?_ | refine below_drewN ?_ _ | refine Below.alloc ?_ ?_ _ | refine Below.setCell ?_ ?_ _ | omega | (dsimp only; omega) | (simp <;> omega) | (simp at * <;> omega))⟩
  have hg0' : ¬ (1048576 : Int) < (n0 : Int) := by omega
  go_enter Try.func5, Try.ntmps5
  go_wp2_with fail
  refine (big_any _).mono ?_
  rintro e _ ⟨rfl, rfl⟩
  go_wp2_with fail
  refine (DrawReplacePart_any hr0 hg0 hI0).mono ?_
  rintro e w1 ⟨t, ps, ss, P, S, k, m, c2, d, i, part, rfl, htI, hk, hm, hps, hss, hi0, hi3, hpt, hoP, hoS, hb1⟩
  have HPS := hide hps
  have HPT := hide hpt
  have hz1 := hb1.size
  clear hps hss hpt
  obtain ⟨W2, hW2⟩ : ∃ x, w1.alloc (.cells #[.int .i64 t, .slice P k c2, .slice S m d] 27) = x := ⟨_, rfl⟩
  have hbAW2 : Below w1.heap.size w1 W2 := by rw [← hW2]; exact (Below.refl _ _).alloc (Nat.le_refl _) _
  have bkd : Blk W2 w1.heap.size [.int .i64 t, .slice P k c2, .slice S m d] := by rw [← hW2]; exact Blk.new _ _ _
  have hzW2 := hbAW2.size
  have HW2 := hide hW2
  clear hW2
  have hrP := (Rd.of_own hoP).below hbAW2
  have hrS := (Rd.of_own hoS).below hbAW2
  have HLP := hide (show ps.length = k from (Rd.of_own hoP).maplen)
  have T := implReplacePart_any (t := t) (i := i) (part := part) (c := c2) (d := d) hrP hrS (by omega) (by omega)
  obtain ⟨ok, hok⟩ : ∃ b, rpOk t ps ss i part = b := ⟨_, rfl⟩
  obtain ⟨pp, hpp⟩ : ∃ b, rpP t ps ss i part = b := ⟨_, rfl⟩
  unfold RpOut at T
  rw [hok, hpp] at T
  have HOK := hide hok
  have HPP := hide hpp
  have HT := hide T
  clear T hok hpp
  go_wp2_with fail
  rw [HW2.out]
  clear HW2
  refine HT.out.mono ?_
  rintro e w3 ⟨P3, S3, c3, d3, rfl, hoP3, hoS3, hap3, hb3⟩
  clear HT hap3
  have hz3 := hb3.size
  replace bkd := Blk.below bkd hb3
  obtain ⟨W4, hW4⟩ : ∃ x, w3.alloc (.cells #[.int .i64 t, .slice P3 k c3, .slice S3 m d3] 27) = x := ⟨_, rfl⟩
  have hbAW4 : Below w3.heap.size w3 W4 := by rw [← hW4]; exact (Below.refl _ _).alloc (Nat.le_refl _) _
  have bkx : Blk W4 w3.heap.size [.int .i64 t, .slice P3 k c3, .slice S3 m d3] := by rw [← hW4]; exact Blk.new _ _ _
  have hzW4 := hbAW4.size
  have HW4 := hide hW4
  clear hW4
  replace bkd := Blk.below bkd hbAW4
  have hbw4 : Below w.heap.size w W4 := by repeat (first | exact Below.refl _ _ | assumption | refine Below.next_ ?_ ?_ (by assumption) | refine Below.drew ?_ | refine below_drewN ?_ _ | refine Below.alloc ?_ ?_ _ | refine Below.setCell ?_ ?_ _ | omega | (dsimp only; omega) | (simp <;> omega) | (simp at * <;> omega))
  replace hrP := (hrP.below hb3).below hbAW4
  replace hrS := (hrS.below hb3).below hbAW4
  have hrP3 := (Rd.of_own hoP3).below hbAW4
  have hrS3 := (Rd.of_own hoS3).below hbAW4
  go_wp2_with fail
  rw [HW4.out]
  clear HW4
  refine (DrawMakeDocument_any (hr0.below hbw4) hg0 hI0).mono ?_
  rintro e w5 ⟨t5, P5, k5, c5, ps5, seed, rfl, ht5, hk5, hps5, hsd, hoP5, hb5⟩
  have HP5 := hide hps5
  clear hps5
  have hz5 := hb5.size
  replace bkd := Blk.below bkd hb5
  replace bkx := Blk.below bkx hb5
  go_wp2_with fail
  have T := implMakeDocument_any (c := c5) (Rd.of_own hoP5) (by omega) ht5 hsd (fun s hs => by have := OkP_size (HP5.out s hs); omega)
  have HLP5 := hide (show ps5.length = k5 from (Rd.of_own hoP5).maplen)
  have HMK := hide (show mdOk t5 ps5 seed = true → mdT t5 ps5 seed = t5 ∧ mdP t5 ps5 seed = ps5 ∧ mdS t5 ps5 seed = saltF t5 seed ps5.length ∧ isDoc t5 ps5 (saltF t5 seed ps5.length) = true from fun h => ⟨(md_yes h).1, (md_yes h).2.1, (md_yes h).2.2, md_doc h⟩)
  unfold MdOut at T
  obtain ⟨mk, hmk⟩ : ∃ b, mdOk t5 ps5 seed = b := ⟨_, rfl⟩
  obtain ⟨mt, hmt⟩ : ∃ b, mdT t5 ps5 seed = b := ⟨_, rfl⟩
  obtain ⟨mp, hmp⟩ : ∃ b, mdP t5 ps5 seed = b := ⟨_, rfl⟩
  obtain ⟨ms, hms⟩ : ∃ b, mdS t5 ps5 seed = b := ⟨_, rfl⟩
  rw [hmk, hmt, hmp, hms] at T
  rw [hmk, hmt, hmp, hms] at HMK
  have HT := hide T
  clear T hmk hmt hmp hms
  refine HT.out.mono ?_
  rintro e w6 ⟨P6, S6, n6, m6, c6, d6, rfl, hoP6, hoS6, hap6, hb6⟩
  clear HT hap6
  have hz6 := hb6.size
  replace bkd := Blk.below bkd hb6
  replace bkx := Blk.below bkx hb6
  obtain ⟨W7, hW7⟩ : ∃ x, w6.alloc (.cells #[.int .i64 mt, .slice P6 n6 c6, .slice S6 m6 d6] 27) = x := ⟨_, rfl⟩
  have hbAW7 : Below w6.heap.size w6 W7 := by rw [← hW7]; exact (Below.refl _ _).alloc (Nat.le_refl _) _
  have bky : Blk W7 w6.heap.size [.int .i64 mt, .slice P6 n6 c6, .slice S6 m6 d6] := by rw [← hW7]; exact Blk.new _ _ _
  have hzW7 := hbAW7.size
  have HW7 := hide hW7
  clear hW7
  replace bkd := Blk.below bkd hbAW7
  replace bkx := Blk.below bkx hbAW7
  have hbw7 : Below w.heap.size w W7 := by repeat (first | exact Below.refl _ _ | assumption | refine Below.next_ ?_ ?_ (by assumption) | refine Below.drew ?_ | refine below_drewN ?_ _ | refine Below.alloc ?_ ?_ _ | refine Below.setCell ?_ ?_ _ | omega | (dsimp only; omega) | (simp <;> omega) | (simp at * <;> omega))
  replace hrP := ((hrP.below hb5).below hb6).below hbAW7
  replace hrS := ((hrS.below hb5).below hb6).below hbAW7
  replace hrP3 := ((hrP3.below hb5).below hb6).below hbAW7
  replace hrS3 := ((hrS3.below hb5).below hb6).below hbAW7
  have hrP6 := (Rd.of_own hoP6).below hbAW7
  have hrS6 := (Rd.of_own hoS6).below hbAW7
  clear hoP hoS hoP3 hoS3 hoP5 hoP6 hoS6 hbAW2 hb3 hbAW4 hb5 hb6 hbAW7 hb1 hbw4
  go_upto_region 7 with fail
  rw [HW7.out]
  clear HW7
  cases mk with
  | true =>
    obtain ⟨e1, e2, e3, e4⟩ := HMK.out rfl
    subst mt mp ms
    obtain rfl : k5 = n6 := by have h1 := hrP6.maplen; have h2 := HLP5.out; omega
    have hm6 : m6 ≤ 4 := by have h1 := hrS6.maplen; have h2 := HLP5.out; rw [saltF_len] at h1; omega
    obtain ⟨sl, hsl⟩ : ∃ x, saltF t5 seed ps5.length = x := ⟨_, rfl⟩
    rw [hsl] at hrS6 e4
    obtain ⟨dg, hdg⟩ : ∃ x, docDig 1 t5 ps5 sl = x := ⟨_, rfl⟩
    have hdg0 : ¬ dg < 0 := by rw [← hdg]; exact docDig_pos e4
    have T := implIsDocument_any (t := t5) (c := c6) (d := d6) hrP6 hrS6 (by omega) (by omega)
    rw [e4] at T
    have HT := hide T
    have HT2 := hide (show ∀ V : World, Below W7.heap.size W7 V → Calls Try.prog 12 #[.int .i64 1, doV t5 P6 S6 k5 m6 c6 d6] V fun e w' => e = .returned (.int .i64 dg) ∧ Below V.heap.size V w' from fun V hV => by
      have T := implDocDigest_any (t := t5) (M := 1) (c := c6) (d := d6) (hrP6.below hV) (hrS6.below hV) (by omega) (by omega) ⟨by omega, by omega⟩
      rwa [hdg] at T)
    clear T hsl hdg e4 HMK
    obtain ⟨⟨y0, y1, y2⟩, y3, y4, y5⟩ := bky.three
    go_wp2_with fail
    refine HT.out.mono ?_
    rintro e w8 ⟨rfl, hb8⟩
    have hz8 := hb8.size
    clear y0 y1 y2 y3 y4 y5
    replace bky := Blk.below bky hb8
    obtain ⟨⟨y0, y1, y2⟩, y3, y4, y5⟩ := bky.three
    go_wp2_with fail
    refine (HT2.out _ hb8).mono ?_
    rintro e w9 ⟨rfl, hb9⟩
    clear HT HT2 y0 y1 y2 y3 y4 y5
    have hb79 := Below.next_ hb8 hb8.size hb9
    replace bkd := Blk.below bkd hb79
    replace bkx := Blk.below bkx hb79
    have hz9 := hb79.size
    have hbw9 := Below.next_ hbw7 hbw7.size hb79
    replace hrP := hrP.below hb79
    replace hrS := hrS.below hb79
    replace hrP3 := hrP3.below hb79
    replace hrS3 := hrS3.below hb79
    clear bky hb8 hb9 hb79 hbw7
    go_upto_region 9 with fail
    have hbw := hbw9
    cases ok with
    | false =>
      have hpe := rp_no HOK.out
      rw [HPP.out] at hpe
      subst hpe
      obtain ⟨⟨x0, x1, x2⟩, x3, x4, x5⟩ := bkx.three
      obtain ⟨⟨v0, v1, v2⟩, v3, v4, v5⟩ := bkd.three
      have T := implEqualDocuments_any (t := t) (t2 := t) (c := c3) (d := d3) (c2 := c2) (d2 := d) hrP3 hrS3 hrP hrS (by omega) (by omega) (by omega) (by omega)
      rw [decide_eq_true (⟨rfl, rfl, rfl⟩ : t = t ∧ pp = pp ∧ ss = ss)] at T
      have HT := hide T
      clear T
      go_wp2_with fail
      refine HT.out.mono ?_
      rintro e w10 ⟨rfl, hb10⟩
      go_wp2_with fail
      go_ret
      exact ⟨rfl, Below.next_ hbw hbw.size hb10⟩
    | true =>
      obtain ⟨_, hil, hdx, hpe⟩ := rp_yes HOK.out
      rw [HPP.out] at hpe
      rw [HLP.out] at hil
      obtain ⟨j, rfl⟩ := Int.eq_ofNat_of_zero_le hi0
      rw [Int.toNat_natCast] at hdx hpe
      subst hpe
      have hj : j < k := by omega
      obtain ⟨aP, old, rfl, hold, hcd0⟩ := Rd.st hrP hj
      obtain ⟨aX, new, rfl, hnew, hcx0⟩ := Rd.st hrP3 hj
      have hne : new = part := by rw [List.getElem?_set_self (get_lt hold)] at hnew; injection hnew with h; exact h.symm
      subst hne
      have HOLD := hide hold
      have HDX := hide hdx
      have hokp := hide (HPS.out old (List.mem_of_getElem? hold))
      have hjk : (j : Int) < (k : Int) := by omega
      obtain ⟨⟨x0, x1, x2⟩, x3, x4, x5⟩ := bkx.three
      obtain ⟨⟨v0, v1, v2⟩, v3, v4, v5⟩ := bkd.three
      clear hold hnew hdx HPP HOK hil hi0 hi3
      by_cases hs : new = old
      · have hset := hide (show ps.set j new = ps by rw [hs]; apply List.ext_getElem?; intro q; rw [List.getElem?_set]; split
                                                     · subst_vars; split
                                                       · exact HOLD.out.symm
                                                       · rename_i h; exact absurd (get_lt HOLD.out) h
                                                     · rfl)
        rw [hset.out] at hrP3
        have HDX2 := HDX.out
        rw [hset.out] at HDX2
        have HDD := hide HDX2
        subst hs
        have q1 : (new.toList == new.toList) = true := by simp
        obtain ⟨dd, hdd⟩ : ∃ x, docDig 2 t ps ss = x := ⟨_, rfl⟩
        have q2 : (dd == dd) = true := by simp
        have q3 : ((new.size : Int) != (new.size : Int)) = false := by simp
        have q4 : ((new.size : Int) == (new.size : Int)) = true := by simp
        clear HDX HDX2 hset
        go_wp2_with fail
        have ha_0 := after_cell x1
        have ha_1 := after_cell v1
        have ha_2 := after_cell hcd0
        have ha_3 := after_cell hcx0
        have ha_4 := after_cell_f x1
        have ha_5 := after_cell_f v1
        refine wp_region_after (by kernel_rfl) (by kernel_rfl) ?_
        repeat (go_big_quiet_step (fail))
        refine wpQuiet_nil ?_
        rintro w11 ⟨⟨w11_, hb_w11⟩, rfl⟩
        go_wp2_with fail
        have hbx11 := hb_w11
        replace bkx := Blk.below bkx hb_w11
        replace bkd := Blk.below bkd hb_w11
        have hcd := keep1 hb_w11 hcd0
        clear x0 x1 x2 x3 x4 x5 v0 v1 v2 v3 v4 v5 hcd0 hcx0
        obtain ⟨⟨x0, x1, x2⟩, x3, x4, x5⟩ := bkx.three
        obtain ⟨⟨v0, v1, v2⟩, v3, v4, v5⟩ := bkd.three
        replace hrP := hrP.below hb_w11
        replace hrS := hrS.below hb_w11
        replace hrP3 := hrP3.below hb_w11
        replace hrS3 := hrS3.below hb_w11
        have HTi := hide (show ∀ V : World, Below w11.heap.size w11 V → Calls Try.prog 10 #[doV t (some aX) S3 k m c3 d3] V fun e w' => e = .returned (.bool true) ∧ Below V.heap.size V w' from fun V hV => by
          have T := implIsDocument_any (t := t) (c := c3) (d := d3) (hrP3.below hV) (hrS3.below hV) (by omega) (by omega)
          rwa [HDD.out] at T)
        have HTe := hide (show ∀ V : World, Below w11.heap.size w11 V → Calls Try.prog 29 #[doV t (some aX) S3 k m c3 d3, doV t (some aP) S k m c2 d] V fun e w' => e = .returned (.bool true) ∧ Below V.heap.size V w' from fun V hV => by
          have T := implEqualDocuments_any (t := t) (t2 := t) (c := c3) (d := d3) (c2 := c2) (d2 := d) (hrP3.below hV) (hrS3.below hV) (hrP.below hV) (hrS.below hV) (by omega) (by omega) (by omega) (by omega)
          rwa [decide_eq_true (⟨rfl, rfl, rfl⟩ : t = t ∧ ps = ps ∧ ss = ss)] at T)
        have HTx := hide (show ∀ V : World, Below w11.heap.size w11 V → Calls Try.prog 12 #[.int .i64 2, doV t (some aX) S3 k m c3 d3] V fun e w' => e = .returned (.int .i64 dd) ∧ Below V.heap.size V w' from fun V hV => by
          have T := implDocDigest_any (t := t) (M := 2) (c := c3) (d := d3) (hrP3.below hV) (hrS3.below hV) (by omega) (by omega) ⟨by omega, by omega⟩
          rwa [hdd] at T)
        have HTd := hide (show ∀ V : World, Below w11.heap.size w11 V → Calls Try.prog 12 #[.int .i64 2, doV t (some aP) S k m c2 d] V fun e w' => e = .returned (.int .i64 dd) ∧ Below V.heap.size V w' from fun V hV => by
          have T := implDocDigest_any (t := t) (M := 2) (c := c2) (d := d) (hrP.below hV) (hrS.below hV) (by omega) (by omega) ⟨by omega, by omega⟩
          rwa [hdd] at T)
        clear hdd HDD HOLD
        go_wp2_with fail
        have ha_0 := after_cell x0
        have ha_1 := after_cell x1
        have ha_2 := after_cell x2
        have ha_3 := after_cell v0
        have ha_4 := after_cell v1
        have ha_5 := after_cell v2
        have ha_6 := after_cell hcd
        have ha_7 := after_cell_f x0
        have ha_8 := after_cell_f x1
        have ha_9 := after_cell_f x2
        have ha_10 := after_cell_f v0
        have ha_11 := after_cell_f v1
        have ha_12 := after_cell_f v2
        refine wp_region_after (by kernel_rfl) (by kernel_rfl) ?_
        repeat (go_big_quiet_step ((first | (go_at_call 10; with_reducible refine Calls.after (HTi.out _ (After.below _))) | (go_at_call 29; with_reducible refine Calls.after (HTe.out _ (After.below _))) | (go_at_call 12; with_reducible refine Calls.after (HTx.out _ (After.below _))) | (go_at_call 12; with_reducible refine Calls.after (HTd.out _ (After.below _))))))
        refine wpQuiet_nil ?_
        rintro _ ⟨⟨w12, hb_w12⟩, rfl⟩
        go_wp2_with fail
        go_ret
        exact ⟨rfl, Below.next_ hbw hbw.size (Below.next_ hb_w11 hb_w11.size hb_w12)⟩
      · have q1 : (new.toList == old.toList) = false := by simpa [ByteArray.toList_eq, ByteArray.ext_iff, Array.ext_iff] using hs
        have hpne := hide (show ps.set j new ≠ ps from fun h => hs (by have h1 := HOLD.out; rw [← h, List.getElem?_set_self (by have := get_lt HOLD.out; exact this)] at h1; injection h1))
        by_cases hsz : old.size = new.size
        · have hdne := hide (dd_law (M := 2) HOLD.out HPT.out hokp.out hsz hs HDX.out)
          obtain ⟨dd, hdd⟩ : ∃ x, docDig 2 t ps ss = x := ⟨_, rfl⟩
          obtain ⟨dx, hdx⟩ : ∃ x, docDig 2 t (ps.set j new) ss = x := ⟨_, rfl⟩
          have q2 : (dx == dd) = false := by have h := hdne.out; rw [hdd, hdx] at h; simpa using h
          have q3 : ((old.size : Int) != (new.size : Int)) = false := by rw [hsz]; simp
          have q4 : ((old.size : Int) == (new.size : Int)) = true := by rw [hsz]; simp
          clear hdne hs
          go_wp2_with fail
          have ha_0 := after_cell x1
          have ha_1 := after_cell v1
          have ha_2 := after_cell hcd0
          have ha_3 := after_cell hcx0
          have ha_4 := after_cell_f x1
          have ha_5 := after_cell_f v1
          refine wp_region_after (by kernel_rfl) (by kernel_rfl) ?_
          repeat (go_big_quiet_step (fail))
          refine wpQuiet_nil ?_
          rintro w11 ⟨⟨w11_, hb_w11⟩, rfl⟩
          go_wp2_with fail
          have hbx11 := hb_w11
          replace bkx := Blk.below bkx hb_w11
          replace bkd := Blk.below bkd hb_w11
          have hcd := keep1 hb_w11 hcd0
          clear x0 x1 x2 x3 x4 x5 v0 v1 v2 v3 v4 v5 hcd0 hcx0
          obtain ⟨⟨x0, x1, x2⟩, x3, x4, x5⟩ := bkx.three
          obtain ⟨⟨v0, v1, v2⟩, v3, v4, v5⟩ := bkd.three
          replace hrP := hrP.below hb_w11
          replace hrS := hrS.below hb_w11
          replace hrP3 := hrP3.below hb_w11
          replace hrS3 := hrS3.below hb_w11
          have HTi := hide (show ∀ V : World, Below w11.heap.size w11 V → Calls Try.prog 10 #[doV t (some aX) S3 k m c3 d3] V fun e w' => e = .returned (.bool true) ∧ Below V.heap.size V w' from fun V hV => by
            have T := implIsDocument_any (t := t) (c := c3) (d := d3) (hrP3.below hV) (hrS3.below hV) (by omega) (by omega)
            rwa [HDX.out] at T)
          have HTe := hide (show ∀ V : World, Below w11.heap.size w11 V → Calls Try.prog 29 #[doV t (some aX) S3 k m c3 d3, doV t (some aP) S k m c2 d] V fun e w' => e = .returned (.bool false) ∧ Below V.heap.size V w' from fun V hV => by
            have T := implEqualDocuments_any (t := t) (t2 := t) (c := c3) (d := d3) (c2 := c2) (d2 := d) (hrP3.below hV) (hrS3.below hV) (hrP.below hV) (hrS.below hV) (by omega) (by omega) (by omega) (by omega)
            rwa [decide_eq_false (fun h => hpne.out h.2.1)] at T)
          have HTx := hide (show ∀ V : World, Below w11.heap.size w11 V → Calls Try.prog 12 #[.int .i64 2, doV t (some aX) S3 k m c3 d3] V fun e w' => e = .returned (.int .i64 dx) ∧ Below V.heap.size V w' from fun V hV => by
            have T := implDocDigest_any (t := t) (M := 2) (c := c3) (d := d3) (hrP3.below hV) (hrS3.below hV) (by omega) (by omega) ⟨by omega, by omega⟩
            rwa [hdx] at T)
          have HTd := hide (show ∀ V : World, Below w11.heap.size w11 V → Calls Try.prog 12 #[.int .i64 2, doV t (some aP) S k m c2 d] V fun e w' => e = .returned (.int .i64 dd) ∧ Below V.heap.size V w' from fun V hV => by
            have T := implDocDigest_any (t := t) (M := 2) (c := c2) (d := d) (hrP.below hV) (hrS.below hV) (by omega) (by omega) ⟨by omega, by omega⟩
            rwa [hdd] at T)
          clear hdd hdx hsz HOLD
          go_wp2_with fail
          have ha_0 := after_cell x0
          have ha_1 := after_cell x1
          have ha_2 := after_cell x2
          have ha_3 := after_cell v0
          have ha_4 := after_cell v1
          have ha_5 := after_cell v2
          have ha_6 := after_cell hcd
          have ha_7 := after_cell_f x0
          have ha_8 := after_cell_f x1
          have ha_9 := after_cell_f x2
          have ha_10 := after_cell_f v0
          have ha_11 := after_cell_f v1
          have ha_12 := after_cell_f v2
          refine wp_region_after (by kernel_rfl) (by kernel_rfl) ?_
          repeat (go_big_quiet_step ((first | (go_at_call 10; with_reducible refine Calls.after (HTi.out _ (After.below _))) | (go_at_call 29; with_reducible refine Calls.after (HTe.out _ (After.below _))) | (go_at_call 12; with_reducible refine Calls.after (HTx.out _ (After.below _))) | (go_at_call 12; with_reducible refine Calls.after (HTd.out _ (After.below _))))))
          refine wpQuiet_nil ?_
          rintro _ ⟨⟨w12, hb_w12⟩, rfl⟩
          go_wp2_with fail
          go_ret
          exact ⟨rfl, Below.next_ hbw hbw.size (Below.next_ hb_w11 hb_w11.size hb_w12)⟩
        · have q3 : ((old.size : Int) != (new.size : Int)) = true := by simpa using (by omega : ¬ (old.size : Int) = (new.size : Int))
          have q4 : ((old.size : Int) == (new.size : Int)) = false := by simpa using (by omega : ¬ (old.size : Int) = (new.size : Int))
          clear hs hsz
          go_wp2_with fail
          have ha_0 := after_cell x1
          have ha_1 := after_cell v1
          have ha_2 := after_cell hcd0
          have ha_3 := after_cell hcx0
          have ha_4 := after_cell_f x1
          have ha_5 := after_cell_f v1
          refine wp_region_after (by kernel_rfl) (by kernel_rfl) ?_
          repeat (go_big_quiet_step (fail))
          refine wpQuiet_nil ?_
          rintro w11 ⟨⟨w11_, hb_w11⟩, rfl⟩
          go_wp2_with fail
          have hbx11 := hb_w11
          replace bkx := Blk.below bkx hb_w11
          replace bkd := Blk.below bkd hb_w11
          have hcd := keep1 hb_w11 hcd0
          clear x0 x1 x2 x3 x4 x5 v0 v1 v2 v3 v4 v5 hcd0 hcx0
          obtain ⟨⟨x0, x1, x2⟩, x3, x4, x5⟩ := bkx.three
          obtain ⟨⟨v0, v1, v2⟩, v3, v4, v5⟩ := bkd.three
          replace hrP := hrP.below hb_w11
          replace hrS := hrS.below hb_w11
          replace hrP3 := hrP3.below hb_w11
          replace hrS3 := hrS3.below hb_w11
          have HTi := hide (show ∀ V : World, Below w11.heap.size w11 V → Calls Try.prog 10 #[doV t (some aX) S3 k m c3 d3] V fun e w' => e = .returned (.bool true) ∧ Below V.heap.size V w' from fun V hV => by
            have T := implIsDocument_any (t := t) (c := c3) (d := d3) (hrP3.below hV) (hrS3.below hV) (by omega) (by omega)
            rwa [HDX.out] at T)
          have HTe := hide (show ∀ V : World, Below w11.heap.size w11 V → Calls Try.prog 29 #[doV t (some aX) S3 k m c3 d3, doV t (some aP) S k m c2 d] V fun e w' => e = .returned (.bool false) ∧ Below V.heap.size V w' from fun V hV => by
            have T := implEqualDocuments_any (t := t) (t2 := t) (c := c3) (d := d3) (c2 := c2) (d2 := d) (hrP3.below hV) (hrS3.below hV) (hrP.below hV) (hrS.below hV) (by omega) (by omega) (by omega) (by omega)
            rwa [decide_eq_false (fun h => hpne.out h.2.1)] at T)
          clear HOLD
          go_wp2_with fail
          have ha_0 := after_cell x0
          have ha_1 := after_cell x1
          have ha_2 := after_cell x2
          have ha_3 := after_cell v0
          have ha_4 := after_cell v1
          have ha_5 := after_cell v2
          have ha_6 := after_cell hcd
          have ha_7 := after_cell_f x0
          have ha_8 := after_cell_f x1
          have ha_9 := after_cell_f x2
          have ha_10 := after_cell_f v0
          have ha_11 := after_cell_f v1
          have ha_12 := after_cell_f v2
          refine wp_region_after (by kernel_rfl) (by kernel_rfl) ?_
          repeat (go_big_quiet_step ((first | (go_at_call 10; with_reducible refine Calls.after (HTi.out _ (After.below _))) | (go_at_call 29; with_reducible refine Calls.after (HTe.out _ (After.below _))))))
          refine wpQuiet_nil ?_
          rintro _ ⟨⟨w12, hb_w12⟩, rfl⟩
          go_wp2_with fail
          go_ret
          exact ⟨rfl, Below.next_ hbw hbw.size (Below.next_ hb_w11 hb_w11.size hb_w12)⟩
  | false =>
    obtain ⟨w9, rfl⟩ : ∃ x, x = W7 := ⟨_, rfl⟩
    obtain ⟨⟨y0, y1, y2⟩, y3, y4, y5⟩ := bky.three
    go_upto_region 9 with fail
    clear y0 y1 y2 y3 y4 y5 bky HMK hrP6 hrS6
    have hbw := hbw7
    cases ok with
    | false =>
      have hpe := rp_no HOK.out
      rw [HPP.out] at hpe
      subst hpe
      obtain ⟨⟨x0, x1, x2⟩, x3, x4, x5⟩ := bkx.three
      obtain ⟨⟨v0, v1, v2⟩, v3, v4, v5⟩ := bkd.three
      have T := implEqualDocuments_any (t := t) (t2 := t) (c := c3) (d := d3) (c2 := c2) (d2 := d) hrP3 hrS3 hrP hrS (by omega) (by omega) (by omega) (by omega)
      rw [decide_eq_true (⟨rfl, rfl, rfl⟩ : t = t ∧ pp = pp ∧ ss = ss)] at T
      have HT := hide T
      clear T
      go_wp2_with fail
      refine HT.out.mono ?_
      rintro e w10 ⟨rfl, hb10⟩
      go_wp2_with fail
      go_ret
      exact ⟨rfl, Below.next_ hbw hbw.size hb10⟩
    | true =>
      obtain ⟨_, hil, hdx, hpe⟩ := rp_yes HOK.out
      rw [HPP.out] at hpe
      rw [HLP.out] at hil
      obtain ⟨j, rfl⟩ := Int.eq_ofNat_of_zero_le hi0
      rw [Int.toNat_natCast] at hdx hpe
      subst hpe
      have hj : j < k := by omega
      obtain ⟨aP, old, rfl, hold, hcd0⟩ := Rd.st hrP hj
      obtain ⟨aX, new, rfl, hnew, hcx0⟩ := Rd.st hrP3 hj
      have hne : new = part := by rw [List.getElem?_set_self (get_lt hold)] at hnew; injection hnew with h; exact h.symm
      subst hne
      have HOLD := hide hold
      have HDX := hide hdx
      have hokp := hide (HPS.out old (List.mem_of_getElem? hold))
      have hjk : (j : Int) < (k : Int) := by omega
      obtain ⟨⟨x0, x1, x2⟩, x3, x4, x5⟩ := bkx.three
      obtain ⟨⟨v0, v1, v2⟩, v3, v4, v5⟩ := bkd.three
      clear hold hnew hdx HPP HOK hil hi0 hi3
      by_cases hs : new = old
      · have hset := hide (show ps.set j new = ps by rw [hs]; apply List.ext_getElem?; intro q; rw [List.getElem?_set]; split
                                                     · subst_vars; split
                                                       · exact HOLD.out.symm
                                                       · rename_i h; exact absurd (get_lt HOLD.out) h
                                                     · rfl)
        rw [hset.out] at hrP3
        have HDX2 := HDX.out
        rw [hset.out] at HDX2
        have HDD := hide HDX2
        subst hs
        have q1 : (new.toList == new.toList) = true := by simp
        obtain ⟨dd, hdd⟩ : ∃ x, docDig 2 t ps ss = x := ⟨_, rfl⟩
        have q2 : (dd == dd) = true := by simp
        have q3 : ((new.size : Int) != (new.size : Int)) = false := by simp
        have q4 : ((new.size : Int) == (new.size : Int)) = true := by simp
        clear HDX HDX2 hset
        go_wp2_with fail
        have ha_0 := after_cell x1
        have ha_1 := after_cell v1
        have ha_2 := after_cell hcd0
        have ha_3 := after_cell hcx0
        have ha_4 := after_cell_f x1
        have ha_5 := after_cell_f v1
        refine wp_region_after (by kernel_rfl) (by kernel_rfl) ?_
        repeat (go_big_quiet_step (fail))
        refine wpQuiet_nil ?_
        rintro w11 ⟨⟨w11_, hb_w11⟩, rfl⟩
        go_wp2_with fail
        have hbx11 := hb_w11
        replace bkx := Blk.below bkx hb_w11
        replace bkd := Blk.below bkd hb_w11
        have hcd := keep1 hb_w11 hcd0
        clear x0 x1 x2 x3 x4 x5 v0 v1 v2 v3 v4 v5 hcd0 hcx0
        obtain ⟨⟨x0, x1, x2⟩, x3, x4, x5⟩ := bkx.three
        obtain ⟨⟨v0, v1, v2⟩, v3, v4, v5⟩ := bkd.three
        replace hrP := hrP.below hb_w11
        replace hrS := hrS.below hb_w11
        replace hrP3 := hrP3.below hb_w11
        replace hrS3 := hrS3.below hb_w11
        have HTi := hide (show ∀ V : World, Below w11.heap.size w11 V → Calls Try.prog 10 #[doV t (some aX) S3 k m c3 d3] V fun e w' => e = .returned (.bool true) ∧ Below V.heap.size V w' from fun V hV => by
          have T := implIsDocument_any (t := t) (c := c3) (d := d3) (hrP3.below hV) (hrS3.below hV) (by omega) (by omega)
          rwa [HDD.out] at T)
        have HTe := hide (show ∀ V : World, Below w11.heap.size w11 V → Calls Try.prog 29 #[doV t (some aX) S3 k m c3 d3, doV t (some aP) S k m c2 d] V fun e w' => e = .returned (.bool true) ∧ Below V.heap.size V w' from fun V hV => by
          have T := implEqualDocuments_any (t := t) (t2 := t) (c := c3) (d := d3) (c2 := c2) (d2 := d) (hrP3.below hV) (hrS3.below hV) (hrP.below hV) (hrS.below hV) (by omega) (by omega) (by omega) (by omega)
          rwa [decide_eq_true (⟨rfl, rfl, rfl⟩ : t = t ∧ ps = ps ∧ ss = ss)] at T)
        have HTx := hide (show ∀ V : World, Below w11.heap.size w11 V → Calls Try.prog 12 #[.int .i64 2, doV t (some aX) S3 k m c3 d3] V fun e w' => e = .returned (.int .i64 dd) ∧ Below V.heap.size V w' from fun V hV => by
          have T := implDocDigest_any (t := t) (M := 2) (c := c3) (d := d3) (hrP3.below hV) (hrS3.below hV) (by omega) (by omega) ⟨by omega, by omega⟩
          rwa [hdd] at T)
        have HTd := hide (show ∀ V : World, Below w11.heap.size w11 V → Calls Try.prog 12 #[.int .i64 2, doV t (some aP) S k m c2 d] V fun e w' => e = .returned (.int .i64 dd) ∧ Below V.heap.size V w' from fun V hV => by
          have T := implDocDigest_any (t := t) (M := 2) (c := c2) (d := d) (hrP.below hV) (hrS.below hV) (by omega) (by omega) ⟨by omega, by omega⟩
          rwa [hdd] at T)
        clear hdd HDD HOLD
        go_wp2_with fail
        have ha_0 := after_cell x0
        have ha_1 := after_cell x1
        have ha_2 := after_cell x2
        have ha_3 := after_cell v0
        have ha_4 := after_cell v1
        have ha_5 := after_cell v2
        have ha_6 := after_cell hcd
        have ha_7 := after_cell_f x0
        have ha_8 := after_cell_f x1
        have ha_9 := after_cell_f x2
        have ha_10 := after_cell_f v0
        have ha_11 := after_cell_f v1
        have ha_12 := after_cell_f v2
        refine wp_region_after (by kernel_rfl) (by kernel_rfl) ?_
        repeat (go_big_quiet_step ((first | (go_at_call 10; with_reducible refine Calls.after (HTi.out _ (After.below _))) | (go_at_call 29; with_reducible refine Calls.after (HTe.out _ (After.below _))) | (go_at_call 12; with_reducible refine Calls.after (HTx.out _ (After.below _))) | (go_at_call 12; with_reducible refine Calls.after (HTd.out _ (After.below _))))))
        refine wpQuiet_nil ?_
        rintro _ ⟨⟨w12, hb_w12⟩, rfl⟩
        go_wp2_with fail
        go_ret
        exact ⟨rfl, Below.next_ hbw hbw.size (Below.next_ hb_w11 hb_w11.size hb_w12)⟩
      · have q1 : (new.toList == old.toList) = false := by simpa [ByteArray.toList_eq, ByteArray.ext_iff, Array.ext_iff] using hs
        have hpne := hide (show ps.set j new ≠ ps from fun h => hs (by have h1 := HOLD.out; rw [← h, List.getElem?_set_self (by have := get_lt HOLD.out; exact this)] at h1; injection h1))
        by_cases hsz : old.size = new.size
        · have hdne := hide (dd_law (M := 2) HOLD.out HPT.out hokp.out hsz hs HDX.out)
          obtain ⟨dd, hdd⟩ : ∃ x, docDig 2 t ps ss = x := ⟨_, rfl⟩
          obtain ⟨dx, hdx⟩ : ∃ x, docDig 2 t (ps.set j new) ss = x := ⟨_, rfl⟩
          have q2 : (dx == dd) = false := by have h := hdne.out; rw [hdd, hdx] at h; simpa using h
          have q3 : ((old.size : Int) != (new.size : Int)) = false := by rw [hsz]; simp
          have q4 : ((old.size : Int) == (new.size : Int)) = true := by rw [hsz]; simp
          clear hdne hs
          go_wp2_with fail
          have ha_0 := after_cell x1
          have ha_1 := after_cell v1
          have ha_2 := after_cell hcd0
          have ha_3 := after_cell hcx0
          have ha_4 := after_cell_f x1
          have ha_5 := after_cell_f v1
          refine wp_region_after (by kernel_rfl) (by kernel_rfl) ?_
          repeat (go_big_quiet_step (fail))
          refine wpQuiet_nil ?_
          rintro w11 ⟨⟨w11_, hb_w11⟩, rfl⟩
          go_wp2_with fail
          have hbx11 := hb_w11
          replace bkx := Blk.below bkx hb_w11
          replace bkd := Blk.below bkd hb_w11
          have hcd := keep1 hb_w11 hcd0
          clear x0 x1 x2 x3 x4 x5 v0 v1 v2 v3 v4 v5 hcd0 hcx0
          obtain ⟨⟨x0, x1, x2⟩, x3, x4, x5⟩ := bkx.three
          obtain ⟨⟨v0, v1, v2⟩, v3, v4, v5⟩ := bkd.three
          replace hrP := hrP.below hb_w11
          replace hrS := hrS.below hb_w11
          replace hrP3 := hrP3.below hb_w11
          replace hrS3 := hrS3.below hb_w11
          have HTi := hide (show ∀ V : World, Below w11.heap.size w11 V → Calls Try.prog 10 #[doV t (some aX) S3 k m c3 d3] V fun e w' => e = .returned (.bool true) ∧ Below V.heap.size V w' from fun V hV => by
            have T := implIsDocument_any (t := t) (c := c3) (d := d3) (hrP3.below hV) (hrS3.below hV) (by omega) (by omega)
            rwa [HDX.out] at T)
          have HTe := hide (show ∀ V : World, Below w11.heap.size w11 V → Calls Try.prog 29 #[doV t (some aX) S3 k m c3 d3, doV t (some aP) S k m c2 d] V fun e w' => e = .returned (.bool false) ∧ Below V.heap.size V w' from fun V hV => by
            have T := implEqualDocuments_any (t := t) (t2 := t) (c := c3) (d := d3) (c2 := c2) (d2 := d) (hrP3.below hV) (hrS3.below hV) (hrP.below hV) (hrS.below hV) (by omega) (by omega) (by omega) (by omega)
            rwa [decide_eq_false (fun h => hpne.out h.2.1)] at T)
          have HTx := hide (show ∀ V : World, Below w11.heap.size w11 V → Calls Try.prog 12 #[.int .i64 2, doV t (some aX) S3 k m c3 d3] V fun e w' => e = .returned (.int .i64 dx) ∧ Below V.heap.size V w' from fun V hV => by
            have T := implDocDigest_any (t := t) (M := 2) (c := c3) (d := d3) (hrP3.below hV) (hrS3.below hV) (by omega) (by omega) ⟨by omega, by omega⟩
            rwa [hdx] at T)
          have HTd := hide (show ∀ V : World, Below w11.heap.size w11 V → Calls Try.prog 12 #[.int .i64 2, doV t (some aP) S k m c2 d] V fun e w' => e = .returned (.int .i64 dd) ∧ Below V.heap.size V w' from fun V hV => by
            have T := implDocDigest_any (t := t) (M := 2) (c := c2) (d := d) (hrP.below hV) (hrS.below hV) (by omega) (by omega) ⟨by omega, by omega⟩
            rwa [hdd] at T)
          clear hdd hdx hsz HOLD
          go_wp2_with fail
          have ha_0 := after_cell x0
          have ha_1 := after_cell x1
          have ha_2 := after_cell x2
          have ha_3 := after_cell v0
          have ha_4 := after_cell v1
          have ha_5 := after_cell v2
          have ha_6 := after_cell hcd
          have ha_7 := after_cell_f x0
          have ha_8 := after_cell_f x1
          have ha_9 := after_cell_f x2
          have ha_10 := after_cell_f v0
          have ha_11 := after_cell_f v1
          have ha_12 := after_cell_f v2
          refine wp_region_after (by kernel_rfl) (by kernel_rfl) ?_
          repeat (go_big_quiet_step ((first | (go_at_call 10; with_reducible refine Calls.after (HTi.out _ (After.below _))) | (go_at_call 29; with_reducible refine Calls.after (HTe.out _ (After.below _))) | (go_at_call 12; with_reducible refine Calls.after (HTx.out _ (After.below _))) | (go_at_call 12; with_reducible refine Calls.after (HTd.out _ (After.below _))))))
          refine wpQuiet_nil ?_
          rintro _ ⟨⟨w12, hb_w12⟩, rfl⟩
          go_wp2_with fail
          go_ret
          exact ⟨rfl, Below.next_ hbw hbw.size (Below.next_ hb_w11 hb_w11.size hb_w12)⟩
        · have q3 : ((old.size : Int) != (new.size : Int)) = true := by simpa using (by omega : ¬ (old.size : Int) = (new.size : Int))
          have q4 : ((old.size : Int) == (new.size : Int)) = false := by simpa using (by omega : ¬ (old.size : Int) = (new.size : Int))
          clear hs hsz
          go_wp2_with fail
          have ha_0 := after_cell x1
          have ha_1 := after_cell v1
          have ha_2 := after_cell hcd0
          have ha_3 := after_cell hcx0
          have ha_4 := after_cell_f x1
          have ha_5 := after_cell_f v1
          refine wp_region_after (by kernel_rfl) (by kernel_rfl) ?_
          repeat (go_big_quiet_step (fail))
          refine wpQuiet_nil ?_
          rintro w11 ⟨⟨w11_, hb_w11⟩, rfl⟩
          go_wp2_with fail
          have hbx11 := hb_w11
          replace bkx := Blk.below bkx hb_w11
          replace bkd := Blk.below bkd hb_w11
          have hcd := keep1 hb_w11 hcd0
          clear x0 x1 x2 x3 x4 x5 v0 v1 v2 v3 v4 v5 hcd0 hcx0
          obtain ⟨⟨x0, x1, x2⟩, x3, x4, x5⟩ := bkx.three
          obtain ⟨⟨v0, v1, v2⟩, v3, v4, v5⟩ := bkd.three
          replace hrP := hrP.below hb_w11
          replace hrS := hrS.below hb_w11
          replace hrP3 := hrP3.below hb_w11
          replace hrS3 := hrS3.below hb_w11
          have HTi := hide (show ∀ V : World, Below w11.heap.size w11 V → Calls Try.prog 10 #[doV t (some aX) S3 k m c3 d3] V fun e w' => e = .returned (.bool true) ∧ Below V.heap.size V w' from fun V hV => by
            have T := implIsDocument_any (t := t) (c := c3) (d := d3) (hrP3.below hV) (hrS3.below hV) (by omega) (by omega)
            rwa [HDX.out] at T)
          have HTe := hide (show ∀ V : World, Below w11.heap.size w11 V → Calls Try.prog 29 #[doV t (some aX) S3 k m c3 d3, doV t (some aP) S k m c2 d] V fun e w' => e = .returned (.bool false) ∧ Below V.heap.size V w' from fun V hV => by
            have T := implEqualDocuments_any (t := t) (t2 := t) (c := c3) (d := d3) (c2 := c2) (d2 := d) (hrP3.below hV) (hrS3.below hV) (hrP.below hV) (hrS.below hV) (by omega) (by omega) (by omega) (by omega)
            rwa [decide_eq_false (fun h => hpne.out h.2.1)] at T)
          clear HOLD
          go_wp2_with fail
          have ha_0 := after_cell x0
          have ha_1 := after_cell x1
          have ha_2 := after_cell x2
          have ha_3 := after_cell v0
          have ha_4 := after_cell v1
          have ha_5 := after_cell v2
          have ha_6 := after_cell hcd
          have ha_7 := after_cell_f x0
          have ha_8 := after_cell_f x1
          have ha_9 := after_cell_f x2
          have ha_10 := after_cell_f v0
          have ha_11 := after_cell_f v1
          have ha_12 := after_cell_f v2
          refine wp_region_after (by kernel_rfl) (by kernel_rfl) ?_
          repeat (go_big_quiet_step ((first | (go_at_call 10; with_reducible refine Calls.after (HTi.out _ (After.below _))) | (go_at_call 29; with_reducible refine Calls.after (HTe.out _ (After.below _))))))
          refine wpQuiet_nil ?_
          rintro _ ⟨⟨w12, hb_w12⟩, rfl⟩
          go_wp2_with fail
          go_ret
          exact ⟨rfl, Below.next_ hbw hbw.size (Below.next_ hb_w11 hb_w11.size hb_w12)⟩
theorem lifted (os : Os) (started : os.Started) (H : Type) (enc : TypeId × Value → H) :
    ReturnsInHanded {} Try.checked os 5 .any (Rows.fnDocumentsSpec.pre6 enc Try.prog Try.f5 Rows.fnDocumentsRow.domain false) (Rows.fnDocumentsSpec.post enc Try.prog Try.f5 false true false false) := by
  refine returnsInHanded_of_change (C := Try.checked) own started (by kernel_rfl) Try.func5
    (ChangeSpec.witness6 (enc := enc) (C := Try.checked) false ⟨#[], #[.slice none 0 0], []⟩ 8 (by kernel_rfl) (by kernel_rfl) (by kernel_rfl) (by kernel_rfl)) ?_
  intro W base args ds gs before hval0 hW _ _
  have hval : ∀ (j : Nat) t v, Try.f5.params[j]? = some t → args[j]? = some v → Value.okWide Try.prog W .any base t v := hval0
  have hW' := hW
  obtain ⟨p, q, hA0, hV, rfl, _, _⟩ := hW
  have hA : DataW.TrodAll enc Try.prog W 0 (fun _ => true) true Try.f5.params.toList args.toList ds p := hA0
  have hlt : ∀ x ∈ p, x.block < W.heap.size := fun x hx => hW'.lt x (by simp [hx])
  have hkeep : ∀ W' : World, Below W.heap.size W W' → ∀ sp : Nat → Bool, (∀ x ∈ p ++ q, sp x.block = true) → DataW.TrodAll enc Try.prog W' 0 sp true Try.f5.params.toList args.toList ds p :=
    fun W' hb sp hsp => trodAll_stays laid hb _ _ _ _ (by kernel_rfl) hlt (fun x hx => hsp x (by simp [hx])) hA
  rw [Try.params5] at hA hval
  obtain ⟨v0, vs0, d0, ds0, p0, q0, hargs, rfl, rfl, h0, r0⟩ := trodAll_cons hA
  obtain ⟨rfl, rfl, rfl⟩ := trodAll_nil r0
  obtain rfl : args = #[v0] := by cases args; simp_all
  obtain ⟨rfl, rfl⟩ := trodVars_none hV
  have i0 : InBytes W v0 := InBytes.of (hval 0 22 v0 rfl rfl) h0
  refine (law_any i0 W rfl).mono fun e W' ⟨he, hb⟩ => ?_
  subst he
  exact ⟨_, rfl, post_of_below (pv := []) hW' (fun _ _ _ => (trodAll_cons_mk (shut_bool Try.underlying4 _) trodAll_mk0)) (hkeep W' hb) (fun _ _ => rfl) rfl
    hb (ok_one (by kernel_rfl) rfl (okWide_bool_mk Try.underlying4 _))⟩

theorem over : Rows.fnDocumentsRow.holds Try.pinned (OpenSpec.ofChange Rows.fnDocumentsSpec) :=
  OpenClaim.holds_of_wide 5 Try.f5 rfl rfl rfl rfl rfl rfl rfl ⟨rfl, rfl, rfl, rfl, rfl⟩ rfl rfl rfl rfl rfl (by kernel_rfl) Try.func5 (by kernel_rfl)
    (of_decide_eq_true (by kernel_rfl)) (by unfold Func.isWrapper; first | (rw [if_pos (by decide +kernel)]; kernel_rfl) | (rw [if_neg (by decide +kernel)]; exact ⟨rfl, rfl⟩))
    (fun os started H enc _ => lifted os started H enc)

theorem proved : Rows.FnDocumentsSaid :=
  over
#print axioms proved
end Go.Proofs.Ythjdigiaajdnbaa.lawFnDocuments
