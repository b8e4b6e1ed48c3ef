/- The contract of IsRedactionOf of the program. For rows of at most 2^20 elements, a document's of at most 2^21. -/
import Derived.Test.YthjdigiaajdnbaaRo
import Derived.Test.YthjdigiaajdnbaaRdti
import Derived.Test.YthjdigiaajdnbaaEqI
import Derived.Deep.Cut
import Derived.BigQuiet
namespace Go.Proofs.Ythjdigiaajdnbaa
open Go.RowKit Go.WideShapes Go.ChangeShapes Go.Deep
set_option linter.unusedSimpArgs false
set_option linter.unusedVariables false
set_option maxRecDepth 1000000
set_option maxHeartbeats 16000000 in
theorem implIsRedactionOf_any {t : Int} {M B P S D : Option Addr} {nm nb np ns nd cm cb cp cs cd : Nat} {ms : List Int} {bs : List Bool} {ps : List ByteArray} {ss : List Int} {ds : List (List Int)} {td : Int} {Pd Sd : Option Addr} {n m c d : Nat} {pd : List ByteArray} {sd : List Int} {w : World} (h : RdR w M B P S D nm nb np ns nd ms bs ps ss ds) (h1 : Rd w 1 Pd n (sts pd)) (h2 : Rd w 1 Sd m (ints sd)) (hB : BdR 1048576 nm nb np ns nd ds) (hn : n ≤ 2097152) (hm : m ≤ 2097152) (hMI : ∀ x ∈ ms, I64 x) :
    Calls Try.prog 15 #[reV t M B P S D nm nb np ns nd cm cb cp cs cd, doV td Pd Sd n m c d] w fun e w' => e = .returned (.bool (roF (RedD.mk t ms bs ps ss ds) td pd sd)) ∧ Below w.heap.size w w' := by
  obtain ⟨iInt, hiInt, hzInt0, hzInt1, hzInt2⟩ := info_parts Int_info
  obtain ⟨W1, hW_W1⟩ : ∃ W1, (w.alloc (.cells #[.int .i64 t, .slice M nm cm, .slice B nb cb, .slice P np cp, .slice S ns cs, .slice D nd cd] 33)).alloc (.cells #[.int .i64 td, .slice Pd n c, .slice Sd m d] 27) = W1 := ⟨_, rfl⟩
  have hs_W1 : w.heap.size < W1.heap.size := by rw [← hW_W1]; simp
  have hb_W1 : Below w.heap.size w W1 := by rw [← hW_W1]; repeat (first | exact Below.refl _ _ | assumption | refine Below.next_ ?_ ?_ (by assumption) | refine Below.drew ?_ | refine below_drewN ?_ _ | refine Below.alloc ?_ ?_ _ | refine Below.setCell ?_ ?_ _ | omega | (simp <;> omega) | (simp at * <;> omega))
  have bkR : Blk W1 w.heap.size [.int .i64 t, .slice M nm cm, .slice B nb cb, .slice P np cp, .slice S ns cs, .slice D nd cd] := by rw [← hW_W1]; exact (Blk.new _ _ _).alloc _
  have bkD : Blk W1 (w.heap.size + 1) [.int .i64 td, .slice Pd n c, .slice Sd m d] := by rw [← hW_W1]; exact Blk.new_ _ _ _ (by simp)
  have HW_W1 := hide hW_W1
  clear hW_W1
  have kk := RdR.below h hb_W1
  have k1 := h1.below hb_W1
  have k2 := h2.below hb_W1
  have hb0 := hB.m
  have hb1 := hB.b
  have hb2 := hB.p
  have hb3 := hB.s
  have hb4 := hB.d
  have HBL := hide hB.l
  have HLm := hide kk.m.len
  have HLb := hide kk.b.maplen
  have HLp := hide kk.p.maplen
  have HLs := hide kk.s.len
  have HLd := hide kk.d.len
  have HMI := hide hMI
  clear hMI
  obtain ⟨⟨xt, xms, xbs, xps, xss, xds⟩, hX⟩ : ∃ X, redX ms td pd sd (hidL bs nb) = X := ⟨_, rfl⟩
  obtain ⟨ok, hok_⟩ : ∃ b, isDoc td pd sd = b := ⟨_, rfl⟩
  have hsm : SmallR (RedD.mk xt xms xbs xps xss xds) 1048576 := by
    have h := redX_small ms td pd sd (hidL bs nb)
    rw [hX] at h
    have hl := HLm.out
    exact ⟨by have := h.m; omega, h.b, h.p, h.s, h.d, fun x hx => by have := h.l x hx; omega⟩
  have hxl := redX_len (ms := ms) (t := td) (ps := pd) (ss := sd) (hd := hidL bs nb)
  rw [hX] at hxl
  dsimp only at hxl
  have HXL := hide hxl
  have HXM := hide (show ok = true → xms = ms from fun h => by have H := (redX_ok (ms := ms) (hd := hidL bs nb) (hok_.trans h)).1; rw [hX] at H; exact H)
  have HX := hide hX
  have HOK := hide hok_
  have HSM := hide hsm
  clear hxl hX hok_ hsm
  obtain ⟨⟨x0, x1, x2, x3, x4, x5⟩, f0, f1, f2, f3, f4, f5⟩ := bkR.six
  obtain ⟨⟨y0, y1, y2⟩, g0, g1, g2⟩ := bkD.three
  go_enter Try.func15, Try.ntmps15
  go_wp2_with (first | (rw [HW_W1.out]))
  clear HW_W1
  go_loopw [5, 15] (fun hv i wr => ∃ (k q c' : Nat) (A : Option Addr), k ≤ nb ∧ i = .int .i64 k ∧ hv = .slice A q c' ∧ q ≤ k ∧ wr.ownsRow W1.heap.size 3 1 (.slice A q c') q (ints (hidL bs k)) ∧ Below W1.heap.size W1 wr) (fun _ i _ => nb - (intOf i).toNat)
  case atStart => exact ⟨0, 0, 0, none, Nat.zero_le _, rfl, rfl, Nat.le_refl _, by simpa [hidL, ints] using World.ownsRow_nil _ _ _ _, Below.refl _ _⟩
  case round =>
    clear x0 x1 x2 x3 x4 x5 f0 f1 f2 f3 f4 f5 y0 y1 y2 g0 g1 g2
    obtain ⟨k, q, c', A, hk, rfl, rfl, hqk, ho, hb⟩ := hrel
    have hk0 : (0 : Int) ≤ (k : Int) := by omega
    have hz := hb.size
    have bkR2 := bkR.below hb
    have bkD2 := bkD.below hb
    obtain ⟨⟨x0, x1, x2, x3, x4, x5⟩, f0, f1, f2, f3, f4, f5⟩ := bkR2.six
    obtain ⟨⟨y0, y1, y2⟩, g0, g1, g2⟩ := bkD2.three
    by_cases hlt : k < nb
    · have hkn : (k : Int) < (nb : Int) := by omega
      obtain ⟨ab, b, rfl, hxb, hcb0⟩ := Rd.bl kk.b hlt
      have hcb := keep1 hb hcb0
      cases b with
      | true =>
        have HN := hide (hidL_t hxb)
        clear hxb hcb0
        go_wp2_with fail
        go_roundw
        case rel => exact ⟨k + 1, q, c', A, by omega, by go_num, rfl, by omega, by rw [HN.out]; exact ho, hb⟩
        case measure => simp [intOf]; omega
      | false =>
        have HN := hide (hidL_f hxb)
        clear hxb hcb0
        go_wp2_with (at_builtin; refine wpList_app2 _ rfl (.tmp 22) (.tmp 24) 24 rfl 3 iInt (.int .i64 0) 1 8 Try.underlying24 hiInt hzInt0 hzInt1 hzInt2 rfl (by omega) rfl (ho.alloc _) rfl (Rd.one _ _ _) (ints_one [_]) (by unfold maxLen; omega) (by omega) rfl rfl (hb.alloc hz _) (by simp; omega) (Nat.le_refl _) (by simp; omega) ?_; intro A2 c2 w2 ho2 hb2 hg2 hat2)
        go_roundw
        case rel => exact ⟨k + 1, q + 1, c2, A2, by omega, by go_num, rfl, by omega, by rw [HN.out, ints_snoc]; exact ho2, hb2⟩
        case measure => simp [intOf]; omega
    · obtain rfl : k = nb := by omega
      have hkn : ¬ (k : Int) < (k : Int) := by omega
      go_wp2_with fail
      refine (implRedactDocument_any (kk.m.below hb) (k1.below hb) (k2.below hb) (Rd.of_own ho) (by omega) hn hm (by omega) HMI.out).mono ?_
      intro e w2 hout
      rw [HX.out, HOK.out] at hout
      unfold RrOut at hout
      dsimp only at hout
      obtain ⟨M6, B6, P6, S6, D6, nm6, nb6, np6, ns6, nd6, cm6, cb6, cp6, cs6, cd6, rs6, kx6, rfl, hrl6, hR6, hb6⟩ := hout
      have hz6 := hb6.size
      obtain ⟨bd6, _⟩ := small_of (X := RedD.mk xt xms xbs xps xss xds) hR6 hrl6 HSM.out (by omega)
      clear x0 x1 x2 x3 x4 x5 f0 f1 f2 f3 f4 f5 y0 y1 y2 g0 g1 g2
      have bx0 := bkR2.below hb6
      obtain ⟨W2, hW2⟩ : ∃ x, w2.alloc (.cells #[.int .i64 xt, .slice M6 nm6 cm6, .slice B6 nb6 cb6, .slice P6 np6 cp6, .slice S6 ns6 cs6, .slice D6 nd6 cd6] 33) = x := ⟨_, rfl⟩
      have hbA : Below w2.heap.size w2 W2 := by rw [← hW2]; exact (Below.refl _ _).alloc (Nat.le_refl _) _
      have bkX : Blk W2 w2.heap.size [.int .i64 xt, .slice M6 nm6 cm6, .slice B6 nb6 cb6, .slice P6 np6 cp6, .slice S6 ns6 cs6, .slice D6 nd6 cd6] := by rw [← hW2]; exact Blk.new _ _ _
      have hzA := hbA.size
      have bkR3 := bx0.below hbA
      have HW2 := hide hW2
      clear hW2
      go_upto_region 9 with fail
      rw [HW2.out]
      clear HW2
      have kx := (hR6.rdr hrl6).below hbA
      have kr : RdR W2 M B P S D nm k np ns nd ms bs ps ss ds := RdR.below kk (by repeat (first | exact Below.refl _ _ | assumption | refine Below.next_ ?_ ?_ (by assumption) | refine Below.drew ?_ | refine below_drewN ?_ _ | refine Below.alloc ?_ ?_ _ | refine Below.setCell ?_ ?_ _ | omega | (dsimp only; omega) | (simp <;> omega) | (simp at * <;> omega)))
      have hbw : Below w.heap.size w W2 := by repeat (first | exact Below.refl _ _ | assumption | refine Below.next_ ?_ ?_ (by assumption) | refine Below.drew ?_ | refine below_drewN ?_ _ | refine Below.alloc ?_ ?_ _ | refine Below.setCell ?_ ?_ _ | omega | (dsimp only; omega) | (simp <;> omega) | (simp at * <;> omega))
      obtain ⟨⟨x0, x1, x2, x3, x4, x5⟩, f0, f1, f2, f3, f4, f5⟩ := bkR3.six
      obtain ⟨⟨z0, z1, z2, z3, z4, z5⟩, e0, e1, e2, e3, e4, e5⟩ := bkX.six
      have HM6 := hide kx.m.len
      have HB6 := hide kx.b.maplen
      have HP6 := hide kx.p.maplen
      have HS6 := hide kx.s.len
      have HD6 := hide kx.d.len
      have hnm6 := bd6.m
      have hnb6 := bd6.b
      have hnp6 := bd6.p
      have hns6 := bd6.s
      have hnd6 := bd6.d
      have HBL6 := hide bd6.l
      have hl1_ : np6 = nb6 := by have h1 := HXL.out.1; have h2 := HB6.out; have h3 := HP6.out; omega
      have hl2_ : nd6 = nb6 := by have h1 := HXL.out.1; have h2 := HXL.out.2; have h3 := HP6.out; have h4 := HD6.out; omega
      have hl1 := hide hl1_
      have hl2 := hide hl2_
      clear hl1_ hl2_
      cases ok with
      | false =>
        have hfin := hide (roF_no (r := RedD.mk t ms bs ps ss ds) HOK.out)
        go_wp2_with fail
        go_ret
        exact ⟨ret_b hfin.out.symm, hbw⟩
      | true =>
        have HMS := hide (HXM.out rfl)
        clear HXM
        by_cases e1 : xt = t
        rotate_left
        · have u1 : (xt == t) = false := by simpa using e1
          have u2 : (xt != t) = true := by simpa using e1
          have hfin := hide (show roF (RedD.mk t ms bs ps ss ds) td pd sd = false by
            rw [roF_yes HOK.out HLb.out HX.out, decide_eq_false_iff_not, RedD.mk.injEq]
            rintro ⟨h1, h2, h3, h4, h5, h6⟩
            exact e1 h1)
          clear e1
          go_wp2_with fail
          go_ret
          exact ⟨ret_b hfin.out.symm, by repeat (first | exact Below.refl _ _ | assumption | refine Below.next_ ?_ ?_ (by assumption) | refine Below.drew ?_ | refine below_drewN ?_ _ | refine Below.alloc ?_ ?_ _ | refine Below.setCell ?_ ?_ _ | omega | (dsimp only; omega) | (simp <;> omega) | (simp at * <;> omega))⟩
        obtain rfl : t = xt := e1.symm
        clear e1
        by_cases e2 : nb6 = k
        rotate_left
        · have u1 : ((nb6 : Int) == (k : Int)) = false := by simpa using (by omega : ¬ (nb6 : Int) = k)
          have u2 : ((nb6 : Int) != (k : Int)) = true := by simpa using (by omega : ¬ (nb6 : Int) = k)
          have hfin := hide (show roF (RedD.mk t ms bs ps ss ds) td pd sd = false by
            rw [roF_yes HOK.out HLb.out HX.out, decide_eq_false_iff_not, RedD.mk.injEq]
            rintro ⟨h1, h2, h3, h4, h5, h6⟩
            have g2 := HLb.out; have g6 := HB6.out; rw [h3] at g6; omega)
          clear e2
          go_wp2_with fail
          go_ret
          exact ⟨ret_b hfin.out.symm, by repeat (first | exact Below.refl _ _ | assumption | refine Below.next_ ?_ ?_ (by assumption) | refine Below.drew ?_ | refine below_drewN ?_ _ | refine Below.alloc ?_ ?_ _ | refine Below.setCell ?_ ?_ _ | omega | (dsimp only; omega) | (simp <;> omega) | (simp at * <;> omega))⟩
        obtain rfl : k = nb6 := e2.symm
        clear e2
        by_cases e3 : np = k
        rotate_left
        · have u1 : ((np : Int) == (k : Int)) = false := by simpa using (by omega : ¬ (np : Int) = k)
          have u2 : ((np : Int) != (k : Int)) = true := by simpa using (by omega : ¬ (np : Int) = k)
          have hfin := hide (show roF (RedD.mk t ms bs ps ss ds) td pd sd = false by
            rw [roF_yes HOK.out HLb.out HX.out, decide_eq_false_iff_not, RedD.mk.injEq]
            rintro ⟨h1, h2, h3, h4, h5, h6⟩
            have g1 := HXL.out.1; have g3 := HLp.out; have g2 := HLb.out; rw [h3, h4] at g1; omega)
          clear e3
          go_wp2_with fail
          go_ret
          exact ⟨ret_b hfin.out.symm, by repeat (first | exact Below.refl _ _ | assumption | refine Below.next_ ?_ ?_ (by assumption) | refine Below.drew ?_ | refine below_drewN ?_ _ | refine Below.alloc ?_ ?_ _ | refine Below.setCell ?_ ?_ _ | omega | (dsimp only; omega) | (simp <;> omega) | (simp at * <;> omega))⟩
        obtain rfl : k = np := e3.symm
        clear e3
        by_cases e4 : nd = k
        rotate_left
        · have u1 : ((nd : Int) == (k : Int)) = false := by simpa using (by omega : ¬ (nd : Int) = k)
          have u2 : ((nd : Int) != (k : Int)) = true := by simpa using (by omega : ¬ (nd : Int) = k)
          have hfin := hide (show roF (RedD.mk t ms bs ps ss ds) td pd sd = false by
            rw [roF_yes HOK.out HLb.out HX.out, decide_eq_false_iff_not, RedD.mk.injEq]
            rintro ⟨h1, h2, h3, h4, h5, h6⟩
            have g1 := HXL.out; have g3 := HLd.out; have g2 := HLb.out; rw [h3, h4, h6] at g1; omega)
          clear e4
          go_wp2_with fail
          go_ret
          exact ⟨ret_b hfin.out.symm, by repeat (first | exact Below.refl _ _ | assumption | refine Below.next_ ?_ ?_ (by assumption) | refine Below.drew ?_ | refine below_drewN ?_ _ | refine Below.alloc ?_ ?_ _ | refine Below.setCell ?_ ?_ _ | omega | (dsimp only; omega) | (simp <;> omega) | (simp at * <;> omega))⟩
        obtain rfl : k = nd := e4.symm
        clear e4
        obtain rfl : k = np6 := hl1.out.symm
        obtain rfl : k = nd6 := hl2.out.symm
        clear hl1 hl2
        by_cases e5 : xps = ps
        rotate_left
        · have HTp := hide (show ∀ V : World, Below W2.heap.size W2 V → Calls Try.prog 43 #[.slice P6 k cp6, .slice P k cp] V fun e w' => e = .returned (.bool false) ∧ ∃ q, w' = V.drewN q from fun V hV => by
          have T := equalStrings_any (c := cp6) (d := cp) (kx.p.below hV) (kr.p.below hV) (by omega) (by omega)
          rwa [decide_eq_false e5] at T)
          have hfin := hide (show roF (RedD.mk t ms bs ps ss ds) td pd sd = false by
            rw [roF_yes HOK.out HLb.out HX.out, decide_eq_false_iff_not, RedD.mk.injEq]
            rintro ⟨h1, h2, h3, h4, h5, h6⟩
            exact e5 h4)
          clear e5
          go_wp2_with (first | fail | (go_at_call 43; with_reducible refine (HTp.out _ ?_).mono ?_; (focus (repeat (first | exact Below.refl _ _ | assumption | refine Below.next_ ?_ ?_ (by assumption) | refine Below.drew ?_ | refine below_drewN ?_ _ | refine Below.alloc ?_ ?_ _ | refine Below.setCell ?_ ?_ _ | omega | (dsimp only; omega) | (simp <;> omega) | (simp at * <;> omega)))); rintro e _ ⟨rfl, qp, rfl⟩))
          go_ret
          exact ⟨ret_b hfin.out.symm, by repeat (first | exact Below.refl _ _ | assumption | refine Below.next_ ?_ ?_ (by assumption) | refine Below.drew ?_ | refine below_drewN ?_ _ | refine Below.alloc ?_ ?_ _ | refine Below.setCell ?_ ?_ _ | omega | (dsimp only; omega) | (simp <;> omega) | (simp at * <;> omega))⟩
        have HTp := hide (show ∀ V : World, Below W2.heap.size W2 V → Calls Try.prog 43 #[.slice P6 k cp6, .slice P k cp] V fun e w' => e = .returned (.bool true) ∧ ∃ q, w' = V.drewN q from fun V hV => by
          have T := equalStrings_any (c := cp6) (d := cp) (kx.p.below hV) (kr.p.below hV) (by omega) (by omega)
          rwa [decide_eq_true e5] at T)
        have E5 := hide e5
        clear e5
        by_cases e6 : xss = ss
        rotate_left
        · have HTs := hide (show ∀ V : World, Below W2.heap.size W2 V → Calls Try.prog 44 #[.slice S6 ns6 cs6, .slice S ns cs] V fun e w' => e = .returned (.bool false) ∧ ∃ q, w' = V.drewN q from fun V hV => by
          have T := implEqualInts_any (c := cs6) (d := cs) (kx.s.below hV) (kr.s.below hV) (by omega) (by omega)
          rwa [decide_eq_false e6] at T)
          have hfin := hide (show roF (RedD.mk t ms bs ps ss ds) td pd sd = false by
            rw [roF_yes HOK.out HLb.out HX.out, decide_eq_false_iff_not, RedD.mk.injEq]
            rintro ⟨h1, h2, h3, h4, h5, h6⟩
            exact e6 h5)
          clear e6
          go_wp2_with (first | fail | (go_at_call 43; with_reducible refine (HTp.out _ ?_).mono ?_; (focus (repeat (first | exact Below.refl _ _ | assumption | refine Below.next_ ?_ ?_ (by assumption) | refine Below.drew ?_ | refine below_drewN ?_ _ | refine Below.alloc ?_ ?_ _ | refine Below.setCell ?_ ?_ _ | omega | (dsimp only; omega) | (simp <;> omega) | (simp at * <;> omega)))); rintro e _ ⟨rfl, qp, rfl⟩) | (go_at_call 44; with_reducible refine (HTs.out _ ?_).mono ?_; (focus (repeat (first | exact Below.refl _ _ | assumption | refine Below.next_ ?_ ?_ (by assumption) | refine Below.drew ?_ | refine below_drewN ?_ _ | refine Below.alloc ?_ ?_ _ | refine Below.setCell ?_ ?_ _ | omega | (dsimp only; omega) | (simp <;> omega) | (simp at * <;> omega)))); rintro e _ ⟨rfl, qs, rfl⟩))
          go_ret
          exact ⟨ret_b hfin.out.symm, by repeat (first | exact Below.refl _ _ | assumption | refine Below.next_ ?_ ?_ (by assumption) | refine Below.drew ?_ | refine below_drewN ?_ _ | refine Below.alloc ?_ ?_ _ | refine Below.setCell ?_ ?_ _ | omega | (dsimp only; omega) | (simp <;> omega) | (simp at * <;> omega))⟩
        have HTs := hide (show ∀ V : World, Below W2.heap.size W2 V → Calls Try.prog 44 #[.slice S6 ns6 cs6, .slice S ns cs] V fun e w' => e = .returned (.bool true) ∧ ∃ q, w' = V.drewN q from fun V hV => by
          have T := implEqualInts_any (c := cs6) (d := cs) (kx.s.below hV) (kr.s.below hV) (by omega) (by omega)
          rwa [decide_eq_true e6] at T)
        have E6 := hide e6
        clear e6
        go_wp2_with (first | fail | (go_at_call 43; with_reducible refine (HTp.out _ ?_).mono ?_; (focus (repeat (first | exact Below.refl _ _ | assumption | refine Below.next_ ?_ ?_ (by assumption) | refine Below.drew ?_ | refine below_drewN ?_ _ | refine Below.alloc ?_ ?_ _ | refine Below.setCell ?_ ?_ _ | omega | (dsimp only; omega) | (simp <;> omega) | (simp at * <;> omega)))); rintro e _ ⟨rfl, qp, rfl⟩) | (go_at_call 44; with_reducible refine (HTs.out _ ?_).mono ?_; (focus (repeat (first | exact Below.refl _ _ | assumption | refine Below.next_ ?_ ?_ (by assumption) | refine Below.drew ?_ | refine below_drewN ?_ _ | refine Below.alloc ?_ ?_ _ | refine Below.setCell ?_ ?_ _ | omega | (dsimp only; omega) | (simp <;> omega) | (simp at * <;> omega)))); rintro e _ ⟨rfl, qs, rfl⟩))
        clear HTp HTs
        go_loopw [87] (fun i wr => ∃ j : Nat, j ≤ k ∧ i = .int .i64 j ∧ Hid (xbs.take j = bs.take j ∧ xds.take j = ds.take j) ∧ Below W2.heap.size W2 wr) (fun i _ => k - (intOf i).toNat)
        case atStart => exact ⟨0, Nat.zero_le _, rfl, ⟨rfl, rfl⟩, by repeat (first | exact Below.refl _ _ | assumption | refine Below.next_ ?_ ?_ (by assumption) | refine Below.drew ?_ | refine below_drewN ?_ _ | refine Below.alloc ?_ ?_ _ | refine Below.setCell ?_ ?_ _ | omega | (dsimp only; omega) | (simp <;> omega) | (simp at * <;> omega))⟩
        case round =>
          obtain ⟨w7, rfl⟩ : ∃ x, x = wr := ⟨wr, rfl⟩
          obtain ⟨j, hj, rfl, htk, hbj⟩ := hrel
          have hzj := hbj.size
          have hj0 : (0 : Int) ≤ (j : Int) := by omega
          clear x0 x1 x2 x3 x4 x5 f0 f1 f2 f3 f4 f5 z0 z1 z2 z3 z4 z5 e0 e1 e2 e3 e4 e5
          obtain ⟨⟨u0, u1, u2, u3, u4, u5⟩, f0, f1, f2, f3, f4, f5⟩ := (bkR3.below hbj).six
          obtain ⟨⟨v0, v1, v2, v3, v4, v5⟩, e0, e1, e2, e3, e4, e5⟩ := (bkX.below hbj).six
          by_cases hjl : j < k
          · have hjn : (j : Int) < (k : Int) := by omega
            obtain ⟨ab, b, rfl, hxb, hcb0⟩ := Rd.bl kr.b hjl
            obtain ⟨ad, Bd, md, qd, dl, rfl, hxd, hcd0, hrd0⟩ := kr.d.at_ hjl
            obtain ⟨ab6, b6, rfl, hxb6, hcb60⟩ := Rd.bl kx.b hjl
            obtain ⟨ad6, Bd6, md6, qd6, dl6, rfl, hxd6, hcd60, hrd60⟩ := kx.d.at_ hjl
            have hcb := keep1 hbj hcb0
            have hcd := keep1 hbj hcd0
            have hcb6 := keep1 hbj hcb60
            have hcd6 := keep1 hbj hcd60
            have hm1 : md ≤ 1099511627776 := by have := hrd0.len; have := HBL.out dl (List.mem_of_getElem? hxd); omega
            have hm2 : md6 ≤ 1099511627776 := by have := hrd60.len; have := HBL6.out dl6 (List.mem_of_getElem? hxd6); omega
            have hrd := hrd0.below hbj
            have hrd6 := hrd60.below hbj
            have HXb := hide hxb
            have HXd := hide hxd
            have HXb6 := hide hxb6
            have HXd6 := hide hxd6
            clear hxb hxd hxb6 hxd6 hcb0 hcd0 hcb60 hcd60 hrd0 hrd60
            by_cases e6 : b6 = b
            rotate_left
            · have q1 : (b6 == b) = false := by simpa using e6
              have q2 : (b6 != b) = true := by simpa using e6
              have hfin := hide (show roF (RedD.mk t ms bs ps ss ds) td pd sd = false by
                rw [roF_yes HOK.out HLb.out HX.out, decide_eq_false_iff_not, RedD.mk.injEq]
                rintro ⟨h1, h2, h3, h4, h5, h6⟩
                exact ne_of_at HXb6.out HXb.out e6 h3)
              clear e6
              go_wp2_with fail
              have ha_0 := after_cell u2
              have ha_1 := after_cell u5
              have ha_2 := after_cell v2
              have ha_3 := after_cell v5
              have ha_4 := after_cell hcb
              have ha_5 := after_cell hcb6
              have ha_6 := after_cell hcd
              have ha_7 := after_cell hcd6
              have ha_8 := after_cell_f u2
              have ha_9 := after_cell_f u5
              have ha_10 := after_cell_f v2
              have ha_11 := after_cell_f v5
              refine wp_region_after (by kernel_rfl) (by kernel_rfl) ?_
              repeat (go_big_quiet_step (fail))
              refine wpQuiet_nil ?_
              rintro _ ⟨⟨w5, hb_w5⟩, rfl⟩
              go_wp2_with fail
              go_ret
              exact ⟨ret_b hfin.out.symm, Below.next_ hbw hbw.size (Below.next_ hbj hzj hb_w5)⟩
            subst e6
            have q6 : (b6 != b6) = false := by simp
            by_cases e8 : dl6 = dl
            rotate_left
            · have HT1 := hide (show ∀ V : World, Below w7.heap.size w7 V → Calls Try.prog 44 #[.slice Bd6 md6 qd6, .slice Bd md qd] V fun e w' => e = .returned (.bool false) ∧ ∃ q, w' = V.drewN q from fun V hV => by
                have T := implEqualInts_any (c := qd6) (d := qd) (hrd6.below hV) (hrd.below hV) hm2 hm1
                rwa [decide_eq_false e8] at T)
              have hfin := hide (show roF (RedD.mk t ms bs ps ss ds) td pd sd = false by
                rw [roF_yes HOK.out HLb.out HX.out, decide_eq_false_iff_not, RedD.mk.injEq]
                rintro ⟨h1, h2, h3, h4, h5, h6⟩
                exact ne_of_at HXd6.out HXd.out e8 h6)
              clear e8
              go_wp2_with fail
              have ha_0 := after_cell u2
              have ha_1 := after_cell u5
              have ha_2 := after_cell v2
              have ha_3 := after_cell v5
              have ha_4 := after_cell hcb
              have ha_5 := after_cell hcb6
              have ha_6 := after_cell hcd
              have ha_7 := after_cell hcd6
              have ha_8 := after_cell_f u2
              have ha_9 := after_cell_f u5
              have ha_10 := after_cell_f v2
              have ha_11 := after_cell_f v5
              refine wp_region_after (by kernel_rfl) (by kernel_rfl) ?_
              repeat (go_big_quiet_step ((first | (go_at_call 44; with_reducible refine Calls.after_q (HT1.out _ (After.below _))))))
              refine wpQuiet_nil ?_
              rintro _ ⟨⟨w5, hb_w5⟩, rfl⟩
              go_wp2_with fail
              go_ret
              exact ⟨ret_b hfin.out.symm, Below.next_ hbw hbw.size (Below.next_ hbj hzj hb_w5)⟩
            have HT1 := hide (show ∀ V : World, Below w7.heap.size w7 V → Calls Try.prog 44 #[.slice Bd6 md6 qd6, .slice Bd md qd] V fun e w' => e = .returned (.bool true) ∧ ∃ q, w' = V.drewN q from fun V hV => by
              have T := implEqualInts_any (c := qd6) (d := qd) (hrd6.below hV) (hrd.below hV) hm2 hm1
              rwa [decide_eq_true e8] at T)
            have HST := hide (tk2 htk.out HXb6.out HXb.out HXd6.out (e8 ▸ HXd.out))
            clear e8
            go_wp2_with fail
            have ha_0 := after_cell u2
            have ha_1 := after_cell u5
            have ha_2 := after_cell v2
            have ha_3 := after_cell v5
            have ha_4 := after_cell hcb
            have ha_5 := after_cell hcb6
            have ha_6 := after_cell hcd
            have ha_7 := after_cell hcd6
            have ha_8 := after_cell_f u2
            have ha_9 := after_cell_f u5
            have ha_10 := after_cell_f v2
            have ha_11 := after_cell_f v5
            refine wp_region_after (by kernel_rfl) (by kernel_rfl) ?_
            repeat (go_big_quiet_step ((first | (go_at_call 44; with_reducible refine Calls.after_q (HT1.out _ (After.below _))))))
            refine wpQuiet_nil ?_
            rintro _ ⟨⟨w5, hb_w5⟩, rfl⟩
            go_wp2_with fail
            go_roundw
            case rel => exact ⟨j + 1, by omega, by go_num, HST, Below.next_ hbj hzj hb_w5⟩
            case measure => simp [intOf]; omega
          · obtain rfl : j = k := by omega
            have hjn : ¬ (j : Int) < (j : Int) := by omega
            have F1 := hide (eq_of_takes HB6.out HLb.out htk.out.1)
            have F3 := hide (eq_of_takes HD6.out HLd.out htk.out.2)
            have hfin := hide (show roF (RedD.mk t ms bs ps ss ds) td pd sd = true by
              rw [roF_yes HOK.out HLb.out HX.out, decide_eq_true_iff, RedD.mk.injEq]
              exact ⟨rfl, HMS.out, F1.out, E5.out, E6.out, F3.out⟩)
            go_wp2_with fail
            go_ret
            exact ⟨ret_b hfin.out.symm, by repeat (first | exact Below.refl _ _ | assumption | refine Below.next_ ?_ ?_ (by assumption) | refine Below.drew ?_ | refine below_drewN ?_ _ | refine Below.alloc ?_ ?_ _ | refine Below.setCell ?_ ?_ _ | omega | (dsimp only; omega) | (simp <;> omega) | (simp at * <;> omega))⟩
end Go.Proofs.Ythjdigiaajdnbaa
