/- The contract of IsRedactionOf of the reference. For rows of at most 2^20 elements, a document's of at most 2^21. -/
import Derived.Test.YthjdigiaajdnbaaRo
import Derived.Test.YthjdigiaajdnbaaRdts
import Derived.Test.YthjdigiaajdnbaaL7
import Derived.Deep.Cut
namespace Go.Proofs.Ythjdigiaajdnbaa
open Go.RowKit Go.WideShapes Go.ChangeShapes Go.Deep
set_option linter.unusedSimpArgs false
set_option linter.unusedVariables false
set_option maxRecDepth 1000000
set_option maxHeartbeats 16000000 in
theorem specIsRedactionOf_any {t : Int} {M B P S D : Option Addr} {nm nb np ns nd cm cb cp cs cd : Nat} {ms : List Int} {bs : List Bool} {ps : List ByteArray} {ss : List Int} {ds : List (List Int)} {td : Int} {Pd Sd : Option Addr} {n m c d : Nat} {pd : List ByteArray} {sd : List Int} {w : World} (h : RdR w M B P S D nm nb np ns nd ms bs ps ss ds) (h1 : Rd w 1 Pd n (sts pd)) (h2 : Rd w 1 Sd m (ints sd)) (hB : BdR 1048576 nm nb np ns nd ds) (hn : n ≤ 2097152) (hm : m ≤ 2097152) (hMI : ∀ x ∈ ms, I64 x) :
    Calls Try.prog 20 #[reV t M B P S D nm nb np ns nd cm cb cp cs cd, doV td Pd Sd n m c d] w fun e w' => e = .returned (.bool (roF (RedD.mk t ms bs ps ss ds) td pd sd)) ∧ Below w.heap.size w w' := by
  obtain ⟨iInt, hiInt, hzInt0, hzInt1, hzInt2⟩ := info_parts Int_info
  obtain ⟨W1, hW_W1⟩ : ∃ W1, (w.alloc (.cells #[.int .i64 t, .slice M nm cm, .slice B nb cb, .slice P np cp, .slice S ns cs, .slice D nd cd] 33)).alloc (.cells #[.int .i64 td, .slice Pd n c, .slice Sd m d] 27) = W1 := ⟨_, rfl⟩
  have hs_W1 : w.heap.size < W1.heap.size := by rw [← hW_W1]; simp
  have hb_W1 : Below w.heap.size w W1 := by rw [← hW_W1]; repeat (first | exact Below.refl _ _ | assumption | refine Below.next_ ?_ ?_ (by assumption) | refine Below.drew ?_ | refine below_drewN ?_ _ | refine Below.alloc ?_ ?_ _ | refine Below.setCell ?_ ?_ _ | omega | (simp <;> omega) | (simp at * <;> omega))
  have bkR : Blk W1 w.heap.size [.int .i64 t, .slice M nm cm, .slice B nb cb, .slice P np cp, .slice S ns cs, .slice D nd cd] := by rw [← hW_W1]; exact (Blk.new _ _ _).alloc _
  have bkD : Blk W1 (w.heap.size + 1) [.int .i64 td, .slice Pd n c, .slice Sd m d] := by rw [← hW_W1]; exact Blk.new_ _ _ _ (by simp)
  have HW_W1 := hide hW_W1
  clear hW_W1
  have kk := RdR.below h hb_W1
  have k1 := h1.below hb_W1
  have k2 := h2.below hb_W1
  have hb0 := hB.m
  have hb1 := hB.b
  have hb2 := hB.p
  have hb3 := hB.s
  have hb4 := hB.d
  have HBL := hide hB.l
  have HLm := hide kk.m.len
  have HLb := hide kk.b.maplen
  have HLp := hide kk.p.maplen
  have HLs := hide kk.s.len
  have HLd := hide kk.d.len
  have HMI := hide hMI
  clear hMI
  obtain ⟨X, hX⟩ : ∃ X, redX ms td pd sd (hidL bs nb) = X := ⟨_, rfl⟩
  obtain ⟨ok, hok_⟩ : ∃ b, isDoc td pd sd = b := ⟨_, rfl⟩
  have hsm : SmallR X 1048576 := by
    have h := redX_small ms td pd sd (hidL bs nb)
    rw [hX] at h
    have hl := HLm.out
    exact ⟨by have := h.m; omega, h.b, h.p, h.s, h.d, fun x hx => by have := h.l x hx; omega⟩
  have hxl := redX_len (ms := ms) (t := td) (ps := pd) (ss := sd) (hd := hidL bs nb)
  rw [hX] at hxl
  have HXL := hide hxl
  have HXM := hide (show ok = true → X.ms = ms from fun h => by have H := (redX_ok (ms := ms) (hd := hidL bs nb) (hok_.trans h)).1; rw [hX] at H; exact H)
  have HX := hide hX
  have HOK := hide hok_
  have HSM := hide hsm
  clear hxl hX hok_ hsm
  obtain ⟨⟨x0, x1, x2, x3, x4, x5⟩, f0, f1, f2, f3, f4, f5⟩ := bkR.six
  obtain ⟨⟨y0, y1, y2⟩, g0, g1, g2⟩ := bkD.three
  go_enter Try.func20, Try.ntmps20
  go_wp2_with (first | (rw [HW_W1.out]))
  clear HW_W1
  have ho0 := World.ownsRow_lit (base := W1.heap.size) (e := 3) (size := 1) W1 #[] 0 (Nat.le_refl _) (by unfold maxLen; omega) rfl
  have hbb0 : Below W1.heap.size W1 (W1.alloc (.cells #[] 3)) := (Below.refl _ _).alloc (Nat.le_refl _) _
  go_loopw [5, 6] (fun hv i wr => ∃ (k q c' : Nat) (A : Option Addr), k ≤ nb ∧ i = .int .i64 k ∧ hv = .slice A q c' ∧ q ≤ k ∧ wr.ownsRow W1.heap.size 3 1 (.slice A q c') q (ints (hidL bs k)) ∧ Below W1.heap.size W1 wr) (fun _ i _ => nb - (intOf i).toNat)
  case atStart => exact ⟨0, 0, _, _, Nat.zero_le _, rfl, rfl, Nat.le_refl _, by simpa [hidL, ints] using ho0, hbb0⟩
  case round =>
    clear x0 x1 x2 x3 x4 x5 f0 f1 f2 f3 f4 f5 y0 y1 y2 g0 g1 g2 ho0 hbb0
    obtain ⟨k, q, c', A, hk, rfl, rfl, hqk, ho, hb⟩ := hrel
    have hk0 : (0 : Int) ≤ (k : Int) := by omega
    have hz := hb.size
    have bkR2 := bkR.below hb
    have bkD2 := bkD.below hb
    obtain ⟨⟨x0, x1, x2, x3, x4, x5⟩, f0, f1, f2, f3, f4, f5⟩ := bkR2.six
    obtain ⟨⟨y0, y1, y2⟩, g0, g1, g2⟩ := bkD2.three
    by_cases hlt : k < nb
    · have hkn : (k : Int) < (nb : Int) := by omega
      obtain ⟨ab, b, rfl, hxb, hcb0⟩ := Rd.bl kk.b hlt
      have hcb := keep1 hb hcb0
      cases b with
      | true =>
        have HN := hide (hidL_t hxb)
        clear hxb hcb0
        go_wp2_with fail
        go_roundw
        case rel => exact ⟨k + 1, q, c', A, by omega, by go_num, rfl, by omega, by rw [HN.out]; exact ho, hb⟩
        case measure => simp [intOf]; omega
      | false =>
        have HN := hide (hidL_f hxb)
        clear hxb hcb0
        go_wp2_with (at_builtin; refine wpList_app2 _ rfl (.tmp 23) (.tmp 25) 24 rfl 3 iInt (.int .i64 0) 1 8 Try.underlying24 hiInt hzInt0 hzInt1 hzInt2 rfl (by omega) rfl (ho.alloc _) rfl (Rd.one _ _ _) (ints_one [_]) (by unfold maxLen; omega) (by omega) rfl rfl (hb.alloc hz _) (by simp; omega) (Nat.le_refl _) (by simp; omega) ?_; intro A2 c2 w2 ho2 hb2 hg2 hat2)
        go_roundw
        case rel => exact ⟨k + 1, q + 1, c2, A2, by omega, by go_num, rfl, by omega, by rw [HN.out, ints_snoc]; exact ho2, hb2⟩
        case measure => simp [intOf]; omega
    · obtain rfl : k = nb := by omega
      have hkn : ¬ (k : Int) < (k : Int) := by omega
      go_wp2_with fail
      refine (specRedactDocument_any (kk.m.below hb) (k1.below hb) (k2.below hb) (Rd.of_own ho) (by omega) hn hm (by omega) HMI.out).mono ?_
      intro e w2 hout
      rw [HX.out, HOK.out] at hout
      obtain ⟨M6, B6, P6, S6, D6, nm6, nb6, np6, ns6, nd6, cm6, cb6, cp6, cs6, cd6, rs6, kx6, rfl, hrl6, hR6, hb6⟩ := hout
      have hz6 := hb6.size
      obtain ⟨bd6, _⟩ := small_of hR6 hrl6 HSM.out (by omega)
      clear x0 x1 x2 x3 x4 x5 f0 f1 f2 f3 f4 f5 y0 y1 y2 g0 g1 g2
      have bx0 := bkR2.below hb6
      obtain ⟨W2, hW2⟩ : ∃ x, w2.alloc (.cells #[.int .i64 X.t, .slice M6 nm6 cm6, .slice B6 nb6 cb6, .slice P6 np6 cp6, .slice S6 ns6 cs6, .slice D6 nd6 cd6] 33) = x := ⟨_, rfl⟩
      have hbA : Below w2.heap.size w2 W2 := by rw [← hW2]; exact (Below.refl _ _).alloc (Nat.le_refl _) _
      have bkX : Blk W2 w2.heap.size [.int .i64 X.t, .slice M6 nm6 cm6, .slice B6 nb6 cb6, .slice P6 np6 cp6, .slice S6 ns6 cs6, .slice D6 nd6 cd6] := by rw [← hW2]; exact Blk.new _ _ _
      have hzA := hbA.size
      have bkR3 := bx0.below hbA
      have HW2 := hide hW2
      clear hW2
      go_upto_region 8 with fail
      rw [HW2.out]
      clear HW2
      have kx := (hR6.rdr hrl6).below hbA
      have kr : RdR W2 M B P S D nm k np ns nd ms bs ps ss ds := RdR.below kk (by repeat (first | exact Below.refl _ _ | assumption | refine Below.next_ ?_ ?_ (by assumption) | refine Below.drew ?_ | refine below_drewN ?_ _ | refine Below.alloc ?_ ?_ _ | refine Below.setCell ?_ ?_ _ | omega | (dsimp only; omega) | (simp <;> omega) | (simp at * <;> omega)))
      have hbw : Below w.heap.size w W2 := by repeat (first | exact Below.refl _ _ | assumption | refine Below.next_ ?_ ?_ (by assumption) | refine Below.drew ?_ | refine below_drewN ?_ _ | refine Below.alloc ?_ ?_ _ | refine Below.setCell ?_ ?_ _ | omega | (dsimp only; omega) | (simp <;> omega) | (simp at * <;> omega))
      obtain ⟨⟨x0, x1, x2, x3, x4, x5⟩, f0, f1, f2, f3, f4, f5⟩ := bkR3.six
      obtain ⟨⟨z0, z1, z2, z3, z4, z5⟩, e0, e1, e2, e3, e4, e5⟩ := bkX.six
      have HM6 := hide kx.m.len
      have HB6 := hide kx.b.maplen
      have HP6 := hide kx.p.maplen
      have HS6 := hide kx.s.len
      have HD6 := hide kx.d.len
      have hnm6 := bd6.m
      have hnb6 := bd6.b
      have hnp6 := bd6.p
      have hns6 := bd6.s
      have hnd6 := bd6.d
      have HBL6 := hide bd6.l
      have hl1_ : np6 = nb6 := by have h1 := HXL.out.1; have h2 := HB6.out; have h3 := HP6.out; omega
      have hl2_ : nd6 = nb6 := by have h1 := HXL.out.1; have h2 := HXL.out.2; have h3 := HP6.out; have h4 := HD6.out; omega
      have hl1 := hide hl1_
      have hl2 := hide hl2_
      clear hl1_ hl2_
      cases ok with
      | false =>
        have hfin := hide (roF_no (r := RedD.mk t ms bs ps ss ds) HOK.out)
        go_wp2_with fail
        go_ret
        exact ⟨ret_b hfin.out.symm, hbw⟩
      | true =>
        by_cases q3 : np = k
        rotate_left
        · have u1 : ((np : Int) == (k : Int)) = false := by simpa using (by omega : ¬ (np : Int) = k)
          have hfin := hide (show roF (RedD.mk t ms bs ps ss ds) td pd sd = false by
            rw [roF_yes HOK.out HLb.out HX.out, decide_eq_false_iff_not]
            intro h
            have h1 := HXL.out.1
            rw [h] at h1
            have h2 := HLb.out
            have h3 := HLp.out
            dsimp only at h1
            omega)
          clear q3
          go_wp2_with fail
          go_ret
          exact ⟨ret_b hfin.out.symm, hbw⟩
        subst q3
        by_cases q5 : nd = np
        rotate_left
        · have u1 : ((nd : Int) == (np : Int)) = false := by simpa using (by omega : ¬ (nd : Int) = np)
          have u2 : ((np : Int) == (np : Int)) = true := by simp
          have hfin := hide (show roF (RedD.mk t ms bs ps ss ds) td pd sd = false by
            rw [roF_yes HOK.out HLb.out HX.out, decide_eq_false_iff_not]
            intro h
            have h1 := HXL.out
            rw [h] at h1
            have h2 := HLb.out
            have h3 := HLd.out
            have h4 := HLp.out
            dsimp only at h1
            omega)
          clear q5
          go_wp2_with fail
          go_ret
          exact ⟨ret_b hfin.out.symm, hbw⟩
        subst q5
        have u1 : ((nd : Int) == (nd : Int)) = true := by simp
        have T := l7Equal_any (t := X.t) (cm := cm6) (cb := cb6) (cp := cp6) (cs := cs6) (cd := cd6) (t2 := t) (cm2 := cm) (cb2 := cb) (cp2 := cp) (cs2 := cs) (cd2 := cd) kx kr bd6 (hB.mono (by omega)) hl1.out hl2.out
        rw [show decide (RedD.mk X.t X.ms X.bs X.ps X.ss X.ds = RedD.mk t ms bs ps ss ds) = roF (RedD.mk t ms bs ps ss ds) td pd sd from (roF_yes HOK.out HLb.out HX.out).symm] at T
        have HT := hide T
        clear T
        go_wp2_with fail
        refine HT.out.mono ?_
        rintro e w3 ⟨rfl, hb3⟩
        go_wp2_with fail
        go_ret
        exact ⟨rfl, by repeat (first | exact Below.refl _ _ | assumption | refine Below.next_ ?_ ?_ (by assumption) | refine Below.drew ?_ | refine below_drewN ?_ _ | refine Below.alloc ?_ ?_ _ | refine Below.setCell ?_ ?_ _ | omega | (dsimp only; omega) | (simp <;> omega) | (simp at * <;> omega))⟩
end Go.Proofs.Ythjdigiaajdnbaa
