/- The contract of RedactDocument of the program. For rows of at most 2^20 elements. -/
import Derived.Test.YthjdigiaajdnbaaRdt
import Derived.Test.YthjdigiaajdnbaaTail
import Derived.Test.YthjdigiaajdnbaaEnc
import Derived.Test.YthjdigiaajdnbaaCpy
import Derived.Test.YthjdigiaajdnbaaStep
import Derived.Deep.Cut
import Derived.Deep.CutRange
import Derived.Deep.RegionHeld3
namespace Go.Proofs.Ythjdigiaajdnbaa
open Go.RowKit Go.WideShapes Go.ChangeShapes Go.Deep
set_option linter.unusedSimpArgs false
set_option linter.unusedVariables false
set_option maxRecDepth 1000000
set_option maxHeartbeats 16000000 in
theorem implRedactDocument_any {Mo P S Ho : Option Addr} {nm cm n m c d nh ch : Nat} {t : Int} {ms hd : List Int} {ps : List ByteArray} {ss : List Int} {w : World} (hM : Rd w 1 Mo nm (ints ms)) (h1 : Rd w 1 P n (sts ps)) (h2 : Rd w 1 S m (ints ss)) (hH : Rd w 1 Ho nh (ints hd)) (hnm : nm ≤ 2097152) (hn : n ≤ 2097152) (hm : m ≤ 2097152) (hnh : nh ≤ 2097152) (hMI : ∀ x ∈ ms, I64 x) :
    Calls Try.prog 8 #[.slice Mo nm cm, doV t P S n m c d, .slice Ho nh ch] w fun e w' => RrOut w w' e (isDoc t ps ss) (redX ms t ps ss hd) := by
  obtain ⟨iString, hiString, hzString0, hzString1, hzString2⟩ := info_parts String_info
  obtain ⟨iInt, hiInt, hzInt0, hzInt1, hzInt2⟩ := info_parts Int_info
  obtain ⟨iBool, hiBool, hzBool0, hzBool1, hzBool2⟩ := info_parts Bool_info
  obtain ⟨iSr, hiSr, hzSr0, hzSr1, hzSr2⟩ := info_parts Sr_info
  obtain ⟨W1, hW1⟩ : ∃ W1, (w.alloc (.cells #[.int .i64 t, .slice P n c, .slice S m d] 27)).alloc (.cells #[.int .i64 0, .slice none 0 0, .slice none 0 0, .slice none 0 0, .slice none 0 0, .slice none 0 0] 33) = W1 := ⟨_, rfl⟩
  have PB : Blk W1 w.heap.size [.int .i64 t, .slice P n c, .slice S m d] := by rw [← hW1]; exact (Blk.new _ _ _).alloc _
  have ZB : Blk W1 (w.heap.size + 1) [.int .i64 0, .slice none 0 0, .slice none 0 0, .slice none 0 0, .slice none 0 0, .slice none 0 0] := by rw [← hW1]; exact Blk.new_ _ _ _ (by simp)
  have hb_W1 : Below w.heap.size w W1 := by rw [← hW1]; repeat (first | exact Below.refl _ _ | assumption | refine Below.next_ ?_ ?_ (by assumption) | refine Below.drew ?_ | refine below_drewN ?_ _ | refine Below.alloc ?_ ?_ _ | refine Below.setCell ?_ ?_ _ | omega | (simp <;> omega) | (simp at * <;> omega))
  have hrb : w.heap.size + 1 < W1.heap.size := ZB.lt
  have HW1 := hide hW1
  clear hW1
  have k1 := h1.below hb_W1
  have k2 := h2.below hb_W1
  have kM := hM.below hb_W1
  have kH := hH.below hb_W1
  have HLp := hide k1.maplen
  have HLs := hide k2.maplen
  have HLm := hide kM.len
  have HMI := hide hMI
  clear hMI
  obtain ⟨⟨p0, p1, p2⟩, p3, p4, p5⟩ := PB.three
  have T := implIsDocument_any (t := t) (c := c) (d := d) k1 k2 (by omega) (by omega)
  cases hdoc : isDoc t ps ss with
  | false =>
    rw [hdoc] at T
    have HT := hide T
    clear T
    have HX := hide (show redX ms t ps ss hd = ⟨0, [], [], [], [], []⟩ by unfold redX; rw [if_neg (by simp [hdoc])])
    clear hdoc
    go_enter Try.func8, Try.ntmps8
    go_wp2_with fail
    rw [HW1.out]
    clear HW1
    refine HT.out.mono ?_
    rintro e w2 ⟨rfl, hb2⟩
    have ZB2 := ZB.below hb2
    obtain ⟨⟨z0, z1, z2, z3, z4, z5⟩, f0, f1, f2, f3, f4, f5⟩ := ZB2.six
    go_wp2_with fail
    have hbw := Below.next_ hb_W1 (by omega) hb2
    have bb := ((((((hbw).setCell (p := ⟨w.heap.size + 1, 0, none⟩) (by show w.heap.size ≤ w.heap.size + 1; omega) (.int .i64 0)).setCell (p := ⟨w.heap.size + 1, 1, none⟩) (by show w.heap.size ≤ w.heap.size + 1; omega) (.slice none 0 0)).setCell (p := ⟨w.heap.size + 1, 2, none⟩) (by show w.heap.size ≤ w.heap.size + 1; omega) (.slice none 0 0)).setCell (p := ⟨w.heap.size + 1, 3, none⟩) (by show w.heap.size ≤ w.heap.size + 1; omega) (.slice none 0 0)).setCell (p := ⟨w.heap.size + 1, 4, none⟩) (by show w.heap.size ≤ w.heap.size + 1; omega) (.slice none 0 0)).setCell (p := ⟨w.heap.size + 1, 5, none⟩) (by show w.heap.size ≤ w.heap.size + 1; omega) (.slice none 0 0)
    exact bodyPost_ret (v := .tuple #[reV 0 none none none none none 0 0 0 0 0 0 0 0 0 0, .bool false]) (by simp [results, Try.results8, go_sem, *]) rfl (by
      rw [HX.out]
      exact ⟨none, none, none, none, none, 0, 0, 0, 0, 0, 0, 0, 0, 0, 0, [], 0, rfl, rfl, Rows_.nils _ _ _ [3, 4, 9, 3, 24], bb⟩)
  | true =>
    rw [hdoc] at T
    have HT := hide T
    clear T
    have HX := hide (show redX ms t ps ss hd = ⟨t, ms, rB hd ps.length, rP hd ps ps.length, rS hd ss ps.length, rD hd ms ps ss ps.length⟩ by unfold redX; rw [if_pos hdoc])
    obtain ⟨⟨ht0, ht1⟩, ⟨hn1, hn6⟩, hl, hps, hsx⟩ := isDoc_all hdoc
    obtain rfl : m = n := by rw [← HLp.out, ← HLs.out]; exact hl
    have HPS := hide hps
    have HSX := hide hsx
    rw [HLp.out] at hn1 hn6
    clear hdoc hl hps hsx
    go_enter Try.func8, Try.ntmps8
    go_wp2_with fail
    rw [HW1.out]
    clear HW1
    refine HT.out.mono ?_
    rintro e w2 ⟨rfl, hb2⟩
    have hz2 := hb2.size
    clear HT p0 p1 p2 p3 p4 p5
    have PB2 := PB.below hb2
    obtain ⟨⟨p0, p1, p2⟩, p3, p4, p5⟩ := PB2.three
    go_upto_region 3 with fail
    go_cut [8] from 20 to 24 (fun p wx => ∃ (bx : Nat) (M : Option Addr) (cM : Nat), p = .pointer (some ⟨bx, 0, none⟩) ∧ RecX W1.heap.size W1 wx bx t [⟨3, M, nm, cM, ints ms⟩, ⟨4, none, 0, 0, []⟩, ⟨9, none, 0, 0, []⟩, ⟨3, none, 0, 0, []⟩, ⟨24, none, 0, 0, []⟩] [])
    case first =>
      refine wp_region_upto (S := (fun w' => w'.cell? ⟨w.heap.size, 0, none⟩ = some (.int .i64 t))) 6 (by kernel_rfl) ?_ ?_
      · exact keep1 (W := w2) ((Below.refl _ _).drew) p0
      obtain ⟨w3, hw3⟩ : ∃ x, w2.drew = x := ⟨_, rfl⟩
      have BB3 : Below w2.heap.size w2 w3 := by rw [← hw3]; exact (Below.refl _ _).drew
      rw [hw3]
      intro hHeld
      clear hw3
      refine upto_take (i := 0) (v := ?v1) rfl (by kernel_rfl) (by kernel_rfl) (by kernel_rfl) (by kernel_rfl) (fun _ _ _ h => h) hHeld ?hy1 (by rfl) ?rest1
      case hy1 => (intro w' hSw; (try dsimp only at hSw); go_simp; (try with_reducible rfl))
      (try simp only [Act.put, List.setIfInBounds_toArray, List.set_cons_zero, List.set_cons_succ])
      refine upto_take (i := 1) (v := ?v2) rfl (by kernel_rfl) (by kernel_rfl) (by kernel_rfl) (by kernel_rfl) (fun _ _ _ h => h) hHeld ?hy2 (by rfl) ?rest2
      case hy2 => (intro w' hSw; (try dsimp only at hSw); go_simp; (try with_reducible rfl))
      (try simp only [Act.put, List.setIfInBounds_toArray, List.set_cons_zero, List.set_cons_succ])
      refine upto_take (i := 2) (v := ?v3) rfl (by kernel_rfl) (by kernel_rfl) (by kernel_rfl) (by kernel_rfl) (fun _ _ _ h => h) hHeld ?hy3 (by rfl) ?rest3
      case hy3 => (intro w' hSw; (try dsimp only at hSw); go_simp; (try with_reducible rfl))
      (try simp only [Act.put, List.setIfInBounds_toArray, List.set_cons_zero, List.set_cons_succ])
      clear hHeld
      have RR3 : Rows_ w3 w2.heap.size (w.heap.size + 1) [] := Rows_.empty _ _ _
      refine upto_step2 (k1 := 3) (k2 := 5) (by kernel_rfl) rfl rfl (fun K hK => ?_) (fun K hK => ?_)
      · go_simp
        (go_at_call 33; refine (copyInts_any ((kM.below hb2).below (BB3)) (by omega)).mono ?_; rintro e w4 ⟨A4, c4, rfl, ho4, hbb4⟩)
        go_wp2_with fail
        have BB4 := Below.next_ BB3 BB3.size hbb4
        have RR4 := (RR3.below hbb4).push (f := ⟨3, A4, nm, c4, ints ms⟩) (fun i g hg q hq => ((RR3.own i g hg).lt q (by rw [blk_own]; exact hq)).2) (by have := BB3.size; omega) ho4 BB3.size
        simp only [List.nil_append, List.cons_append] at RR4
        refine hK.out _ _ ?_ ?_
        · (intro _; exact keep1 (W := w2) (BB4) p0)
        clear hK K
        (try simp only [Act.put, List.setIfInBounds_toArray, List.set_cons_zero, List.set_cons_succ])
        refine upto_step2 (k1 := 4) (k2 := 5) (by kernel_rfl) rfl rfl (fun K hK => ?_) (fun K hK => ?_)
        · go_simp
          refine hK.out _ _ ?_ ?_
          · (intro _; exact keep1 (W := w2) (BB4) p0)
          clear hK K
          (try simp only [Act.put, List.setIfInBounds_toArray, List.set_cons_zero, List.set_cons_succ])
          refine upto_step (k := 5) (by kernel_rfl) rfl (fun K hK => ?_)
          go_simp
          obtain ⟨w5, hw5⟩ : ∃ x, w4.alloc (.cells #[.int .i64 0, .slice none 0 0, .slice none 0 0, .slice none 0 0, .slice none 0 0, .slice none 0 0] 33) = x := ⟨_, rfl⟩
          have hbb5 : Below w4.heap.size w4 w5 := by rw [← hw5]; exact (Below.refl _ _).alloc (Nat.le_refl _) _
          have BX5 : Blk w5 w4.heap.size [.int .i64 0, .slice none 0 0, .slice none 0 0, .slice none 0 0, .slice none 0 0, .slice none 0 0] := by rw [← hw5]; exact Blk.new _ _ _
          rw [hw5]
          clear hw5
          have hlt5 : w4.heap.size < w5.heap.size := BX5.lt
          have hlo5 : w2.heap.size ≤ w4.heap.size := BB4.size
          have BB5 := Below.next_ BB4 BB4.size hbb5
          have RR5 := (RR4.rek (Nat.le_refl _)).below hbb5
          refine hK.out _ _ ?_ ?_
          · (intro _; exact keep1 (W := w2) (BB5) p0)
          clear hK K
          (try simp only [Act.put, List.setIfInBounds_toArray, List.set_cons_zero, List.set_cons_succ])
          obtain ⟨⟨y0, y1, y2, y3, y4, y5⟩, g0, g1, g2, g3, g4, g5⟩ := BX5.six
          refine upto_step (k := 6) (by kernel_rfl) rfl (fun K hK => ?_)
          go_simp
          refine hK.out _ _ ?_ ?_
          · (intro h; exact absurd rfl h)
          clear hK K
          (try simp only [Act.put, List.setIfInBounds_toArray, List.set_cons_zero, List.set_cons_succ])
          refine upto_done (by kernel_rfl) ?_ _
          go_wp2_with fail
          go_meet
          exact ⟨w4.heap.size, A4, c4, rfl, RecX.fill BX5 (RR5.base hz2) (by omega) (hb2.trans (BB5.mono hz2))⟩
        · go_simp
          obtain ⟨w6, hw6⟩ : ∃ x, w4.alloc (.cells #[.int .i64 0, .slice none 0 0, .slice none 0 0, .slice none 0 0, .slice none 0 0, .slice none 0 0] 33) = x := ⟨_, rfl⟩
          have hbb6 : Below w4.heap.size w4 w6 := by rw [← hw6]; exact (Below.refl _ _).alloc (Nat.le_refl _) _
          have BX6 : Blk w6 w4.heap.size [.int .i64 0, .slice none 0 0, .slice none 0 0, .slice none 0 0, .slice none 0 0, .slice none 0 0] := by rw [← hw6]; exact Blk.new _ _ _
          rw [hw6]
          clear hw6
          have hlt6 : w4.heap.size < w6.heap.size := BX6.lt
          have hlo6 : w2.heap.size ≤ w4.heap.size := BB4.size
          have BB6 := Below.next_ BB4 BB4.size hbb6
          have RR6 := (RR4.rek (Nat.le_refl _)).below hbb6
          refine hK.out _ _ ?_ ?_
          · (intro _; exact keep1 (W := w2) (BB6) p0)
          clear hK K
          (try simp only [Act.put, List.setIfInBounds_toArray, List.set_cons_zero, List.set_cons_succ])
          refine upto_step (k := 4) (by kernel_rfl) rfl (fun K hK => ?_)
          go_simp
          refine hK.out _ _ ?_ ?_
          · (intro _; exact keep1 (W := w2) (BB6) p0)
          clear hK K
          (try simp only [Act.put, List.setIfInBounds_toArray, List.set_cons_zero, List.set_cons_succ])
          obtain ⟨⟨y0, y1, y2, y3, y4, y5⟩, g0, g1, g2, g3, g4, g5⟩ := BX6.six
          refine upto_step (k := 6) (by kernel_rfl) rfl (fun K hK => ?_)
          go_simp
          refine hK.out _ _ ?_ ?_
          · (intro h; exact absurd rfl h)
          clear hK K
          (try simp only [Act.put, List.setIfInBounds_toArray, List.set_cons_zero, List.set_cons_succ])
          refine upto_done (by kernel_rfl) ?_ _
          go_wp2_with fail
          go_meet
          exact ⟨w4.heap.size, A4, c4, rfl, RecX.fill BX6 (RR6.base hz2) (by omega) (hb2.trans (BB6.mono hz2))⟩
      · go_simp
        obtain ⟨w7, hw7⟩ : ∃ x, w3.alloc (.cells #[.int .i64 0, .slice none 0 0, .slice none 0 0, .slice none 0 0, .slice none 0 0, .slice none 0 0] 33) = x := ⟨_, rfl⟩
        have hbb7 : Below w3.heap.size w3 w7 := by rw [← hw7]; exact (Below.refl _ _).alloc (Nat.le_refl _) _
        have BX7 : Blk w7 w3.heap.size [.int .i64 0, .slice none 0 0, .slice none 0 0, .slice none 0 0, .slice none 0 0, .slice none 0 0] := by rw [← hw7]; exact Blk.new _ _ _
        rw [hw7]
        clear hw7
        have hlt7 : w3.heap.size < w7.heap.size := BX7.lt
        have hlo7 : w2.heap.size ≤ w3.heap.size := BB3.size
        have BB7 := Below.next_ BB3 BB3.size hbb7
        have RR7 := (RR3.rek (Nat.le_refl _)).below hbb7
        refine hK.out _ _ ?_ ?_
        · (intro _; exact keep1 (W := w2) (BB7) p0)
        clear hK K
        (try simp only [Act.put, List.setIfInBounds_toArray, List.set_cons_zero, List.set_cons_succ])
        refine upto_step (k := 3) (by kernel_rfl) rfl (fun K hK => ?_)
        go_simp
        (go_at_call 33; refine (copyInts_any ((kM.below hb2).below (BB7)) (by omega)).mono ?_; rintro e w8 ⟨A8, c8, rfl, ho8, hbb8⟩)
        go_wp2_with fail
        have BB8 := Below.next_ BB7 BB7.size hbb8
        have RR8 := (RR7.below hbb8).push (f := ⟨3, A8, nm, c8, ints ms⟩) (fun i g hg q hq => ((RR7.own i g hg).lt q (by rw [blk_own]; exact hq)).2) BX7.lt ho8 BB7.size
        simp only [List.nil_append, List.cons_append] at RR8
        have BX8 := BX7.below hbb8
        refine hK.out _ _ ?_ ?_
        · (intro _; exact keep1 (W := w2) (BB8) p0)
        clear hK K
        (try simp only [Act.put, List.setIfInBounds_toArray, List.set_cons_zero, List.set_cons_succ])
        refine upto_step (k := 4) (by kernel_rfl) rfl (fun K hK => ?_)
        go_simp
        refine hK.out _ _ ?_ ?_
        · (intro _; exact keep1 (W := w2) (BB8) p0)
        clear hK K
        (try simp only [Act.put, List.setIfInBounds_toArray, List.set_cons_zero, List.set_cons_succ])
        obtain ⟨⟨y0, y1, y2, y3, y4, y5⟩, g0, g1, g2, g3, g4, g5⟩ := BX8.six
        refine upto_step (k := 6) (by kernel_rfl) rfl (fun K hK => ?_)
        go_simp
        refine hK.out _ _ ?_ ?_
        · (intro h; exact absurd rfl h)
        clear hK K
        (try simp only [Act.put, List.setIfInBounds_toArray, List.set_cons_zero, List.set_cons_succ])
        refine upto_done (by kernel_rfl) ?_ _
        go_wp2_with fail
        go_meet
        exact ⟨w3.heap.size, A8, c8, rfl, RecX.fill BX8 (RR8.base hz2) (by omega) (hb2.trans (BB8.mono hz2))⟩
    case rest =>
      obtain ⟨bx, M, cM, rfl, hR0⟩ := hcut
      have hb0 := hR0.bel
      have hz0 := hb0.size
      clear p0 p1 p2 p3 p4 p5 PB2 hb2
      have PB3 := PB.below hb0
      obtain ⟨⟨p0, p1, p2⟩, p3, p4, p5⟩ := PB3.three
      go_wp2_with fail
      go_loopw [28] (fun i wr => ∃ (k c1 c2 c3 c4 : Nat) (A1 A2 A3 A4 : Option Addr) (rs : List Sr), k ≤ m ∧ i = .int .i64 k ∧ rs.length = k ∧ RecX W1.heap.size W1 wr bx t [⟨3, M, nm, cM, ints ms⟩, ⟨4, A1, k, c1, bls (rB hd k)⟩, ⟨9, A2, k, c2, sts (rP hd ps k)⟩, ⟨3, A3, k, c3, ints (rS hd ss k)⟩, ⟨24, A4, k, c4, srs rs⟩] (inn rs (rD hd ms ps ss k))) (fun i _ => m - (intOf i).toNat)
      case atStart => exact ⟨0, 0, 0, 0, 0, none, none, none, none, [], Nat.zero_le _, rfl, rfl, hR0⟩
      case round =>
        clear hR0 p0 p1 p2 p3 p4 p5 PB3 hb0 hz0
        obtain ⟨k, c1, c2, c3, c4, A1, A2, A3, A4, rs, hk, rfl, hrl, hrec⟩ := hrel
        have hk0 : (0 : Int) ≤ (k : Int) := by omega
        have hb := hrec.bel
        have hsb := hrec.sz
        have hlo := hrec.lo
        have hz := hb.size
        obtain ⟨⟨y0, y1, y2, y3, y4, y5⟩, ⟨g0, g1, g2, g3, g4, g5⟩, o1, o2, o3, o4, o5⟩ := hrec.six
        have PB3 := PB.below hb
        obtain ⟨⟨p0, p1, p2⟩, p3, p4, p5⟩ := PB3.three
        by_cases hlt : k < m
        rotate_left
        · have HRL := hide hrl
          obtain rfl : k = m := by omega
          have hkn : ¬ (k : Int) < (k : Int) := by omega
          have ZB3 := ZB.below hb
          obtain ⟨⟨z0, z1, z2, z3, z4, z5⟩, f0, f1, f2, f3, f4, f5⟩ := ZB3.six
          have hbw := Below.next_ hb_W1 (by omega) hb
          go_wp2_with fail
          have bb := ((((((hbw).setCell (p := ⟨w.heap.size + 1, 0, none⟩) (by show w.heap.size ≤ w.heap.size + 1; omega) (.int .i64 t)).setCell (p := ⟨w.heap.size + 1, 1, none⟩) (by show w.heap.size ≤ w.heap.size + 1; omega) (.slice M nm cM)).setCell (p := ⟨w.heap.size + 1, 2, none⟩) (by show w.heap.size ≤ w.heap.size + 1; omega) (.slice A1 k c1)).setCell (p := ⟨w.heap.size + 1, 3, none⟩) (by show w.heap.size ≤ w.heap.size + 1; omega) (.slice A2 k c2)).setCell (p := ⟨w.heap.size + 1, 4, none⟩) (by show w.heap.size ≤ w.heap.size + 1; omega) (.slice A3 k c3)).setCell (p := ⟨w.heap.size + 1, 5, none⟩) (by show w.heap.size ≤ w.heap.size + 1; omega) (.slice A4 k c4)
          have RF := ((((((hrec.rows).old (j := 0) hrb (.int .i64 t)).old (j := 1) hrb (.slice M nm cM)).old (j := 2) hrb (.slice A1 k c1)).old (j := 3) hrb (.slice A2 k c2)).old (j := 4) hrb (.slice A3 k c3)).old (j := 5) hrb (.slice A4 k c4)
          exact bodyPost_ret (v := .tuple #[reV t M A1 A2 A3 A4 nm k k k k cM c1 c2 c3 c4, .bool true]) (by simp [results, Try.results8, go_sem, *]) rfl (by
            rw [HX.out, HLp.out]
            exact ⟨M, A1, A2, A3, A4, nm, k, k, k, k, cM, c1, c2, c3, c4, rs, bx, rfl, by rw [rD_len]; exact hrl, RF.base (by omega), bb⟩)
        have hkn : (k : Int) < (m : Int) := by omega
        obtain ⟨pd, p, rfl, hp, hcp0⟩ := Rd.st k1 hlt
        obtain ⟨sd, s, rfl, hs, hcs0⟩ := Rd.int k2 hlt
        have hcp := keep1 hb hcp0
        have hcs := keep1 hb hcs0
        have hpsz := HPS.out p (List.mem_of_getElem? hp)
        have hsI : I64 s := by have := HSX.out s (List.mem_of_getElem? hs); exact ⟨by omega, by omega⟩
        have HP := hide (show ps.getD k ByteArray.empty = p by rw [List.getD_eq_getElem?_getD, hp]; rfl)
        have HS := hide (show ss.getD k 0 = s by rw [List.getD_eq_getElem?_getD, hs]; rfl)
        have HRL := hide hrl
        clear hp hs hrl
        obtain ⟨hh, hhh⟩ : ∃ x, hasF hd (k : Int) = x := ⟨_, rfl⟩
        have T := hasInt_any (x := (k : Int)) (c := ch) (kH.below hb) (by omega)
        rw [hhh] at T
        have HT2 := hide T
        have HHH := hide (show hid hd k = hh from hhh)
        clear T hhh
        go_upto_if 41 with (go_at_call 34; refine HT2.out.mono ?_; rintro e _ ⟨rfl, rfl⟩)
        clear HT2
        go_cut [10, 11, 12] from 42 to 55 (fun pv sv dv wx => ∃ (A5 : Option Addr) (n5 c5 : Nat), pv = .string (if hh = true then ByteArray.empty else p) ∧ sv = .int .i64 (if hh = true then 0 else s) ∧ dv = .slice A5 n5 c5 ∧ wx.ownsRow wr.heap.size 3 1 (.slice A5 n5 c5) n5 (ints (if hh = true then ms.map (fun m => partF m p s) else [])) ∧ Below wr.heap.size wr wx)
        case first =>
          cases hh with
          | false =>
            go_wp2_with fail
            go_meet
            exact ⟨none, 0, 0, rfl, rfl, rfl, World.ownsRow_nil _ _ _ _, Below.refl _ _⟩
          | true =>
            go_wp2_with fail
            go_loopw [12, 44] (fun lv i wq => ∃ (j c5 : Nat) (A5 : Option Addr), j ≤ nm ∧ i = .int .i64 j ∧ lv = .slice A5 j c5 ∧ wq.ownsRow wr.heap.size 3 1 (.slice A5 j c5) j (ints ((ms.map (fun m => partF m p s)).take j)) ∧ Below wr.heap.size wr wq) (fun _ i _ => nm - (intOf i).toNat)
            case atStart => exact ⟨0, 0, none, Nat.zero_le _, rfl, rfl, by simpa [ints] using World.ownsRow_nil _ _ _ _, Below.refl _ _⟩
            case round =>
              obtain ⟨w6, rfl⟩ : ∃ x, x = wr := ⟨wr, rfl⟩
              obtain ⟨j, c5, A5, hj, rfl, rfl, ho, hbq⟩ := hrel
              have hj0 : (0 : Int) ≤ (j : Int) := by omega
              have hzq := hbq.size
              have hb1q : Below W1.heap.size W1 w6 := Below.next_ hb hz hbq
              by_cases hjlt : j < nm
              · have hjn : (j : Int) < (nm : Int) := by omega
                obtain ⟨md, x, rfl, hx, hcx0⟩ := Rd.int kM hjlt
                have hcx := keep1 hb1q hcx0
                have hxI := HMI.out x (List.mem_of_getElem? hx)
                have HXM := hide (show (ms.map (fun m => partF m p s))[j]? = some (partF x p s) by rw [List.getElem?_map, hx]; rfl)
                clear hx
                go_wp2_with fail
                refine (implPartDigest_any (s := p) (by omega) hxI hsI).mono ?_
                rintro e w7 ⟨rfl, hb7⟩
                have hz7 := hb7.size
                have hb17 := Below.next_ hbq hzq hb7
                have hzz := hb17.size
                have ho7 := own_below ho hb7
                go_wp2_with (at_builtin; refine wpList_app2 _ rfl (.tmp 48) (.tmp 53) 24 rfl 3 iInt (.int .i64 0) 1 8 Try.underlying24 hiInt hzInt0 hzInt1 hzInt2 rfl (by omega) rfl (ho7.alloc _) rfl (Rd.one _ _ _) (ints_one [_]) (by unfold maxLen; omega) (by omega) rfl rfl (hb17.alloc hzz _) (by simp; omega) (Nat.le_refl _) (by simp; omega) ?_; intro A8 c8 w8 ho8 hb8 hg8 hat8)
                go_roundw
                case rel => exact ⟨j + 1, c8, A8, by omega, by go_num, rfl, by rw [take_snoc_ HXM.out]; simpa [ints] using ho8, hb8⟩
                case measure => simp [intOf]; omega
              · obtain rfl : j = nm := by omega
                have hjn : ¬ (j : Int) < (j : Int) := by omega
                rw [List.take_of_length_le (by rw [List.length_map]; have := HLm.out; omega)] at ho
                go_wp2_with fail
                go_meet
                exact ⟨A5, j, c5, rfl, rfl, rfl, ho, hbq⟩
        case rest =>
          obtain ⟨A5, n5, c5, rfl, rfl, rfl, ho5x, hbx⟩ := hcut
          have hnew := (hrec.below hbx).push (f := ⟨3, A5, n5, c5, ints (if hh = true then ms.map (fun m => partF m p s) else [])⟩) (fun i g hg q hq => hrec.lt i g hg q hq) hsb ho5x
          rw [← inn_snoc (by rw [rD_len]; exact HRL.out) (A5, n5, c5)] at hnew
          have hnn : rD hd ms ps ss k ++ [if hh = true then ms.map (fun m => partF m p s) else []] = rD hd ms ps ss (k + 1) := by rw [rD_succ, HHH.out, HP.out, HS.out]
          rw [hnn] at hnew
          have HPn := hide (show rP hd ps (k + 1) = rP hd ps k ++ [if hh = true then ByteArray.empty else p] by rw [rP_succ, HHH.out, HP.out])
          have HSn := hide (show rS hd ss (k + 1) = rS hd ss k ++ [if hh = true then 0 else s] by rw [rS_succ, HHH.out, HS.out])
          have HBn := hide (show rB hd (k + 1) = rB hd k ++ [!hh] by rw [rB_succ, HHH.out])
          clear y0 y1 y2 y3 y4 y5 g0 g1 g2 g3 g4 g5 o1 o2 o3 o4 o5 hnn hcp hcs p0 p1 p2 p3 p4 p5 PB3 hb
          generalize (if hh = true then ByteArray.empty else p) = pp at *
          generalize (if hh = true then (0 : Int) else s) = sp at *
          clear hrec ho5x
          obtain ⟨⟨y0, y1, y2, y3, y4, y5⟩, ⟨g0, g1, g2, g3, g4, g5⟩, o1, o2, o3, o4, o5⟩ := hnew.six
          go_upto_region 18 with (at_builtin; refine wpList_app2 _ rfl (.tmp 57) (.tmp 60) 30 rfl 4 iBool (.bool false) 1 1 Try.underlying30 hiBool hzBool0 hzBool1 hzBool2 rfl (by omega) rfl (o2.alloc _) rfl (Rd.one _ _ _) (bls_one [_]) (by unfold maxLen; omega) (by omega) rfl rfl ((RecX.bel hnew).alloc (RecX.bel hnew).size (.cells #[.bool (!hh)] 4)) (by have := (RecX.bel hnew).size; simp; omega) (Nat.le_refl _) (by have := (RecX.bel hnew).size; simp; omega) ?_; intro Aa ca wa hoa hba hga hata; have ub := RecX.kept hnew (i := 1) rfl ((Below.refl _ _).alloc (Nat.le_refl _) (.cells #[.bool (!hh)] 4)) hga; obtain ⟨⟨q0, q1, q2, q3, q4, q5⟩, e0, e1, e2, e3, e4, e5⟩ := Blk.six ub)
          have ra := RecX.app (i := 1) hnew rfl ((Below.refl _ _).alloc (Nat.le_refl _) (.cells #[.bool (!hh)] 4)) hoa hba hga hata
          simp only [List.set_cons_zero, List.set_cons_succ] at ra
          obtain ⟨va, hva⟩ : ∃ x, wa.setCell ⟨bx, 2, none⟩ (.slice Aa (k + 1) ca) = x := ⟨_, rfl⟩
          rw [hva] at ra ⊢
          clear y0 y1 y2 y3 y4 y5 g0 g1 g2 g3 g4 g5 o1 o2 o3 o4 o5
          clear ub q0 q1 q2 q3 q4 q5 e0 e1 e2 e3 e4 e5 hoa hba hga hata hva
          obtain ⟨⟨y0, y1, y2, y3, y4, y5⟩, ⟨g0, g1, g2, g3, g4, g5⟩, o1, o2, o3, o4, o5⟩ := ra.six
          go_upto_region 19 with (at_builtin; refine wpList_app2 _ rfl (.tmp 64) (.tmp 66) 25 rfl 9 iString (.string ByteArray.empty) 1 16 Try.underlying25 hiString hzString0 hzString1 hzString2 rfl (by omega) rfl (o3.alloc _) rfl (Rd.one _ _ _) (sts_one [_]) (by unfold maxLen; omega) (by omega) rfl rfl ((RecX.bel ra).alloc (RecX.bel ra).size (.cells #[.string pp] 9)) (by have := (RecX.bel ra).size; simp; omega) (Nat.le_refl _) (by have := (RecX.bel ra).size; simp; omega) ?_; intro Ab cb wb hob hbb hgb hatb; have ub := RecX.kept ra (i := 2) rfl ((Below.refl _ _).alloc (Nat.le_refl _) (.cells #[.string pp] 9)) hgb; obtain ⟨⟨q0, q1, q2, q3, q4, q5⟩, e0, e1, e2, e3, e4, e5⟩ := Blk.six ub)
          have rb := RecX.app (i := 2) ra rfl ((Below.refl _ _).alloc (Nat.le_refl _) (.cells #[.string pp] 9)) hob hbb hgb hatb
          simp only [List.set_cons_zero, List.set_cons_succ] at rb
          obtain ⟨vb, hvb⟩ : ∃ x, wb.setCell ⟨bx, 3, none⟩ (.slice Ab (k + 1) cb) = x := ⟨_, rfl⟩
          rw [hvb] at rb ⊢
          clear y0 y1 y2 y3 y4 y5 g0 g1 g2 g3 g4 g5 o1 o2 o3 o4 o5
          clear ub q0 q1 q2 q3 q4 q5 e0 e1 e2 e3 e4 e5 hob hbb hgb hatb hvb
          obtain ⟨⟨y0, y1, y2, y3, y4, y5⟩, ⟨g0, g1, g2, g3, g4, g5⟩, o1, o2, o3, o4, o5⟩ := rb.six
          go_upto_region 20 with (at_builtin; refine wpList_app2 _ rfl (.tmp 70) (.tmp 72) 24 rfl 3 iInt (.int .i64 0) 1 8 Try.underlying24 hiInt hzInt0 hzInt1 hzInt2 rfl (by omega) rfl (o4.alloc _) rfl (Rd.one _ _ _) (ints_one [_]) (by unfold maxLen; omega) (by omega) rfl rfl ((RecX.bel rb).alloc (RecX.bel rb).size (.cells #[.int .i64 sp] 3)) (by have := (RecX.bel rb).size; simp; omega) (Nat.le_refl _) (by have := (RecX.bel rb).size; simp; omega) ?_; intro Ac cc wc hoc hbc hgc hatc; have ub := RecX.kept rb (i := 3) rfl ((Below.refl _ _).alloc (Nat.le_refl _) (.cells #[.int .i64 sp] 3)) hgc; obtain ⟨⟨q0, q1, q2, q3, q4, q5⟩, e0, e1, e2, e3, e4, e5⟩ := Blk.six ub)
          have rc := RecX.app (i := 3) rb rfl ((Below.refl _ _).alloc (Nat.le_refl _) (.cells #[.int .i64 sp] 3)) hoc hbc hgc hatc
          simp only [List.set_cons_zero, List.set_cons_succ] at rc
          obtain ⟨vc, hvc⟩ : ∃ x, wc.setCell ⟨bx, 4, none⟩ (.slice Ac (k + 1) cc) = x := ⟨_, rfl⟩
          rw [hvc] at rc ⊢
          clear y0 y1 y2 y3 y4 y5 g0 g1 g2 g3 g4 g5 o1 o2 o3 o4 o5
          clear ub q0 q1 q2 q3 q4 q5 e0 e1 e2 e3 e4 e5 hoc hbc hgc hatc hvc
          obtain ⟨⟨y0, y1, y2, y3, y4, y5⟩, ⟨g0, g1, g2, g3, g4, g5⟩, o1, o2, o3, o4, o5⟩ := rc.six
          go_upto_region 21 with (at_builtin; refine wpList_app2 _ rfl (.tmp 76) (.tmp 78) 31 rfl 24 iSr (.slice none 0 0) 1 24 Try.underlying31 hiSr hzSr0 hzSr1 hzSr2 rfl (by omega) rfl (o5.alloc _) rfl (Rd.one _ _ _) (srs_one [(A5, n5, c5)]) (by unfold maxLen; omega) (by omega) rfl rfl ((RecX.bel rc).alloc (RecX.bel rc).size (.cells #[.slice A5 n5 c5] 24)) (by have := (RecX.bel rc).size; simp; omega) (Nat.le_refl _) (by have := (RecX.bel rc).size; simp; omega) ?_; intro Ad cd wd hod hbd hgd hatd; have ub := RecX.kept rc (i := 4) rfl ((Below.refl _ _).alloc (Nat.le_refl _) (.cells #[.slice A5 n5 c5] 24)) hgd; obtain ⟨⟨q0, q1, q2, q3, q4, q5⟩, e0, e1, e2, e3, e4, e5⟩ := Blk.six ub)
          have rd := RecX.app (i := 4) rc rfl ((Below.refl _ _).alloc (Nat.le_refl _) (.cells #[.slice A5 n5 c5] 24)) hod hbd hgd hatd
          simp only [List.set_cons_zero, List.set_cons_succ] at rd
          obtain ⟨vd, hvd⟩ : ∃ x, wd.setCell ⟨bx, 5, none⟩ (.slice Ad (k + 1) cd) = x := ⟨_, rfl⟩
          rw [hvd] at rd ⊢
          clear y0 y1 y2 y3 y4 y5 g0 g1 g2 g3 g4 g5 o1 o2 o3 o4 o5
          clear ub q0 q1 q2 q3 q4 q5 e0 e1 e2 e3 e4 e5 hod hbd hgd hatd hvd
          go_wp2_with fail
          go_roundw
          case rel => exact ⟨k + 1, ca, cb, cc, cd, Aa, Ab, Ac, Ad, rs ++ [(A5, n5, c5)], by omega, by go_num, by simp [HRL.out], by rw [HBn.out, HPn.out, HSn.out, bls_snoc, sts_snoc, ints_snoc, srs_snoc]; exact rd⟩
          case measure => simp [intOf]; omega
end Go.Proofs.Ythjdigiaajdnbaa
