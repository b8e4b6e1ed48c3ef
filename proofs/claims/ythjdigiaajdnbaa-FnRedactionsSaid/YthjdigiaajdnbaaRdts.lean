/- The contract of RedactDocument of the reference. For rows of at most 2^20 elements. -/
import Derived.Test.YthjdigiaajdnbaaRdt
import Derived.Test.YthjdigiaajdnbaaTail
import Derived.Test.YthjdigiaajdnbaaEnc
import Derived.Test.YthjdigiaajdnbaaCpy
import Derived.Test.YthjdigiaajdnbaaStep
import Derived.Deep.Cut
import Derived.Deep.CutRange
import Derived.Deep.RegionHeld3
namespace Go.Proofs.Ythjdigiaajdnbaa
open Go.RowKit Go.WideShapes Go.ChangeShapes Go.Deep
set_option linter.unusedSimpArgs false
set_option linter.unusedVariables false
set_option maxRecDepth 1000000
set_option maxHeartbeats 16000000 in
theorem specRedactDocument_any {Mo P S Ho : Option Addr} {nm cm n m c d nh ch : Nat} {t : Int} {ms hd : List Int} {ps : List ByteArray} {ss : List Int} {w : World} (hM : Rd w 1 Mo nm (ints ms)) (h1 : Rd w 1 P n (sts ps)) (h2 : Rd w 1 S m (ints ss)) (hH : Rd w 1 Ho nh (ints hd)) (hnm : nm ≤ 2097152) (hn : n ≤ 2097152) (hm : m ≤ 2097152) (hnh : nh ≤ 2097152) (hMI : ∀ x ∈ ms, I64 x) :
    Calls Try.prog 9 #[.slice Mo nm cm, doV t P S n m c d, .slice Ho nh ch] w fun e w' => RrOut w w' e (isDoc t ps ss) (redX ms t ps ss hd) := by
  obtain ⟨iString, hiString, hzString0, hzString1, hzString2⟩ := info_parts String_info
  obtain ⟨iInt, hiInt, hzInt0, hzInt1, hzInt2⟩ := info_parts Int_info
  obtain ⟨iBool, hiBool, hzBool0, hzBool1, hzBool2⟩ := info_parts Bool_info
  obtain ⟨iSr, hiSr, hzSr0, hzSr1, hzSr2⟩ := info_parts Sr_info
  obtain ⟨W1, hW1⟩ : ∃ W1, (w.alloc (.cells #[.int .i64 t, .slice P n c, .slice S m d] 27)).alloc (.cells #[.int .i64 0, .slice none 0 0, .slice none 0 0, .slice none 0 0, .slice none 0 0, .slice none 0 0] 33) = W1 := ⟨_, rfl⟩
  have PB : Blk W1 w.heap.size [.int .i64 t, .slice P n c, .slice S m d] := by rw [← hW1]; exact (Blk.new _ _ _).alloc _
  have ZB : Blk W1 (w.heap.size + 1) [.int .i64 0, .slice none 0 0, .slice none 0 0, .slice none 0 0, .slice none 0 0, .slice none 0 0] := by rw [← hW1]; exact Blk.new_ _ _ _ (by simp)
  have hb_W1 : Below w.heap.size w W1 := by rw [← hW1]; repeat (first | exact Below.refl _ _ | assumption | refine Below.next_ ?_ ?_ (by assumption) | refine Below.drew ?_ | refine below_drewN ?_ _ | refine Below.alloc ?_ ?_ _ | refine Below.setCell ?_ ?_ _ | omega | (simp <;> omega) | (simp at * <;> omega))
  have hrb : w.heap.size + 1 < W1.heap.size := ZB.lt
  have HW1 := hide hW1
  clear hW1
  have k1 := h1.below hb_W1
  have k2 := h2.below hb_W1
  have kM := hM.below hb_W1
  have kH := hH.below hb_W1
  have HLp := hide k1.maplen
  have HLs := hide k2.maplen
  have HLm := hide kM.len
  have HMI := hide hMI
  clear hMI
  obtain ⟨⟨p0, p1, p2⟩, p3, p4, p5⟩ := PB.three
  have T := specIsDocument_any (t := t) (c := c) (d := d) k1 k2 (by omega) (by omega)
  cases hdoc : isDoc t ps ss with
  | false =>
    rw [hdoc] at T
    have HT := hide T
    clear T
    have HX := hide (show redX ms t ps ss hd = ⟨0, [], [], [], [], []⟩ by unfold redX; rw [if_neg (by simp [hdoc])])
    clear hdoc
    go_enter Try.func9, Try.ntmps9
    go_wp2_with fail
    rw [HW1.out]
    clear HW1
    refine HT.out.mono ?_
    rintro e w2 ⟨rfl, hb2⟩
    have ZB2 := ZB.below hb2
    obtain ⟨⟨z0, z1, z2, z3, z4, z5⟩, f0, f1, f2, f3, f4, f5⟩ := ZB2.six
    go_wp2_with fail
    have hbw := Below.next_ hb_W1 (by omega) hb2
    have bb := ((((((hbw).setCell (p := ⟨w.heap.size + 1, 0, none⟩) (by show w.heap.size ≤ w.heap.size + 1; omega) (.int .i64 0)).setCell (p := ⟨w.heap.size + 1, 1, none⟩) (by show w.heap.size ≤ w.heap.size + 1; omega) (.slice none 0 0)).setCell (p := ⟨w.heap.size + 1, 2, none⟩) (by show w.heap.size ≤ w.heap.size + 1; omega) (.slice none 0 0)).setCell (p := ⟨w.heap.size + 1, 3, none⟩) (by show w.heap.size ≤ w.heap.size + 1; omega) (.slice none 0 0)).setCell (p := ⟨w.heap.size + 1, 4, none⟩) (by show w.heap.size ≤ w.heap.size + 1; omega) (.slice none 0 0)).setCell (p := ⟨w.heap.size + 1, 5, none⟩) (by show w.heap.size ≤ w.heap.size + 1; omega) (.slice none 0 0)
    exact bodyPost_ret (v := .tuple #[reV 0 none none none none none 0 0 0 0 0 0 0 0 0 0, .bool false]) (by simp [results, Try.results9, go_sem, *]) rfl (by
      rw [HX.out]
      exact ⟨none, none, none, none, none, 0, 0, 0, 0, 0, 0, 0, 0, 0, 0, [], 0, rfl, rfl, Rows_.nils _ _ _ [3, 4, 9, 3, 24], bb⟩)
  | true =>
    rw [hdoc] at T
    have HT := hide T
    clear T
    have HX := hide (show redX ms t ps ss hd = ⟨t, ms, rB hd ps.length, rP hd ps ps.length, rS hd ss ps.length, rD hd ms ps ss ps.length⟩ by unfold redX; rw [if_pos hdoc])
    obtain ⟨⟨ht0, ht1⟩, ⟨hn1, hn6⟩, hl, hps, hsx⟩ := isDoc_all hdoc
    obtain rfl : m = n := by rw [← HLp.out, ← HLs.out]; exact hl
    have HPS := hide hps
    have HSX := hide hsx
    rw [HLp.out] at hn1 hn6
    clear hdoc hl hps hsx
    go_enter Try.func9, Try.ntmps9
    go_wp2_with fail
    rw [HW1.out]
    clear HW1
    refine HT.out.mono ?_
    rintro e w2 ⟨rfl, hb2⟩
    have hz2 := hb2.size
    clear HT p0 p1 p2 p3 p4 p5
    have PB2 := PB.below hb2
    obtain ⟨⟨p0, p1, p2⟩, p3, p4, p5⟩ := PB2.three
    go_upto_region 3 with fail
    go_cut [8] from 16 to 21 (fun p wx => ∃ (bx : Nat) (M : Option Addr) (cM : Nat), p = .pointer (some ⟨bx, 0, none⟩) ∧ RecX W1.heap.size W1 wx bx t [⟨3, M, nm, cM, ints ms⟩, ⟨4, none, 0, 0, []⟩, ⟨9, none, 0, 0, []⟩, ⟨3, none, 0, 0, []⟩, ⟨24, none, 0, 0, []⟩] [])
    case first =>
      refine wp_region_upto (S := (fun w' => w'.cell? ⟨w.heap.size, 0, none⟩ = some (.int .i64 t))) 7 (by kernel_rfl) ?_ ?_
      · exact keep1 (W := w2) ((Below.refl _ _).drew) p0
      obtain ⟨w3, hw3⟩ : ∃ x, w2.drew = x := ⟨_, rfl⟩
      have BB3 : Below w2.heap.size w2 w3 := by rw [← hw3]; exact (Below.refl _ _).drew
      rw [hw3]
      intro hHeld
      clear hw3
      refine upto_take (i := 0) (v := ?v4) rfl (by kernel_rfl) (by kernel_rfl) (by kernel_rfl) (by kernel_rfl) (fun _ _ _ h => h) hHeld ?hy4 (by rfl) ?rest4
      case hy4 => (intro w' hSw; (try dsimp only at hSw); go_simp; (try with_reducible rfl))
      (try simp only [Act.put, List.setIfInBounds_toArray, List.set_cons_zero, List.set_cons_succ])
      refine upto_take (i := 1) (v := ?v5) rfl (by kernel_rfl) (by kernel_rfl) (by kernel_rfl) (by kernel_rfl) (fun _ _ _ h => h) hHeld ?hy5 (by rfl) ?rest5
      case hy5 => (intro w' hSw; (try dsimp only at hSw); go_simp; (try with_reducible rfl))
      (try simp only [Act.put, List.setIfInBounds_toArray, List.set_cons_zero, List.set_cons_succ])
      refine upto_take (i := 3) (v := ?v6) rfl (by kernel_rfl) (by kernel_rfl) (by kernel_rfl) (by kernel_rfl) (fun _ _ _ h => h) hHeld ?hy6 (by rfl) ?rest6
      case hy6 => (intro w' hSw; (try dsimp only at hSw); go_simp; (try with_reducible rfl))
      (try simp only [Act.put, List.setIfInBounds_toArray, List.set_cons_zero, List.set_cons_succ])
      clear hHeld
      have RR3 : Rows_ w3 w2.heap.size (w.heap.size + 1) [] := Rows_.empty _ _ _
      refine upto_step2 (k1 := 2) (k2 := 6) (by kernel_rfl) rfl rfl (fun K hK => ?_) (fun K hK => ?_)
      · go_simp
        obtain ⟨w4, hw4⟩ : ∃ x, w3.alloc (.cells #[] 3) = x := ⟨_, rfl⟩
        have hbb4 : Below w3.heap.size w3 w4 := by rw [← hw4]; exact (Below.refl _ _).alloc (Nat.le_refl _) _
        have hl4 : w4.ownsRow w3.heap.size 3 1 (.slice (some ⟨w3.heap.size, 0, none⟩) 0 0) 0 [] := by rw [← hw4]; exact World.ownsRow_lit (base := w3.heap.size) (e := 3) (size := 1) w3 #[] 0 (Nat.le_refl _) (by unfold maxLen; omega) rfl
        rw [hw4]
        clear hw4
        have BB4 := Below.next_ BB3 BB3.size hbb4
        have RR4 := (RR3.below hbb4).push (f := ⟨3, some ⟨w3.heap.size, 0, none⟩, 0, 0, []⟩) (fun i g hg q hq => ((RR3.own i g hg).lt q (by rw [blk_own]; exact hq)).2) (by have := BB3.size; omega) hl4 BB3.size
        simp only [List.nil_append, List.cons_append] at RR4
        refine hK.out _ _ ?_ ?_
        · (intro _; exact keep1 (W := w2) (BB4) p0)
        clear hK K
        (try simp only [Act.put, List.setIfInBounds_toArray, List.set_cons_zero, List.set_cons_succ])
        refine upto_step2 (k1 := 4) (k2 := 6) (by kernel_rfl) rfl rfl (fun K hK => ?_) (fun K hK => ?_)
        · refine step_app2 (B := w2.heap.size) (w0 := w2) _ rfl (.tmp 18) (.tmp 19) 24 rfl 3 iInt (.int .i64 0) 1 8 Try.underlying24 hiInt hzInt0 hzInt1 hzInt2 rfl (by omega) rfl (RR4.own 0 _ rfl) rfl ((kM.below hb2).below BB4) (ints_one _) (by unfold maxLen; omega) (by omega) (Nat.zero_add _) (List.nil_append _) BB4 BB4.size (Nat.le_refl _) BB4.size ?_
          intro A5 c5 w5 ho5 BB5 hg5 hat5
          have RR5 := RR4.app (i := 0) (by have := BB4.size; omega) rfl (Below.refl _ _) ho5 hg5 hat5
          simp only [List.set_cons_zero, List.set_cons_succ] at RR5
          refine hK.out _ _ ?_ ?_
          · (intro _; exact keep1 (W := w2) (BB5) p0)
          clear hK K
          (try simp only [Act.put, List.setIfInBounds_toArray, List.set_cons_zero, List.set_cons_succ])
          refine upto_step2 (k1 := 5) (k2 := 6) (by kernel_rfl) rfl rfl (fun K hK => ?_) (fun K hK => ?_)
          · go_simp
            refine hK.out _ _ ?_ ?_
            · (intro _; exact keep1 (W := w2) (BB5) p0)
            clear hK K
            (try simp only [Act.put, List.setIfInBounds_toArray, List.set_cons_zero, List.set_cons_succ])
            refine upto_step (k := 6) (by kernel_rfl) rfl (fun K hK => ?_)
            go_simp
            obtain ⟨w6, hw6⟩ : ∃ x, w5.alloc (.cells #[.int .i64 0, .slice none 0 0, .slice none 0 0, .slice none 0 0, .slice none 0 0, .slice none 0 0] 33) = x := ⟨_, rfl⟩
            have hbb6 : Below w5.heap.size w5 w6 := by rw [← hw6]; exact (Below.refl _ _).alloc (Nat.le_refl _) _
            have BX6 : Blk w6 w5.heap.size [.int .i64 0, .slice none 0 0, .slice none 0 0, .slice none 0 0, .slice none 0 0, .slice none 0 0] := by rw [← hw6]; exact Blk.new _ _ _
            rw [hw6]
            clear hw6
            have hlt6 : w5.heap.size < w6.heap.size := BX6.lt
            have hlo6 : w2.heap.size ≤ w5.heap.size := BB5.size
            have BB6 := Below.next_ BB5 BB5.size hbb6
            have RR6 := (RR5.rek (Nat.le_refl _)).below hbb6
            refine hK.out _ _ ?_ ?_
            · (intro _; exact keep1 (W := w2) (BB6) p0)
            clear hK K
            (try simp only [Act.put, List.setIfInBounds_toArray, List.set_cons_zero, List.set_cons_succ])
            obtain ⟨⟨y0, y1, y2, y3, y4, y5⟩, g0, g1, g2, g3, g4, g5⟩ := BX6.six
            refine upto_step (k := 7) (by kernel_rfl) rfl (fun K hK => ?_)
            go_simp
            refine hK.out _ _ ?_ ?_
            · (intro h; exact absurd rfl h)
            clear hK K
            (try simp only [Act.put, List.setIfInBounds_toArray, List.set_cons_zero, List.set_cons_succ])
            refine upto_done (by kernel_rfl) ?_ _
            go_wp2_with fail
            go_meet
            exact ⟨w5.heap.size, A5, c5, rfl, RecX.fill BX6 (RR6.base hz2) (by omega) (hb2.trans (BB6.mono hz2))⟩
          · go_simp
            obtain ⟨w7, hw7⟩ : ∃ x, w5.alloc (.cells #[.int .i64 0, .slice none 0 0, .slice none 0 0, .slice none 0 0, .slice none 0 0, .slice none 0 0] 33) = x := ⟨_, rfl⟩
            have hbb7 : Below w5.heap.size w5 w7 := by rw [← hw7]; exact (Below.refl _ _).alloc (Nat.le_refl _) _
            have BX7 : Blk w7 w5.heap.size [.int .i64 0, .slice none 0 0, .slice none 0 0, .slice none 0 0, .slice none 0 0, .slice none 0 0] := by rw [← hw7]; exact Blk.new _ _ _
            rw [hw7]
            clear hw7
            have hlt7 : w5.heap.size < w7.heap.size := BX7.lt
            have hlo7 : w2.heap.size ≤ w5.heap.size := BB5.size
            have BB7 := Below.next_ BB5 BB5.size hbb7
            have RR7 := (RR5.rek (Nat.le_refl _)).below hbb7
            refine hK.out _ _ ?_ ?_
            · (intro _; exact keep1 (W := w2) (BB7) p0)
            clear hK K
            (try simp only [Act.put, List.setIfInBounds_toArray, List.set_cons_zero, List.set_cons_succ])
            refine upto_step (k := 5) (by kernel_rfl) rfl (fun K hK => ?_)
            go_simp
            refine hK.out _ _ ?_ ?_
            · (intro _; exact keep1 (W := w2) (BB7) p0)
            clear hK K
            (try simp only [Act.put, List.setIfInBounds_toArray, List.set_cons_zero, List.set_cons_succ])
            obtain ⟨⟨y0, y1, y2, y3, y4, y5⟩, g0, g1, g2, g3, g4, g5⟩ := BX7.six
            refine upto_step (k := 7) (by kernel_rfl) rfl (fun K hK => ?_)
            go_simp
            refine hK.out _ _ ?_ ?_
            · (intro h; exact absurd rfl h)
            clear hK K
            (try simp only [Act.put, List.setIfInBounds_toArray, List.set_cons_zero, List.set_cons_succ])
            refine upto_done (by kernel_rfl) ?_ _
            go_wp2_with fail
            go_meet
            exact ⟨w5.heap.size, A5, c5, rfl, RecX.fill BX7 (RR7.base hz2) (by omega) (hb2.trans (BB7.mono hz2))⟩
        · go_simp
          obtain ⟨w8, hw8⟩ : ∃ x, w4.alloc (.cells #[.int .i64 0, .slice none 0 0, .slice none 0 0, .slice none 0 0, .slice none 0 0, .slice none 0 0] 33) = x := ⟨_, rfl⟩
          have hbb8 : Below w4.heap.size w4 w8 := by rw [← hw8]; exact (Below.refl _ _).alloc (Nat.le_refl _) _
          have BX8 : Blk w8 w4.heap.size [.int .i64 0, .slice none 0 0, .slice none 0 0, .slice none 0 0, .slice none 0 0, .slice none 0 0] := by rw [← hw8]; exact Blk.new _ _ _
          rw [hw8]
          clear hw8
          have hlt8 : w4.heap.size < w8.heap.size := BX8.lt
          have hlo8 : w2.heap.size ≤ w4.heap.size := BB4.size
          have BB8 := Below.next_ BB4 BB4.size hbb8
          have RR8 := (RR4.rek (Nat.le_refl _)).below hbb8
          refine hK.out _ _ ?_ ?_
          · (intro _; exact keep1 (W := w2) (BB8) p0)
          clear hK K
          (try simp only [Act.put, List.setIfInBounds_toArray, List.set_cons_zero, List.set_cons_succ])
          refine upto_step (k := 4) (by kernel_rfl) rfl (fun K hK => ?_)
          refine step_app2 (B := w2.heap.size) (w0 := w2) _ rfl (.tmp 18) (.tmp 19) 24 rfl 3 iInt (.int .i64 0) 1 8 Try.underlying24 hiInt hzInt0 hzInt1 hzInt2 rfl (by omega) rfl (RR8.own 0 _ rfl) rfl ((kM.below hb2).below BB8) (ints_one _) (by unfold maxLen; omega) (by omega) (Nat.zero_add _) (List.nil_append _) BB8 BB8.size (Nat.le_refl _) BB8.size ?_
          intro A9 c9 w9 ho9 BB9 hg9 hat9
          have RR9 := RR8.app (i := 0) BX8.lt rfl (Below.refl _ _) ho9 hg9 hat9
          simp only [List.set_cons_zero, List.set_cons_succ] at RR9
          have BX9 := BX8.grown hg9 (RR8.off 0 _ rfl)
          refine hK.out _ _ ?_ ?_
          · (intro _; exact keep1 (W := w2) (BB9) p0)
          clear hK K
          (try simp only [Act.put, List.setIfInBounds_toArray, List.set_cons_zero, List.set_cons_succ])
          refine upto_step (k := 5) (by kernel_rfl) rfl (fun K hK => ?_)
          go_simp
          refine hK.out _ _ ?_ ?_
          · (intro _; exact keep1 (W := w2) (BB9) p0)
          clear hK K
          (try simp only [Act.put, List.setIfInBounds_toArray, List.set_cons_zero, List.set_cons_succ])
          obtain ⟨⟨y0, y1, y2, y3, y4, y5⟩, g0, g1, g2, g3, g4, g5⟩ := BX9.six
          refine upto_step (k := 7) (by kernel_rfl) rfl (fun K hK => ?_)
          go_simp
          refine hK.out _ _ ?_ ?_
          · (intro h; exact absurd rfl h)
          clear hK K
          (try simp only [Act.put, List.setIfInBounds_toArray, List.set_cons_zero, List.set_cons_succ])
          refine upto_done (by kernel_rfl) ?_ _
          go_wp2_with fail
          go_meet
          exact ⟨w4.heap.size, A9, c9, rfl, RecX.fill BX9 (RR9.base hz2) (by omega) (hb2.trans (BB9.mono hz2))⟩
      · go_simp
        obtain ⟨w10, hw10⟩ : ∃ x, w3.alloc (.cells #[.int .i64 0, .slice none 0 0, .slice none 0 0, .slice none 0 0, .slice none 0 0, .slice none 0 0] 33) = x := ⟨_, rfl⟩
        have hbb10 : Below w3.heap.size w3 w10 := by rw [← hw10]; exact (Below.refl _ _).alloc (Nat.le_refl _) _
        have BX10 : Blk w10 w3.heap.size [.int .i64 0, .slice none 0 0, .slice none 0 0, .slice none 0 0, .slice none 0 0, .slice none 0 0] := by rw [← hw10]; exact Blk.new _ _ _
        rw [hw10]
        clear hw10
        have hlt10 : w3.heap.size < w10.heap.size := BX10.lt
        have hlo10 : w2.heap.size ≤ w3.heap.size := BB3.size
        have BB10 := Below.next_ BB3 BB3.size hbb10
        have RR10 := (RR3.rek (Nat.le_refl _)).below hbb10
        refine hK.out _ _ ?_ ?_
        · (intro _; exact keep1 (W := w2) (BB10) p0)
        clear hK K
        (try simp only [Act.put, List.setIfInBounds_toArray, List.set_cons_zero, List.set_cons_succ])
        refine upto_step (k := 2) (by kernel_rfl) rfl (fun K hK => ?_)
        go_simp
        obtain ⟨w11, hw11⟩ : ∃ x, w10.alloc (.cells #[] 3) = x := ⟨_, rfl⟩
        have hbb11 : Below w10.heap.size w10 w11 := by rw [← hw11]; exact (Below.refl _ _).alloc (Nat.le_refl _) _
        have hl11 : w11.ownsRow w10.heap.size 3 1 (.slice (some ⟨w10.heap.size, 0, none⟩) 0 0) 0 [] := by rw [← hw11]; exact World.ownsRow_lit (base := w10.heap.size) (e := 3) (size := 1) w10 #[] 0 (Nat.le_refl _) (by unfold maxLen; omega) rfl
        rw [hw11]
        clear hw11
        have BB11 := Below.next_ BB10 BB10.size hbb11
        have RR11 := (RR10.below hbb11).push (f := ⟨3, some ⟨w10.heap.size, 0, none⟩, 0, 0, []⟩) (fun i g hg q hq => ((RR10.own i g hg).lt q (by rw [blk_own]; exact hq)).2) BX10.lt hl11 BB10.size
        simp only [List.nil_append, List.cons_append] at RR11
        have BX11 := BX10.below hbb11
        refine hK.out _ _ ?_ ?_
        · (intro _; exact keep1 (W := w2) (BB11) p0)
        clear hK K
        (try simp only [Act.put, List.setIfInBounds_toArray, List.set_cons_zero, List.set_cons_succ])
        refine upto_step (k := 4) (by kernel_rfl) rfl (fun K hK => ?_)
        refine step_app2 (B := w2.heap.size) (w0 := w2) _ rfl (.tmp 18) (.tmp 19) 24 rfl 3 iInt (.int .i64 0) 1 8 Try.underlying24 hiInt hzInt0 hzInt1 hzInt2 rfl (by omega) rfl (RR11.own 0 _ rfl) rfl ((kM.below hb2).below BB11) (ints_one _) (by unfold maxLen; omega) (by omega) (Nat.zero_add _) (List.nil_append _) BB11 BB11.size (Nat.le_refl _) BB11.size ?_
        intro A12 c12 w12 ho12 BB12 hg12 hat12
        have RR12 := RR11.app (i := 0) BX11.lt rfl (Below.refl _ _) ho12 hg12 hat12
        simp only [List.set_cons_zero, List.set_cons_succ] at RR12
        have BX12 := BX11.grown hg12 (RR11.off 0 _ rfl)
        refine hK.out _ _ ?_ ?_
        · (intro _; exact keep1 (W := w2) (BB12) p0)
        clear hK K
        (try simp only [Act.put, List.setIfInBounds_toArray, List.set_cons_zero, List.set_cons_succ])
        refine upto_step (k := 5) (by kernel_rfl) rfl (fun K hK => ?_)
        go_simp
        refine hK.out _ _ ?_ ?_
        · (intro _; exact keep1 (W := w2) (BB12) p0)
        clear hK K
        (try simp only [Act.put, List.setIfInBounds_toArray, List.set_cons_zero, List.set_cons_succ])
        obtain ⟨⟨y0, y1, y2, y3, y4, y5⟩, g0, g1, g2, g3, g4, g5⟩ := BX12.six
        refine upto_step (k := 7) (by kernel_rfl) rfl (fun K hK => ?_)
        go_simp
        refine hK.out _ _ ?_ ?_
        · (intro h; exact absurd rfl h)
        clear hK K
        (try simp only [Act.put, List.setIfInBounds_toArray, List.set_cons_zero, List.set_cons_succ])
        refine upto_done (by kernel_rfl) ?_ _
        go_wp2_with fail
        go_meet
        exact ⟨w3.heap.size, A12, c12, rfl, RecX.fill BX12 (RR12.base hz2) (by omega) (hb2.trans (BB12.mono hz2))⟩
    case rest =>
      obtain ⟨bx, M, cM, rfl, hR0⟩ := hcut
      have hb0 := hR0.bel
      have hz0 := hb0.size
      clear p0 p1 p2 p3 p4 p5 PB2 hb2
      obtain ⟨⟨pw0, pw1, pw2⟩, pw3, pw4, pw5⟩ := PB.three
      have PB3 := PB.below hb0
      obtain ⟨⟨p0, p1, p2⟩, p3, p4, p5⟩ := PB3.three
      go_wp2_with fail
      go_loopw [9] (fun i wr => ∃ (k c1 c2 c3 c4 : Nat) (A1 A2 A3 A4 : Option Addr) (rs : List Sr), k ≤ m ∧ i = .int .i64 k ∧ rs.length = k ∧ RecX W1.heap.size W1 wr bx t [⟨3, M, nm, cM, ints ms⟩, ⟨4, A1, k, c1, bls (rB hd k)⟩, ⟨9, A2, k, c2, sts (rP hd ps k)⟩, ⟨3, A3, k, c3, ints (rS hd ss k)⟩, ⟨24, A4, k, c4, srs rs⟩] (inn rs (rD hd ms ps ss k))) (fun i _ => m - (intOf i).toNat)
      case atStart => exact ⟨0, 0, 0, 0, 0, none, none, none, none, [], Nat.zero_le _, rfl, rfl, hR0⟩
      case round =>
        clear hR0 p0 p1 p2 p3 p4 p5 PB3 hb0 hz0
        obtain ⟨k, c1, c2, c3, c4, A1, A2, A3, A4, rs, hk, rfl, hrl, hrec⟩ := hrel
        have hk0 : (0 : Int) ≤ (k : Int) := by omega
        have hb := hrec.bel
        have hsb := hrec.sz
        have hlo := hrec.lo
        have hz := hb.size
        obtain ⟨⟨y0, y1, y2, y3, y4, y5⟩, ⟨g0, g1, g2, g3, g4, g5⟩, o1, o2, o3, o4, o5⟩ := hrec.six
        have PB3 := PB.below hb
        obtain ⟨⟨p0, p1, p2⟩, p3, p4, p5⟩ := PB3.three
        by_cases hlt : k < m
        rotate_left
        · have HRL := hide hrl
          obtain rfl : k = m := by omega
          have hkn : ¬ (k : Int) < (k : Int) := by omega
          have ZB3 := ZB.below hb
          obtain ⟨⟨z0, z1, z2, z3, z4, z5⟩, f0, f1, f2, f3, f4, f5⟩ := ZB3.six
          have hbw := Below.next_ hb_W1 (by omega) hb
          go_wp2_with fail
          have bb := ((((((hbw).setCell (p := ⟨w.heap.size + 1, 0, none⟩) (by show w.heap.size ≤ w.heap.size + 1; omega) (.int .i64 t)).setCell (p := ⟨w.heap.size + 1, 1, none⟩) (by show w.heap.size ≤ w.heap.size + 1; omega) (.slice M nm cM)).setCell (p := ⟨w.heap.size + 1, 2, none⟩) (by show w.heap.size ≤ w.heap.size + 1; omega) (.slice A1 k c1)).setCell (p := ⟨w.heap.size + 1, 3, none⟩) (by show w.heap.size ≤ w.heap.size + 1; omega) (.slice A2 k c2)).setCell (p := ⟨w.heap.size + 1, 4, none⟩) (by show w.heap.size ≤ w.heap.size + 1; omega) (.slice A3 k c3)).setCell (p := ⟨w.heap.size + 1, 5, none⟩) (by show w.heap.size ≤ w.heap.size + 1; omega) (.slice A4 k c4)
          have RF := ((((((hrec.rows).old (j := 0) hrb (.int .i64 t)).old (j := 1) hrb (.slice M nm cM)).old (j := 2) hrb (.slice A1 k c1)).old (j := 3) hrb (.slice A2 k c2)).old (j := 4) hrb (.slice A3 k c3)).old (j := 5) hrb (.slice A4 k c4)
          exact bodyPost_ret (v := .tuple #[reV t M A1 A2 A3 A4 nm k k k k cM c1 c2 c3 c4, .bool true]) (by simp [results, Try.results9, go_sem, *]) rfl (by
            rw [HX.out, HLp.out]
            exact ⟨M, A1, A2, A3, A4, nm, k, k, k, k, cM, c1, c2, c3, c4, rs, bx, rfl, by rw [rD_len]; exact hrl, RF.base (by omega), bb⟩)
        have hkn : (k : Int) < (m : Int) := by omega
        obtain ⟨pd, p, rfl, hp, hcp0⟩ := Rd.st k1 hlt
        obtain ⟨sd, s, rfl, hs, hcs0⟩ := Rd.int k2 hlt
        have hpsz := HPS.out p (List.mem_of_getElem? hp)
        have hsI : I64 s := by have := HSX.out s (List.mem_of_getElem? hs); exact ⟨by omega, by omega⟩
        have HP := hide (show ps.getD k ByteArray.empty = p by rw [List.getD_eq_getElem?_getD, hp]; rfl)
        have HS := hide (show ss.getD k 0 = s by rw [List.getD_eq_getElem?_getD, hs]; rfl)
        have HRL := hide hrl
        clear hp hs hrl
        obtain ⟨hh, hhh⟩ : ∃ x, hasF hd (k : Int) = x := ⟨_, rfl⟩
        have HT2 := hide (show ∀ V : World, Below W1.heap.size W1 V → Calls Try.prog 37 #[.slice Ho nh ch, .int .i64 (k : Int)] V fun e w' => e = .returned (.bool hh) ∧ V = w' from fun V hV => by
          have T := l7Has_any (x := (k : Int)) (c := ch) (kH.below hV) (by omega)
          rwa [hhh] at T)
        have HHH := hide (show hid hd k = hh from hhh)
        clear hhh
        obtain ⟨w7, hw7⟩ : ∃ x, wr.alloc (.cells #[] 3) = x := ⟨_, rfl⟩
        have hb7 : Below wr.heap.size wr w7 := by rw [← hw7]; exact (Below.refl _ _).alloc (Nat.le_refl _) _
        have hl7 : w7.ownsRow wr.heap.size 3 1 (.slice (some ⟨wr.heap.size, 0, none⟩) 0 0) 0 [] := by rw [← hw7]; exact World.ownsRow_lit (base := wr.heap.size) (e := 3) (size := 1) wr #[] 0 (Nat.le_refl _) (by unfold maxLen; omega) rfl
        have hz7 := hb7.size
        have HW7 := hide hw7
        clear hw7
        go_upto_region 8 with fail
        rw [HW7.out]
        clear HW7 p0 p1 p2 p3 p4 p5 PB3
        clear y0 y1 y2 y3 y4 y5 g0 g1 g2 g3 g4 g5 o1 o2 o3 o4 o5
        have hbw7 := Below.next_ hb hz hb7
        have hcp := keep1 hbw7 hcp0
        have hcs := keep1 hbw7 hcs0
        go_upto_if 32 with (go_at_call 37; refine (HT2.out _ hbw7).mono ?_; rintro e _ ⟨rfl, rfl⟩)
        go_cut [10] from 33 to 86 (fun xv wx => ∃ (A5 B2 B3 : Option Addr) (n5 c5 b2 b3 : Nat), xv = .slice A5 n5 c5 ∧ RecX W1.heap.size W1 wx bx t [⟨3, M, nm, cM, ints ms⟩, ⟨4, A1, k, c1, bls (rB hd k)⟩, ⟨9, B2, k + 1, b2, sts (rP hd ps (k + 1))⟩, ⟨3, B3, k + 1, b3, ints (rS hd ss (k + 1))⟩, ⟨24, A4, k, c4, srs rs⟩] (inn (rs ++ [(A5, n5, c5)]) (rD hd ms ps ss (k + 1))))
        case first =>
          cases hh with
          | false =>
            have hnew := (hrec.below hb7).push (f := ⟨3, some ⟨wr.heap.size, 0, none⟩, 0, 0, ints []⟩) (fun i g hg q hq => hrec.lt i g hg q hq) hsb hl7
            rw [← inn_snoc (by rw [rD_len]; exact HRL.out) (some ⟨wr.heap.size, 0, none⟩, 0, 0)] at hnew
            rw [show rD hd ms ps ss k ++ [[]] = rD hd ms ps ss (k + 1) by rw [rD_succ, HHH.out]; rfl] at hnew
            have HPn := hide (show rP hd ps (k + 1) = rP hd ps k ++ [p] by rw [rP_succ, HHH.out, HP.out]; rfl)
            have HSn := hide (show rS hd ss (k + 1) = rS hd ss k ++ [s] by rw [rS_succ, HHH.out, HS.out]; rfl)
            have PB4 := PB.below hbw7
            obtain ⟨⟨p0, p1, p2⟩, p3, p4, p5⟩ := PB4.three
            obtain ⟨⟨y0, y1, y2, y3, y4, y5⟩, ⟨g0, g1, g2, g3, g4, g5⟩, o1, o2, o3, o4, o5⟩ := hnew.six
            go_wp2_with fail
            refine wp_region_upto (S := (fun w' => w'.cell? ⟨w.heap.size, 1, none⟩ = some (.slice (some pd) m c) ∧ w'.cell? (pd.add k) = some (.string p) ∧ w'.cell? ⟨bx, 3, none⟩ = some (.slice A2 k c2))) 10 (by kernel_rfl) ?_ (fun hHeld => ?_)
            · exact keep3 (W := w7) (by repeat (first | exact Below.refl _ _ | assumption | refine Below.next_ ?_ ?_ (by assumption) | refine Below.drew ?_ | refine below_drewN ?_ _ | refine Below.alloc ?_ ?_ _ | refine Below.setCell ?_ ?_ _ | omega | (dsimp only; omega) | (simp <;> omega) | (simp at * <;> omega))) p1 hcp y3
            refine upto_take (i := 0) (v := ?v7) rfl (by kernel_rfl) (by kernel_rfl) (by kernel_rfl) (by kernel_rfl) (fun _ _ _ h => h) hHeld ?hy7 (by rfl) ?rest7
            case hy7 => (intro w' hSw; (try dsimp only at hSw); go_simp; (try with_reducible rfl))
            (try simp only [Act.put, List.setIfInBounds_toArray, List.set_cons_zero, List.set_cons_succ])
            refine upto_take (i := 1) (v := ?v8) rfl (by kernel_rfl) (by kernel_rfl) (by kernel_rfl) (by kernel_rfl) (fun _ _ _ h => h) hHeld ?hy8 (by rfl) ?rest8
            case hy8 => (intro w' hSw; (try dsimp only at hSw); go_simp; (try with_reducible rfl))
            (try simp only [Act.put, List.setIfInBounds_toArray, List.set_cons_zero, List.set_cons_succ])
            refine upto_take (i := 2) (v := ?v9) rfl (by kernel_rfl) (by kernel_rfl) (by kernel_rfl) (by kernel_rfl) (fun _ _ _ h => h) hHeld ?hy9 (by rfl) ?rest9
            case hy9 => (intro w' hSw; (try dsimp only at hSw); go_simp; (try with_reducible rfl))
            (try simp only [Act.put, List.setIfInBounds_toArray, List.set_cons_zero, List.set_cons_succ])
            refine upto_take (i := 3) (v := ?v10) rfl (by kernel_rfl) (by kernel_rfl) (by kernel_rfl) (by kernel_rfl) (fun _ _ _ h => h) hHeld ?hy10 (by rfl) ?rest10
            case hy10 => (intro w' hSw; (try dsimp only at hSw); go_simp; (try with_reducible rfl))
            (try simp only [Act.put, List.setIfInBounds_toArray, List.set_cons_zero, List.set_cons_succ])
            refine upto_take (i := 4) (v := ?v11) rfl (by kernel_rfl) (by kernel_rfl) (by kernel_rfl) (by kernel_rfl) (fun _ _ _ h => h) hHeld ?hy11 (by rfl) ?rest11
            case hy11 => (intro w' hSw; (try dsimp only at hSw); go_simp; (try with_reducible rfl))
            (try simp only [Act.put, List.setIfInBounds_toArray, List.set_cons_zero, List.set_cons_succ])
            refine upto_take (i := 5) (v := ?v12) rfl (by kernel_rfl) (by kernel_rfl) (by kernel_rfl) (by kernel_rfl) (fun _ _ _ h => h) hHeld ?hy12 (by rfl) ?rest12
            case hy12 => (intro w' hSw; (try dsimp only at hSw); go_simp; (try with_reducible rfl))
            (try simp only [Act.put, List.setIfInBounds_toArray, List.set_cons_zero, List.set_cons_succ])
            refine upto_take (i := 6) (v := ?v13) rfl (by kernel_rfl) (by kernel_rfl) (by kernel_rfl) (by kernel_rfl) (fun _ _ _ h => h) hHeld ?hy13 (by rfl) ?rest13
            case hy13 => (intro w' hSw; (try dsimp only at hSw); go_simp; (try with_reducible rfl))
            (try simp only [Act.put, List.setIfInBounds_toArray, List.set_cons_zero, List.set_cons_succ])
            refine upto_step (k := 7) (by kernel_rfl) rfl (fun K hK => ?_)
            go_simp
            refine hK.out _ _ ?_ ?_
            · (intro _; exact keep3 (W := w7) (by repeat (first | exact Below.refl _ _ | assumption | refine Below.next_ ?_ ?_ (by assumption) | refine Below.drew ?_ | refine below_drewN ?_ _ | refine Below.alloc ?_ ?_ _ | refine Below.setCell ?_ ?_ _ | omega | (dsimp only; omega) | (simp <;> omega) | (simp at * <;> omega))) p1 hcp y3)
            clear hK K
            (try simp only [Act.put, List.setIfInBounds_toArray, List.set_cons_zero, List.set_cons_succ])
            refine upto_step (k := 8) (by kernel_rfl) rfl (fun K hK => ?_)
            ((first | (refine step_app2 (B := W1.heap.size) (w0 := W1) _ rfl (.tmp 68) (.tmp 74) 25 rfl 9 iString (.string ByteArray.empty) 1 16 Try.underlying25 hiString hzString0 hzString1 hzString2 rfl (by omega) rfl (own_below o3 ?_) rfl (Rd.one _ _ _) (sts_one [_]) ?_ ?_ rfl rfl ?_ ?_ ?_ ?_ ?_; (focus (repeat (first | exact Below.refl _ _ | assumption | refine Below.next_ ?_ ?_ (by assumption) | refine Below.drew ?_ | refine below_drewN ?_ _ | refine Below.alloc ?_ ?_ _ | refine Below.setCell ?_ ?_ _ | omega | (dsimp only; omega) | (simp <;> omega) | (simp at * <;> omega)))); (focus (unfold maxLen; omega)); (focus omega); (focus (repeat (first | exact Below.refl _ _ | assumption | refine Below.next_ ?_ ?_ (by assumption) | refine Below.drew ?_ | refine below_drewN ?_ _ | refine Below.alloc ?_ ?_ _ | refine Below.setCell ?_ ?_ _ | omega | (dsimp only; omega) | (simp <;> omega) | (simp at * <;> omega)))); (focus (first | omega | (simp <;> omega) | (simp at * <;> omega))); (focus (first | exact Nat.le_refl _ | omega)); (focus (first | omega | (simp <;> omega) | (simp at * <;> omega))); intro Aa ca wa hoa hba hga hata) | (refine step_app2 (B := W1.heap.size) (w0 := W1) _ rfl (.tmp 68) (.tmp 74) 25 rfl 9 iString (.string ByteArray.empty) 1 16 Try.underlying25 hiString hzString0 hzString1 hzString2 rfl (by omega) rfl (own_below o3 ?_) rfl (Rd.drewR (Rd.one _ _ _)) (sts_one [_]) ?_ ?_ rfl rfl ?_ ?_ ?_ ?_ ?_; (focus (repeat (first | exact Below.refl _ _ | assumption | refine Below.next_ ?_ ?_ (by assumption) | refine Below.drew ?_ | refine below_drewN ?_ _ | refine Below.alloc ?_ ?_ _ | refine Below.setCell ?_ ?_ _ | omega | (dsimp only; omega) | (simp <;> omega) | (simp at * <;> omega)))); (focus (unfold maxLen; omega)); (focus omega); (focus (repeat (first | exact Below.refl _ _ | assumption | refine Below.next_ ?_ ?_ (by assumption) | refine Below.drew ?_ | refine below_drewN ?_ _ | refine Below.alloc ?_ ?_ _ | refine Below.setCell ?_ ?_ _ | omega | (dsimp only; omega) | (simp <;> omega) | (simp at * <;> omega)))); (focus (first | omega | (simp <;> omega) | (simp at * <;> omega))); (focus (first | exact Nat.le_refl _ | omega)); (focus (first | omega | (simp <;> omega) | (simp at * <;> omega))); intro Aa ca wa hoa hba hga hata)); have hbp := (show Below w7.heap.size w7 (w7.alloc (.cells #[.string p] 9)).drew from ((Below.refl _ _).alloc (Nat.le_refl _) (.cells #[.string p] 9)).drew); have ub := RecX.kept hnew (i := 2) rfl hbp hga; obtain ⟨⟨q0, q1, q2, q3, q4, q5⟩, e0, e1, e2, e3, e4, e5⟩ := Blk.six ub; have u3 := (hba.cell (p := ⟨w.heap.size, 1, none⟩) (by show w.heap.size < W1.heap.size; omega)).trans pw1; have up := (hba.cell (p := (pd.add k)) (cell_lt hcp0)).trans hcp0)
            refine hK.out _ _ ?_ ?_
            · (intro _; exact ⟨u3, up, q3⟩)
            clear hK K
            (try simp only [Act.put, List.setIfInBounds_toArray, List.set_cons_zero, List.set_cons_succ])
            refine upto_step (k := 9) (by kernel_rfl) rfl (fun K hK => ?_)
            go_simp
            refine hK.out _ _ ?_ ?_
            · (intro _; exact ⟨u3, up, q3⟩)
            clear hK K
            (try simp only [Act.put, List.setIfInBounds_toArray, List.set_cons_zero, List.set_cons_succ])
            refine upto_step (k := 10) (by kernel_rfl) rfl (fun K hK => ?_)
            go_simp
            refine hK.out _ _ ?_ ?_
            · (intro h; exact absurd rfl h)
            clear hK K
            (try simp only [Act.put, List.setIfInBounds_toArray, List.set_cons_zero, List.set_cons_succ])
            refine upto_done (by kernel_rfl) ?_ _
            have ra := RecX.app (i := 2) hnew rfl hbp hoa hba hga hata
            simp only [List.set_cons_zero, List.set_cons_succ] at ra
            obtain ⟨va, hva⟩ : ∃ x, wa.setCell ⟨bx, 3, none⟩ (.slice Aa (k + 1) ca) = x := ⟨_, rfl⟩
            rw [hva] at ra ⊢
            clear y0 y1 y2 y3 y4 y5 g0 g1 g2 g3 g4 g5 o1 o2 o3 o4 o5
            clear hHeld hbp ub u3 up q0 q1 q2 q3 q4 q5 e0 e1 e2 e3 e4 e5 hoa hba hga hata hva
            have hba := ra.bel
            have hza := hba.size
            have PB5 := PB.below hba
            clear p0 p1 p2 p3 p4 p5 PB4 hcp hcs
            obtain ⟨⟨p0, p1, p2⟩, p3, p4, p5⟩ := PB5.three
            have hcs := keep1 hba hcs0
            obtain ⟨⟨y0, y1, y2, y3, y4, y5⟩, ⟨g0, g1, g2, g3, g4, g5⟩, o1, o2, o3, o4, o5⟩ := ra.six
            go_wp2_with fail
            refine wp_region_upto (S := (fun w' => w'.cell? ⟨w.heap.size, 2, none⟩ = some (.slice (some sd) m d) ∧ w'.cell? (sd.add k) = some (.int .i64 s) ∧ w'.cell? ⟨bx, 4, none⟩ = some (.slice A3 k c3))) 10 (by kernel_rfl) ?_ (fun hHeld => ?_)
            · exact keep3 (W := va) (by repeat (first | exact Below.refl _ _ | assumption | refine Below.next_ ?_ ?_ (by assumption) | refine Below.drew ?_ | refine below_drewN ?_ _ | refine Below.alloc ?_ ?_ _ | refine Below.setCell ?_ ?_ _ | omega | (dsimp only; omega) | (simp <;> omega) | (simp at * <;> omega))) p2 hcs y4
            refine upto_take (i := 0) (v := ?v14) rfl (by kernel_rfl) (by kernel_rfl) (by kernel_rfl) (by kernel_rfl) (fun _ _ _ h => h) hHeld ?hy14 (by rfl) ?rest14
            case hy14 => (intro w' hSw; (try dsimp only at hSw); go_simp; (try with_reducible rfl))
            (try simp only [Act.put, List.setIfInBounds_toArray, List.set_cons_zero, List.set_cons_succ])
            refine upto_take (i := 1) (v := ?v15) rfl (by kernel_rfl) (by kernel_rfl) (by kernel_rfl) (by kernel_rfl) (fun _ _ _ h => h) hHeld ?hy15 (by rfl) ?rest15
            case hy15 => (intro w' hSw; (try dsimp only at hSw); go_simp; (try with_reducible rfl))
            (try simp only [Act.put, List.setIfInBounds_toArray, List.set_cons_zero, List.set_cons_succ])
            refine upto_take (i := 2) (v := ?v16) rfl (by kernel_rfl) (by kernel_rfl) (by kernel_rfl) (by kernel_rfl) (fun _ _ _ h => h) hHeld ?hy16 (by rfl) ?rest16
            case hy16 => (intro w' hSw; (try dsimp only at hSw); go_simp; (try with_reducible rfl))
            (try simp only [Act.put, List.setIfInBounds_toArray, List.set_cons_zero, List.set_cons_succ])
            refine upto_take (i := 3) (v := ?v17) rfl (by kernel_rfl) (by kernel_rfl) (by kernel_rfl) (by kernel_rfl) (fun _ _ _ h => h) hHeld ?hy17 (by rfl) ?rest17
            case hy17 => (intro w' hSw; (try dsimp only at hSw); go_simp; (try with_reducible rfl))
            (try simp only [Act.put, List.setIfInBounds_toArray, List.set_cons_zero, List.set_cons_succ])
            refine upto_take (i := 4) (v := ?v18) rfl (by kernel_rfl) (by kernel_rfl) (by kernel_rfl) (by kernel_rfl) (fun _ _ _ h => h) hHeld ?hy18 (by rfl) ?rest18
            case hy18 => (intro w' hSw; (try dsimp only at hSw); go_simp; (try with_reducible rfl))
            (try simp only [Act.put, List.setIfInBounds_toArray, List.set_cons_zero, List.set_cons_succ])
            refine upto_take (i := 5) (v := ?v19) rfl (by kernel_rfl) (by kernel_rfl) (by kernel_rfl) (by kernel_rfl) (fun _ _ _ h => h) hHeld ?hy19 (by rfl) ?rest19
            case hy19 => (intro w' hSw; (try dsimp only at hSw); go_simp; (try with_reducible rfl))
            (try simp only [Act.put, List.setIfInBounds_toArray, List.set_cons_zero, List.set_cons_succ])
            refine upto_take (i := 6) (v := ?v20) rfl (by kernel_rfl) (by kernel_rfl) (by kernel_rfl) (by kernel_rfl) (fun _ _ _ h => h) hHeld ?hy20 (by rfl) ?rest20
            case hy20 => (intro w' hSw; (try dsimp only at hSw); go_simp; (try with_reducible rfl))
            (try simp only [Act.put, List.setIfInBounds_toArray, List.set_cons_zero, List.set_cons_succ])
            refine upto_step (k := 7) (by kernel_rfl) rfl (fun K hK => ?_)
            go_simp
            refine hK.out _ _ ?_ ?_
            · (intro _; exact keep3 (W := va) (by repeat (first | exact Below.refl _ _ | assumption | refine Below.next_ ?_ ?_ (by assumption) | refine Below.drew ?_ | refine below_drewN ?_ _ | refine Below.alloc ?_ ?_ _ | refine Below.setCell ?_ ?_ _ | omega | (dsimp only; omega) | (simp <;> omega) | (simp at * <;> omega))) p2 hcs y4)
            clear hK K
            (try simp only [Act.put, List.setIfInBounds_toArray, List.set_cons_zero, List.set_cons_succ])
            refine upto_step (k := 8) (by kernel_rfl) rfl (fun K hK => ?_)
            ((first | (refine step_app2 (B := W1.heap.size) (w0 := W1) _ rfl (.tmp 78) (.tmp 84) 24 rfl 3 iInt (.int .i64 0) 1 8 Try.underlying24 hiInt hzInt0 hzInt1 hzInt2 rfl (by omega) rfl (own_below o4 ?_) rfl (Rd.one _ _ _) (ints_one [_]) ?_ ?_ rfl rfl ?_ ?_ ?_ ?_ ?_; (focus (repeat (first | exact Below.refl _ _ | assumption | refine Below.next_ ?_ ?_ (by assumption) | refine Below.drew ?_ | refine below_drewN ?_ _ | refine Below.alloc ?_ ?_ _ | refine Below.setCell ?_ ?_ _ | omega | (dsimp only; omega) | (simp <;> omega) | (simp at * <;> omega)))); (focus (unfold maxLen; omega)); (focus omega); (focus (repeat (first | exact Below.refl _ _ | assumption | refine Below.next_ ?_ ?_ (by assumption) | refine Below.drew ?_ | refine below_drewN ?_ _ | refine Below.alloc ?_ ?_ _ | refine Below.setCell ?_ ?_ _ | omega | (dsimp only; omega) | (simp <;> omega) | (simp at * <;> omega)))); (focus (first | omega | (simp <;> omega) | (simp at * <;> omega))); (focus (first | exact Nat.le_refl _ | omega)); (focus (first | omega | (simp <;> omega) | (simp at * <;> omega))); intro Ab cb wb hob hbb hgb hatb) | (refine step_app2 (B := W1.heap.size) (w0 := W1) _ rfl (.tmp 78) (.tmp 84) 24 rfl 3 iInt (.int .i64 0) 1 8 Try.underlying24 hiInt hzInt0 hzInt1 hzInt2 rfl (by omega) rfl (own_below o4 ?_) rfl (Rd.drewR (Rd.one _ _ _)) (ints_one [_]) ?_ ?_ rfl rfl ?_ ?_ ?_ ?_ ?_; (focus (repeat (first | exact Below.refl _ _ | assumption | refine Below.next_ ?_ ?_ (by assumption) | refine Below.drew ?_ | refine below_drewN ?_ _ | refine Below.alloc ?_ ?_ _ | refine Below.setCell ?_ ?_ _ | omega | (dsimp only; omega) | (simp <;> omega) | (simp at * <;> omega)))); (focus (unfold maxLen; omega)); (focus omega); (focus (repeat (first | exact Below.refl _ _ | assumption | refine Below.next_ ?_ ?_ (by assumption) | refine Below.drew ?_ | refine below_drewN ?_ _ | refine Below.alloc ?_ ?_ _ | refine Below.setCell ?_ ?_ _ | omega | (dsimp only; omega) | (simp <;> omega) | (simp at * <;> omega)))); (focus (first | omega | (simp <;> omega) | (simp at * <;> omega))); (focus (first | exact Nat.le_refl _ | omega)); (focus (first | omega | (simp <;> omega) | (simp at * <;> omega))); intro Ab cb wb hob hbb hgb hatb)); have hbp := (show Below va.heap.size va (va.alloc (.cells #[.int .i64 s] 3)).drew from ((Below.refl _ _).alloc (Nat.le_refl _) (.cells #[.int .i64 s] 3)).drew); have ub := RecX.kept ra (i := 3) rfl hbp hgb; obtain ⟨⟨q0, q1, q2, q3, q4, q5⟩, e0, e1, e2, e3, e4, e5⟩ := Blk.six ub; have u3 := (hbb.cell (p := ⟨w.heap.size, 2, none⟩) (by show w.heap.size < W1.heap.size; omega)).trans pw2; have up := (hbb.cell (p := (sd.add k)) (cell_lt hcs0)).trans hcs0)
            refine hK.out _ _ ?_ ?_
            · (intro _; exact ⟨u3, up, q4⟩)
            clear hK K
            (try simp only [Act.put, List.setIfInBounds_toArray, List.set_cons_zero, List.set_cons_succ])
            refine upto_step (k := 9) (by kernel_rfl) rfl (fun K hK => ?_)
            go_simp
            refine hK.out _ _ ?_ ?_
            · (intro _; exact ⟨u3, up, q4⟩)
            clear hK K
            (try simp only [Act.put, List.setIfInBounds_toArray, List.set_cons_zero, List.set_cons_succ])
            refine upto_step (k := 10) (by kernel_rfl) rfl (fun K hK => ?_)
            go_simp
            refine hK.out _ _ ?_ ?_
            · (intro h; exact absurd rfl h)
            clear hK K
            (try simp only [Act.put, List.setIfInBounds_toArray, List.set_cons_zero, List.set_cons_succ])
            refine upto_done (by kernel_rfl) ?_ _
            have rb := RecX.app (i := 3) ra rfl hbp hob hbb hgb hatb
            simp only [List.set_cons_zero, List.set_cons_succ] at rb
            obtain ⟨vb, hvb⟩ : ∃ x, wb.setCell ⟨bx, 4, none⟩ (.slice Ab (k + 1) cb) = x := ⟨_, rfl⟩
            rw [hvb] at rb ⊢
            clear y0 y1 y2 y3 y4 y5 g0 g1 g2 g3 g4 g5 o1 o2 o3 o4 o5
            clear hHeld hbp ub u3 up q0 q1 q2 q3 q4 q5 e0 e1 e2 e3 e4 e5 hob hbb hgb hatb hvb
            go_wp2_with fail
            go_meet
            exact ⟨_, Aa, Ab, 0, 0, ca, cb, rfl, by rw [HPn.out, HSn.out, sts_snoc, ints_snoc]; exact rb⟩
          | true =>
            have PB4 := PB.below hbw7
            obtain ⟨⟨p0, p1, p2⟩, p3, p4, p5⟩ := PB4.three
            go_wp2_with fail
            go_loopw [10, 11] (fun lv i wq => ∃ (j c5 : Nat) (A5 : Option Addr), j ≤ nm ∧ i = .int .i64 j ∧ lv = .slice A5 j c5 ∧ wq.ownsRow wr.heap.size 3 1 (.slice A5 j c5) j (ints ((ms.map (fun m => partF m p s)).take j)) ∧ Below wr.heap.size wr wq) (fun _ i _ => nm - (intOf i).toNat)
            case atStart => exact ⟨0, 0, _, Nat.zero_le _, rfl, rfl, by simpa [ints] using hl7, hb7⟩
            case round =>
              obtain ⟨w6, rfl⟩ : ∃ x, x = wr := ⟨wr, rfl⟩
              obtain ⟨j, c5, A5, hj, rfl, rfl, ho, hbq⟩ := hrel
              clear p0 p1 p2 p3 p4 p5 PB4 hcp hcs
              have hj0 : (0 : Int) ≤ (j : Int) := by omega
              have hzq := hbq.size
              have hb1q : Below W1.heap.size W1 w6 := Below.next_ hb hz hbq
              have hz1q := hb1q.size
              by_cases hjlt : j < nm
              · have hjn : (j : Int) < (nm : Int) := by omega
                obtain ⟨md, x, rfl, hx, hcx0⟩ := Rd.int kM hjlt
                have hxI := HMI.out x (List.mem_of_getElem? hx)
                have HXM := hide (show (ms.map (fun m => partF m p s))[j]? = some (partF x p s) by rw [List.getElem?_map, hx]; rfl)
                clear hx
                go_wp2_with fail
                go_region_held3 (fun w' => w'.cell? ⟨w.heap.size, 1, none⟩ = some (.slice (some pd) m c) ∧ w'.cell? ⟨w.heap.size, 2, none⟩ = some (.slice (some sd) m d) ∧ w'.cell? (pd.add k) = some (.string p) ∧ w'.cell? (sd.add k) = some (.int .i64 s) ∧ w'.cell? (md.add j) = some (.int .i64 x)) (((refine keep5 (W := W1) ?_ pw1 pw2 hcp0 hcs0 hcx0); (focus (repeat (first | exact Below.refl _ _ | assumption | refine Below.next_ ?_ ?_ (by assumption) | refine Below.drew ?_ | refine below_drewN ?_ _ | refine Below.alloc ?_ ?_ _ | refine Below.setCell ?_ ?_ _ | omega | (simp <;> omega) | (simp at * <;> omega))))))
            (first | (go_at_call 38; (with_reducible refine (specPartDigest_any (s := p) (show p.size ≤ 137438953472 by omega) hxI hsI).mono ?_); rintro e w3 ⟨rfl, hb_w3⟩; have hs_w3 := hb_w3.size; (try simp at hs_w3)) | (first | (refine step_app2 (B := wr.heap.size) (w0 := wr) _ rfl (.tmp 39) (.tmp 55) 24 rfl 3 iInt (.int .i64 0) 1 8 Try.underlying24 hiInt hzInt0 hzInt1 hzInt2 rfl (by omega) rfl (own_below ho ?_) rfl (Rd.one _ _ _) (ints_one [_]) ?_ ?_ rfl rfl ?_ ?_ ?_ ?_ ?_; (focus (repeat (first | exact Below.refl _ _ | assumption | refine Below.next_ ?_ ?_ (by assumption) | refine Below.drew ?_ | refine below_drewN ?_ _ | refine Below.alloc ?_ ?_ _ | refine Below.setCell ?_ ?_ _ | omega | (dsimp only; omega) | (simp <;> omega) | (simp at * <;> omega)))); (focus (unfold maxLen; omega)); (focus omega); (focus (repeat (first | exact Below.refl _ _ | assumption | refine Below.next_ ?_ ?_ (by assumption) | refine Below.drew ?_ | refine below_drewN ?_ _ | refine Below.alloc ?_ ?_ _ | refine Below.setCell ?_ ?_ _ | omega | (dsimp only; omega) | (simp <;> omega) | (simp at * <;> omega)))); (focus (first | omega | (simp <;> omega) | (simp at * <;> omega))); (focus (first | exact Nat.le_refl _ | omega)); (focus (first | omega | (simp <;> omega) | (simp at * <;> omega))); intro A2_ c2_ w2_ ho2_ hb2_ hg2_ hat2_) | (refine step_app2 (B := wr.heap.size) (w0 := wr) _ rfl (.tmp 39) (.tmp 55) 24 rfl 3 iInt (.int .i64 0) 1 8 Try.underlying24 hiInt hzInt0 hzInt1 hzInt2 rfl (by omega) rfl (own_below ho ?_) rfl (Rd.drewR (Rd.one _ _ _)) (ints_one [_]) ?_ ?_ rfl rfl ?_ ?_ ?_ ?_ ?_; (focus (repeat (first | exact Below.refl _ _ | assumption | refine Below.next_ ?_ ?_ (by assumption) | refine Below.drew ?_ | refine below_drewN ?_ _ | refine Below.alloc ?_ ?_ _ | refine Below.setCell ?_ ?_ _ | omega | (dsimp only; omega) | (simp <;> omega) | (simp at * <;> omega)))); (focus (unfold maxLen; omega)); (focus omega); (focus (repeat (first | exact Below.refl _ _ | assumption | refine Below.next_ ?_ ?_ (by assumption) | refine Below.drew ?_ | refine below_drewN ?_ _ | refine Below.alloc ?_ ?_ _ | refine Below.setCell ?_ ?_ _ | omega | (dsimp only; omega) | (simp <;> omega) | (simp at * <;> omega)))); (focus (first | omega | (simp <;> omega) | (simp at * <;> omega))); (focus (first | exact Nat.le_refl _ | omega)); (focus (first | omega | (simp <;> omega) | (simp at * <;> omega))); intro A2_ c2_ w2_ ho2_ hb2_ hg2_ hat2_)))
                go_wp2_with fail
                go_roundw
                case rel => exact ⟨j + 1, c2_, A2_, by omega, by go_num, rfl, by rw [take_snoc_ HXM.out]; simpa [ints] using ho2_, hb2_⟩
                case measure => simp [intOf]; omega
              · obtain rfl : j = nm := by omega
                have hjn : ¬ (j : Int) < (j : Int) := by omega
                rw [List.take_of_length_le (by rw [List.length_map]; have := HLm.out; omega)] at ho
                have hnew := (hrec.below hbq).push (f := ⟨3, A5, j, c5, ints (ms.map (fun m => partF m p s))⟩) (fun i g hg q hq => hrec.lt i g hg q hq) hsb ho
                rw [← inn_snoc (by rw [rD_len]; exact HRL.out) (A5, j, c5)] at hnew
                rw [show rD hd ms ps ss k ++ [ms.map (fun m => partF m p s)] = rD hd ms ps ss (k + 1) by rw [rD_succ, HHH.out, HP.out, HS.out]; rfl] at hnew
                have HPn := hide (show rP hd ps (k + 1) = rP hd ps k ++ [ByteArray.empty] by rw [rP_succ, HHH.out]; rfl)
                have HSn := hide (show rS hd ss (k + 1) = rS hd ss k ++ [0] by rw [rS_succ, HHH.out]; rfl)
                clear hb1q hz1q
                obtain ⟨⟨y0, y1, y2, y3, y4, y5⟩, ⟨g0, g1, g2, g3, g4, g5⟩, o1, o2, o3, o4, o5⟩ := hnew.six
                go_upto_region 14 with (at_builtin; refine wpList_app2 _ rfl (.tmp 58) (.tmp 59) 25 rfl 9 iString (.string ByteArray.empty) 1 16 Try.underlying25 hiString hzString0 hzString1 hzString2 rfl (by omega) rfl (o3.alloc _) rfl (Rd.one _ _ _) (sts_one [ByteArray.empty]) (by unfold maxLen; omega) (by omega) rfl rfl ((RecX.bel hnew).alloc (RecX.bel hnew).size (.cells #[.string ⟨#[]⟩] 9)) (by have := (RecX.bel hnew).size; simp; omega) (Nat.le_refl _) (by have := (RecX.bel hnew).size; simp; omega) ?_; intro Aa ca wa hoa hba hga hata; have ub := RecX.kept hnew (i := 2) rfl ((Below.refl _ _).alloc (Nat.le_refl _) (.cells #[.string ⟨#[]⟩] 9)) hga; obtain ⟨⟨q0, q1, q2, q3, q4, q5⟩, e0, e1, e2, e3, e4, e5⟩ := Blk.six ub)
                have ra := RecX.app (i := 2) hnew rfl ((Below.refl _ _).alloc (Nat.le_refl _) (.cells #[.string ⟨#[]⟩] 9)) hoa hba hga hata
                simp only [List.set_cons_zero, List.set_cons_succ] at ra
                obtain ⟨va, hva⟩ : ∃ x, wa.setCell ⟨bx, 3, none⟩ (.slice Aa (k + 1) ca) = x := ⟨_, rfl⟩
                rw [hva] at ra ⊢
                clear y0 y1 y2 y3 y4 y5 g0 g1 g2 g3 g4 g5 o1 o2 o3 o4 o5
                clear ub q0 q1 q2 q3 q4 q5 e0 e1 e2 e3 e4 e5 hoa hba hga hata hva
                obtain ⟨⟨y0, y1, y2, y3, y4, y5⟩, ⟨g0, g1, g2, g3, g4, g5⟩, o1, o2, o3, o4, o5⟩ := ra.six
                go_wp2_with (at_builtin; refine wpList_app2 _ rfl (.tmp 63) (.tmp 64) 24 rfl 3 iInt (.int .i64 0) 1 8 Try.underlying24 hiInt hzInt0 hzInt1 hzInt2 rfl (by omega) rfl (o4.alloc _) rfl (Rd.one _ _ _) (ints_one [_]) (by unfold maxLen; omega) (by omega) rfl rfl ((RecX.bel ra).alloc (RecX.bel ra).size (.cells #[.int .i64 0] 3)) (by have := (RecX.bel ra).size; simp; omega) (Nat.le_refl _) (by have := (RecX.bel ra).size; simp; omega) ?_; intro Ab cb wb hob hbb hgb hatb; have ub := RecX.kept ra (i := 3) rfl ((Below.refl _ _).alloc (Nat.le_refl _) (.cells #[.int .i64 0] 3)) hgb; obtain ⟨⟨q0, q1, q2, q3, q4, q5⟩, e0, e1, e2, e3, e4, e5⟩ := Blk.six ub)
                have rb := RecX.app (i := 3) ra rfl ((Below.refl _ _).alloc (Nat.le_refl _) (.cells #[.int .i64 0] 3)) hob hbb hgb hatb
                simp only [List.set_cons_zero, List.set_cons_succ] at rb
                obtain ⟨vb, hvb⟩ : ∃ x, wb.setCell ⟨bx, 4, none⟩ (.slice Ab (k + 1) cb) = x := ⟨_, rfl⟩
                rw [hvb] at rb ⊢
                clear y0 y1 y2 y3 y4 y5 g0 g1 g2 g3 g4 g5 o1 o2 o3 o4 o5
                clear ub q0 q1 q2 q3 q4 q5 e0 e1 e2 e3 e4 e5 hob hbb hgb hatb hvb
                go_meet
                exact ⟨A5, Aa, Ab, j, c5, ca, cb, rfl, by rw [HPn.out, HSn.out, sts_snoc, ints_snoc]; exact rb⟩
        case rest =>
          obtain ⟨A5, B2, B3, n5, c5, b2, b3, rfl, hrc⟩ := hcut
          have HBn := hide (show rB hd (k + 1) = rB hd k ++ [!hh] by rw [rB_succ, HHH.out])
          have hbc := hrc.bel
          have hzc := hbc.size
          clear hrec hcp hcs hl7 hb7 hz7 hbw7 hb
          obtain ⟨⟨y0, y1, y2, y3, y4, y5⟩, ⟨g0, g1, g2, g3, g4, g5⟩, o1, o2, o3, o4, o5⟩ := hrc.six
          go_wp2_with fail
          refine wp_region_upto (S := (fun w' => w'.cell? ⟨bx, 2, none⟩ = some (.slice A1 k c1))) 9 (by kernel_rfl) ?_ (fun hHeld => ?_)
          · exact keep1 (W := wc) (by repeat (first | exact Below.refl _ _ | assumption | refine Below.next_ ?_ ?_ (by assumption) | refine Below.drew ?_ | refine below_drewN ?_ _ | refine Below.alloc ?_ ?_ _ | refine Below.setCell ?_ ?_ _ | omega | (dsimp only; omega) | (simp <;> omega) | (simp at * <;> omega))) y2
          refine upto_take (i := 0) (v := ?v21) rfl (by kernel_rfl) (by kernel_rfl) (by kernel_rfl) (by kernel_rfl) (fun _ _ _ h => h) hHeld ?hy21 (by rfl) ?rest21
          case hy21 => (intro w' hSw; (try dsimp only at hSw); go_simp; (try with_reducible rfl))
          (try simp only [Act.put, List.setIfInBounds_toArray, List.set_cons_zero, List.set_cons_succ])
          refine upto_take (i := 1) (v := ?v22) rfl (by kernel_rfl) (by kernel_rfl) (by kernel_rfl) (by kernel_rfl) (fun _ _ _ h => h) hHeld ?hy22 (by rfl) ?rest22
          case hy22 => (intro w' hSw; (try dsimp only at hSw); go_simp; (try with_reducible rfl))
          (try simp only [Act.put, List.setIfInBounds_toArray, List.set_cons_zero, List.set_cons_succ])
          refine upto_take (i := 2) (v := ?v23) rfl (by kernel_rfl) (by kernel_rfl) (by kernel_rfl) (by kernel_rfl) (fun _ _ _ h => h) hHeld ?hy23 (by rfl) ?rest23
          case hy23 => (intro w' hSw; (try dsimp only at hSw); go_simp; (try with_reducible rfl))
          (try simp only [Act.put, List.setIfInBounds_toArray, List.set_cons_zero, List.set_cons_succ])
          refine upto_take (i := 3) (v := ?v24) rfl (by kernel_rfl) (by kernel_rfl) (by kernel_rfl) (by kernel_rfl) (fun _ _ _ h => h) hHeld ?hy24 (by rfl) ?rest24
          case hy24 => (intro w' hSw; (try dsimp only at hSw); go_simp; (try with_reducible rfl))
          (try simp only [Act.put, List.setIfInBounds_toArray, List.set_cons_zero, List.set_cons_succ])
          refine upto_step (k := 4) (by kernel_rfl) rfl (fun K hK => ?_)
          (go_simp; (go_at_call 37; refine (HT2.out _ (hbc.drew)).mono ?_; rintro e _ ⟨rfl, rfl⟩); go_wp2_with fail)
          refine hK.out _ _ ?_ ?_
          · (intro _; exact keep1 (W := wc) (by repeat (first | exact Below.refl _ _ | assumption | refine Below.next_ ?_ ?_ (by assumption) | refine Below.drew ?_ | refine below_drewN ?_ _ | refine Below.alloc ?_ ?_ _ | refine Below.setCell ?_ ?_ _ | omega | (dsimp only; omega) | (simp <;> omega) | (simp at * <;> omega))) y2)
          clear hK K
          (try simp only [Act.put, List.setIfInBounds_toArray, List.set_cons_zero, List.set_cons_succ])
          refine upto_step (k := 5) (by kernel_rfl) rfl (fun K hK => ?_)
          go_simp
          refine hK.out _ _ ?_ ?_
          · (intro _; exact keep1 (W := wc) (by repeat (first | exact Below.refl _ _ | assumption | refine Below.next_ ?_ ?_ (by assumption) | refine Below.drew ?_ | refine below_drewN ?_ _ | refine Below.alloc ?_ ?_ _ | refine Below.setCell ?_ ?_ _ | omega | (dsimp only; omega) | (simp <;> omega) | (simp at * <;> omega))) y2)
          clear hK K
          (try simp only [Act.put, List.setIfInBounds_toArray, List.set_cons_zero, List.set_cons_succ])
          refine upto_step (k := 6) (by kernel_rfl) rfl (fun K hK => ?_)
          go_simp
          refine hK.out _ _ ?_ ?_
          · (intro _; exact keep1 (W := wc) (by repeat (first | exact Below.refl _ _ | assumption | refine Below.next_ ?_ ?_ (by assumption) | refine Below.drew ?_ | refine below_drewN ?_ _ | refine Below.alloc ?_ ?_ _ | refine Below.setCell ?_ ?_ _ | omega | (dsimp only; omega) | (simp <;> omega) | (simp at * <;> omega))) y2)
          clear hK K
          (try simp only [Act.put, List.setIfInBounds_toArray, List.set_cons_zero, List.set_cons_succ])
          refine upto_step (k := 7) (by kernel_rfl) rfl (fun K hK => ?_)
          (first | (refine step_app2 (B := W1.heap.size) (w0 := W1) _ rfl (.tmp 88) (.tmp 93) 30 rfl 4 iBool (.bool false) 1 1 Try.underlying30 hiBool hzBool0 hzBool1 hzBool2 rfl (by omega) rfl (own_below o2 ?_) rfl (Rd.one _ _ _) (bls_one [_]) ?_ ?_ rfl rfl ?_ ?_ ?_ ?_ ?_; (focus (repeat (first | exact Below.refl _ _ | assumption | refine Below.next_ ?_ ?_ (by assumption) | refine Below.drew ?_ | refine below_drewN ?_ _ | refine Below.alloc ?_ ?_ _ | refine Below.setCell ?_ ?_ _ | omega | (dsimp only; omega) | (simp <;> omega) | (simp at * <;> omega)))); (focus (unfold maxLen; omega)); (focus omega); (focus (repeat (first | exact Below.refl _ _ | assumption | refine Below.next_ ?_ ?_ (by assumption) | refine Below.drew ?_ | refine below_drewN ?_ _ | refine Below.alloc ?_ ?_ _ | refine Below.setCell ?_ ?_ _ | omega | (dsimp only; omega) | (simp <;> omega) | (simp at * <;> omega)))); (focus (first | omega | (simp <;> omega) | (simp at * <;> omega))); (focus (first | exact Nat.le_refl _ | omega)); (focus (first | omega | (simp <;> omega) | (simp at * <;> omega))); intro Ad cd wd hod hbd hgd hatd; have hbp := (show Below wc.heap.size wc (wc.alloc (.cells #[.bool (!hh)] 4)).drew from ((Below.refl _ _).alloc (Nat.le_refl _) (.cells #[.bool (!hh)] 4)).drew); have ub := RecX.kept hrc (i := 1) rfl hbp hgd; obtain ⟨⟨q0, q1, q2, q3, q4, q5⟩, e0, e1, e2, e3, e4, e5⟩ := Blk.six ub) | (refine step_app2 (B := W1.heap.size) (w0 := W1) _ rfl (.tmp 88) (.tmp 93) 30 rfl 4 iBool (.bool false) 1 1 Try.underlying30 hiBool hzBool0 hzBool1 hzBool2 rfl (by omega) rfl (own_below o2 ?_) rfl (Rd.drewR (Rd.one _ _ _)) (bls_one [_]) ?_ ?_ rfl rfl ?_ ?_ ?_ ?_ ?_; (focus (repeat (first | exact Below.refl _ _ | assumption | refine Below.next_ ?_ ?_ (by assumption) | refine Below.drew ?_ | refine below_drewN ?_ _ | refine Below.alloc ?_ ?_ _ | refine Below.setCell ?_ ?_ _ | omega | (dsimp only; omega) | (simp <;> omega) | (simp at * <;> omega)))); (focus (unfold maxLen; omega)); (focus omega); (focus (repeat (first | exact Below.refl _ _ | assumption | refine Below.next_ ?_ ?_ (by assumption) | refine Below.drew ?_ | refine below_drewN ?_ _ | refine Below.alloc ?_ ?_ _ | refine Below.setCell ?_ ?_ _ | omega | (dsimp only; omega) | (simp <;> omega) | (simp at * <;> omega)))); (focus (first | omega | (simp <;> omega) | (simp at * <;> omega))); (focus (first | exact Nat.le_refl _ | omega)); (focus (first | omega | (simp <;> omega) | (simp at * <;> omega))); intro Ad cd wd hod hbd hgd hatd; have hbp := (show Below wc.heap.size wc (wc.alloc (.cells #[.bool (!hh)] 4)).drew from ((Below.refl _ _).alloc (Nat.le_refl _) (.cells #[.bool (!hh)] 4)).drew); have ub := RecX.kept hrc (i := 1) rfl hbp hgd; obtain ⟨⟨q0, q1, q2, q3, q4, q5⟩, e0, e1, e2, e3, e4, e5⟩ := Blk.six ub))
          refine hK.out _ _ ?_ ?_
          · (intro _; exact q2)
          clear hK K
          (try simp only [Act.put, List.setIfInBounds_toArray, List.set_cons_zero, List.set_cons_succ])
          refine upto_step (k := 8) (by kernel_rfl) rfl (fun K hK => ?_)
          go_simp
          refine hK.out _ _ ?_ ?_
          · (intro _; exact q2)
          clear hK K
          (try simp only [Act.put, List.setIfInBounds_toArray, List.set_cons_zero, List.set_cons_succ])
          refine upto_step (k := 9) (by kernel_rfl) rfl (fun K hK => ?_)
          go_simp
          refine hK.out _ _ ?_ ?_
          · (intro h; exact absurd rfl h)
          clear hK K
          (try simp only [Act.put, List.setIfInBounds_toArray, List.set_cons_zero, List.set_cons_succ])
          refine upto_done (by kernel_rfl) ?_ _
          have rd := RecX.app (i := 1) hrc rfl hbp hod hbd hgd hatd
          simp only [List.set_cons_zero, List.set_cons_succ] at rd
          obtain ⟨vd, hvd⟩ : ∃ x, wd.setCell ⟨bx, 2, none⟩ (.slice Ad (k + 1) cd) = x := ⟨_, rfl⟩
          rw [hvd] at rd ⊢
          clear y0 y1 y2 y3 y4 y5 g0 g1 g2 g3 g4 g5 o1 o2 o3 o4 o5
          clear hHeld hbp ub q0 q1 q2 q3 q4 q5 e0 e1 e2 e3 e4 e5 hod hbd hgd hatd hvd hbc hzc
          obtain ⟨⟨y0, y1, y2, y3, y4, y5⟩, ⟨g0, g1, g2, g3, g4, g5⟩, o1, o2, o3, o4, o5⟩ := rd.six
          go_upto_region 18 with fail
          go_upto_region 6 with (at_builtin; refine wpList_app2 _ rfl (.tmp 97) (.tmp 99) 31 rfl 24 iSr (.slice none 0 0) 1 24 Try.underlying31 hiSr hzSr0 hzSr1 hzSr2 rfl (by omega) rfl (o5.alloc _) rfl (Rd.one _ _ _) (srs_one [(A5, n5, c5)]) (by unfold maxLen; omega) (by omega) rfl rfl ((RecX.bel rd).alloc (RecX.bel rd).size (.cells #[.slice A5 n5 c5] 24)) (by have := (RecX.bel rd).size; simp; omega) (Nat.le_refl _) (by have := (RecX.bel rd).size; simp; omega) ?_; intro Ae ce we hoe hbe hge hate; have ub := RecX.kept rd (i := 4) rfl ((Below.refl _ _).alloc (Nat.le_refl _) (.cells #[.slice A5 n5 c5] 24)) hge; obtain ⟨⟨q0, q1, q2, q3, q4, q5⟩, e0, e1, e2, e3, e4, e5⟩ := Blk.six ub)
          have re := RecX.app (i := 4) rd rfl ((Below.refl _ _).alloc (Nat.le_refl _) (.cells #[.slice A5 n5 c5] 24)) hoe hbe hge hate
          simp only [List.set_cons_zero, List.set_cons_succ] at re
          obtain ⟨ve, hve⟩ : ∃ x, we.setCell ⟨bx, 5, none⟩ (.slice Ae (k + 1) ce) = x := ⟨_, rfl⟩
          rw [hve] at re ⊢
          clear y0 y1 y2 y3 y4 y5 g0 g1 g2 g3 g4 g5 o1 o2 o3 o4 o5
          clear ub q0 q1 q2 q3 q4 q5 e0 e1 e2 e3 e4 e5 hoe hbe hge hate hve
          go_wp2_with fail
          go_roundw
          case rel => exact ⟨k + 1, cd, b2, b3, ce, Ad, B2, B3, Ae, rs ++ [(A5, n5, c5)], by omega, by go_num, by simp [HRL.out], by rw [HBn.out, bls_snoc, srs_snoc]; exact re⟩
          case measure => simp [intOf]; omega
end Go.Proofs.Ythjdigiaajdnbaa
