/- The contract of MakeDocument of the reference. For at most 2^21 parts. -/
import Derived.Test.YthjdigiaajdnbaaMkD
import Derived.Test.YthjdigiaajdnbaaTail
import Derived.Test.YthjdigiaajdnbaaStep
import Derived.Deep.RegionHeld3
import Derived.Deep.Cut
import Derived.Deep.CutRange
namespace Go.Proofs.Ythjdigiaajdnbaa
open Go.RowKit Go.WideShapes Go.ChangeShapes Go.Deep
set_option linter.unusedSimpArgs false
set_option linter.unusedVariables false
set_option maxRecDepth 1000000
set_option maxHeartbeats 8000000 in
theorem specMakeDocument_any {A : Option Addr} {n c : Nat} {t seed : Int} {ps : List ByteArray} {w : World} (h : Rd w 1 A n (sts ps)) (hn : n ≤ 2097152) (ht : I64 t) (hs : I64 seed) (hpz : ∀ x ∈ ps, x.size ≤ 137438953472) :
    Calls Try.prog 73 #[.int .i64 t, .slice A n c, .int .i64 seed] w fun e w' => MdOut w w' e t ps seed := by
  obtain ⟨iString, hiString, hzString0, hzString1, hzString2⟩ := info_parts String_info
  obtain ⟨iInt, hiInt, hzInt0, hzInt1, hzInt2⟩ := info_parts Int_info
  obtain ⟨W1, hW_W1⟩ : ∃ W1, w.alloc (.cells #[.int .i64 0, .slice none 0 0, .slice none 0 0] 27) = W1 := ⟨_, rfl⟩
  have HB0 : Blk W1 w.heap.size [.int .i64 0, .slice none 0 0, .slice none 0 0] := by rw [← hW_W1]; exact Blk.new _ _ _
  have hb_W1 : Below w.heap.size w W1 := by rw [← hW_W1]; repeat (first | exact Below.refl _ _ | assumption | refine Below.next_ ?_ ?_ (by assumption) | refine Below.drew ?_ | refine below_drewN ?_ _ | refine Below.alloc ?_ ?_ _ | refine Below.setCell ?_ ?_ _ | omega | (simp <;> omega) | (simp at * <;> omega))
  have hs_W1 : w.heap.size < W1.heap.size := HB0.lt
  have HW_W1 := hide hW_W1
  clear hW_W1
  have k1 := h.below hb_W1
  have HL := hide k1.maplen
  have hlit := World.ownsRow_lit (base := W1.heap.size) (e := 9) (size := 1) W1 #[] 0 (Nat.le_refl _) (by unfold maxLen; omega) rfl
  have hbl := (Below.refl W1.heap.size W1).alloc (Nat.le_refl _) (.cells #[] 9)
  have HPZ := hide hpz
  clear hpz
  obtain ⟨ok, hok⟩ : ∃ ok, mdOk t ps seed = ok := ⟨_, rfl⟩
  have HOK := hide hok
  clear hok
  go_enter Try.func73, Try.ntmps73
  go_upto_region 1 with fail
  rw [HW_W1.out]
  clear HW_W1
  go_wp2_with (at_builtin; refine wpList_app2 _ rfl (.tmp 11) (.tmp 12) 25 rfl 9 iString (.string ByteArray.empty) 1 16 Try.underlying25 hiString hzString0 hzString1 hzString2 rfl (by omega) rfl hlit rfl (k1.below hbl) (sts_one _) (by unfold maxLen; omega) (by omega) (Nat.zero_add n) rfl hbl (by simp) (Nat.le_refl _) (by simp) ?_; intro A2 c2 w2 ho2 hb2 hg2 hat2)
  simp only [List.nil_append, Array.toList] at ho2
  obtain ⟨bx, hbx⟩ : ∃ k, w2.heap.size = k := ⟨_, rfl⟩
  obtain ⟨W3, hW3⟩ : ∃ W, w2.alloc (.cells #[.int .i64 t, .slice A2 n c2, .slice none 0 0] 27) = W := ⟨_, rfl⟩
  have hR0 : RecX W1.heap.size W1 W3 bx t [⟨9, A2, n, c2, sts ps⟩, ⟨3, none, 0, 0, []⟩] [] := RecX.new (f := ⟨9, A2, n, c2, sts ps⟩) (es := [3]) hbx.symm hW3 ho2 hb2.size hb2
  rw [hW3]
  simp only [hbx]
  clear hW3 hbx ho2 hb2 hg2 hat2 hlit hbl
  go_wp2_with fail
  go_loopw [9] (fun i wr => ∃ (k c5 : Nat) (A5 : Option Addr), k ≤ n ∧ i = .int .i64 k ∧ RecX W1.heap.size W1 wr bx t [⟨9, A2, n, c2, sts ps⟩, ⟨3, A5, k, c5, ints (saltF t seed k)⟩] []) (fun i _ => n - (intOf i).toNat)
  case atStart => exact ⟨0, 0, none, Nat.zero_le _, rfl, hR0⟩
  case round =>
    clear hR0
    obtain ⟨k, c5, A5, hk, rfl, hrec⟩ := hrel
    have hk0 : (0 : Int) ≤ (k : Int) := by omega
    have hb := hrec.bel
    have hsb := hrec.sz
    have hlo := hrec.lo
    have hzr := hb.size
    obtain ⟨⟨y0, y1, y2⟩, ⟨z0, z1, z2⟩, ho4, ho5⟩ := hrec.three
    by_cases hlt : k < n
    · have hkn : (k : Int) < (n : Int) := by omega
      have hpair : ∀ x ∈ [t, (k : Int)], I64 x := by
        intro x hx
        simp at hx
        rcases hx with rfl | rfl
        · exact ht
        · exact ⟨by omega, by omega⟩
      go_wp2_with fail
      refine wp_region_upto (S := (fun w' => w'.cell? ⟨bx, 2, none⟩ = some (.slice A5 k c5))) 11 (by kernel_rfl) ?_ (fun hHeld => ?_)
      · exact keep1 (W := wr) (by repeat (first | exact Below.refl _ _ | assumption | refine Below.next_ ?_ ?_ (by assumption) | refine Below.drew ?_ | refine below_drewN ?_ _ | refine Below.alloc ?_ ?_ _ | refine Below.setCell ?_ ?_ _ | omega | (dsimp only; omega) | (simp <;> omega) | (simp at * <;> omega))) y2
      refine upto_take (i := 0) (v := ?v1) rfl (by kernel_rfl) (by kernel_rfl) (by kernel_rfl) (by kernel_rfl) (fun _ _ _ h => h) hHeld ?hy1 (by rfl) ?rest1
      case hy1 => (intro w' hSw; (try dsimp only at hSw); go_simp; (try with_reducible rfl))
      (try simp only [Act.put, List.setIfInBounds_toArray, List.set_cons_zero, List.set_cons_succ])
      refine upto_take (i := 1) (v := ?v2) rfl (by kernel_rfl) (by kernel_rfl) (by kernel_rfl) (by kernel_rfl) (fun _ _ _ h => h) hHeld ?hy2 (by rfl) ?rest2
      case hy2 => (intro w' hSw; (try dsimp only at hSw); go_simp; (try with_reducible rfl))
      (try simp only [Act.put, List.setIfInBounds_toArray, List.set_cons_zero, List.set_cons_succ])
      refine upto_take (i := 2) (v := ?v3) rfl (by kernel_rfl) (by kernel_rfl) (by kernel_rfl) (by kernel_rfl) (fun _ _ _ h => h) hHeld ?hy3 (by rfl) ?rest3
      case hy3 => (intro w' hSw; (try dsimp only at hSw); go_simp; (try with_reducible rfl))
      (try simp only [Act.put, List.setIfInBounds_toArray, List.set_cons_zero, List.set_cons_succ])
      refine upto_take (i := 3) (v := ?v4) rfl (by kernel_rfl) (by kernel_rfl) (by kernel_rfl) (by kernel_rfl) (fun _ _ _ h => h) hHeld ?hy4 (by rfl) ?rest4
      case hy4 => (intro w' hSw; (try dsimp only at hSw); go_simp; (try with_reducible rfl))
      (try simp only [Act.put, List.setIfInBounds_toArray, List.set_cons_zero, List.set_cons_succ])
      refine upto_take (i := 4) (v := ?v5) rfl (by kernel_rfl) (by kernel_rfl) (by kernel_rfl) (by kernel_rfl) (fun _ _ _ h => h) hHeld ?hy5 (by rfl) ?rest5
      case hy5 => (intro w' hSw; (try dsimp only at hSw); go_simp; (try with_reducible rfl))
      (try simp only [Act.put, List.setIfInBounds_toArray, List.set_cons_zero, List.set_cons_succ])
      refine upto_step (k := 5) (by kernel_rfl) rfl (fun K hK => ?_)
      go_simp
      refine hK.out _ _ ?_ ?_
      · (intro _; exact keep1 (W := wr) (by repeat (first | exact Below.refl _ _ | assumption | refine Below.next_ ?_ ?_ (by assumption) | refine Below.drew ?_ | refine below_drewN ?_ _ | refine Below.alloc ?_ ?_ _ | refine Below.setCell ?_ ?_ _ | omega | (dsimp only; omega) | (simp <;> omega) | (simp at * <;> omega))) y2)
      clear hK K
      (try simp only [Act.put, List.setIfInBounds_toArray, List.set_cons_zero, List.set_cons_succ])
      refine upto_step (k := 6) (by kernel_rfl) rfl (fun K hK => ?_)
      (go_simp; (go_at_call 78; refine (specKeyedHash_any (l := [t, (k : Int)]) (by first | exact Rd.pair _ _ _ _ | exact Rd.drewQ_ (Rd.pair _ _ _ _)) (by omega) hpair hs).mono ?_; rintro e w4 ⟨rfl, hb4⟩; have hs4 := hb4.size; (try simp at hs4); have hb4' : Below wr.heap.size wr w4 := (by repeat (first | exact Below.refl _ _ | assumption | refine Below.next_ ?_ ?_ (by assumption) | refine Below.drew ?_ | refine below_drewN ?_ _ | refine Below.alloc ?_ ?_ _ | refine Below.setCell ?_ ?_ _ | omega | (dsimp only; omega) | (simp <;> omega) | (simp at * <;> omega))); have hz4 := hb4'.size); go_wp2_with fail)
      refine hK.out _ _ ?_ ?_
      · (intro _; exact keep1 (W := wr) (by repeat (first | exact Below.refl _ _ | assumption | refine Below.next_ ?_ ?_ (by assumption) | refine Below.drew ?_ | refine below_drewN ?_ _ | refine Below.alloc ?_ ?_ _ | refine Below.setCell ?_ ?_ _ | omega | (dsimp only; omega) | (simp <;> omega) | (simp at * <;> omega))) y2)
      clear hK K
      (try simp only [Act.put, List.setIfInBounds_toArray, List.set_cons_zero, List.set_cons_succ])
      refine upto_step (k := 7) (by kernel_rfl) rfl (fun K hK => ?_)
      (go_simp; (go_at_call 77; refine (specMax_any _ _ _).mono ?_; rintro e w4b ⟨rfl, rfl⟩); go_wp2_with fail)
      refine hK.out _ _ ?_ ?_
      · (intro _; exact keep1 (W := wr) (by repeat (first | exact Below.refl _ _ | assumption | refine Below.next_ ?_ ?_ (by assumption) | refine Below.drew ?_ | refine below_drewN ?_ _ | refine Below.alloc ?_ ?_ _ | refine Below.setCell ?_ ?_ _ | omega | (dsimp only; omega) | (simp <;> omega) | (simp at * <;> omega))) y2)
      clear hK K
      (try simp only [Act.put, List.setIfInBounds_toArray, List.set_cons_zero, List.set_cons_succ])
      refine upto_step (k := 8) (by kernel_rfl) rfl (fun K hK => ?_)
      go_simp
      refine hK.out _ _ ?_ ?_
      · (intro _; exact keep1 (W := wr) (by repeat (first | exact Below.refl _ _ | assumption | refine Below.next_ ?_ ?_ (by assumption) | refine Below.drew ?_ | refine below_drewN ?_ _ | refine Below.alloc ?_ ?_ _ | refine Below.setCell ?_ ?_ _ | omega | (dsimp only; omega) | (simp <;> omega) | (simp at * <;> omega))) y2)
      clear hK K
      (try simp only [Act.put, List.setIfInBounds_toArray, List.set_cons_zero, List.set_cons_succ])
      refine upto_step (k := 9) (by kernel_rfl) rfl (fun K hK => ?_)
      (refine step_app2 (B := W1.heap.size) (w0 := W1) _ rfl (.tmp 22) (.tmp 29) 24 rfl 3 iInt (.int .i64 0) 1 8 Try.underlying24 hiInt hzInt0 hzInt1 hzInt2 rfl (by omega) rfl (own_below ho5 ?_) rfl (Rd.one _ _ _) (ints_one [_]) ?_ ?_ rfl rfl ?_ ?_ ?_ ?_ ?_; (focus (repeat (first | exact Below.refl _ _ | assumption | refine Below.next_ ?_ ?_ (by assumption) | refine Below.drew ?_ | refine below_drewN ?_ _ | refine Below.alloc ?_ ?_ _ | refine Below.setCell ?_ ?_ _ | omega | (dsimp only; omega) | (simp <;> omega) | (simp at * <;> omega)))); (focus (unfold maxLen; omega)); (focus omega); (focus (repeat (first | exact Below.refl _ _ | assumption | refine Below.next_ ?_ ?_ (by assumption) | refine Below.drew ?_ | refine below_drewN ?_ _ | refine Below.alloc ?_ ?_ _ | refine Below.setCell ?_ ?_ _ | omega | (dsimp only; omega) | (simp <;> omega) | (simp at * <;> omega)))); (focus (first | omega | (simp <;> omega) | (simp at * <;> omega))); (focus (first | exact Nat.le_refl _ | omega)); (focus (first | omega | (simp <;> omega) | (simp at * <;> omega))); intro A6 c6 w6 ho6 hb6 hg6 hat6; have hbp := hb4'.alloc hz4 (.cells #[.int .i64 (max 1 (keyedF seed [t, (k : Int)]))] 3); have ub := RecX.kept hrec (i := 1) rfl hbp hg6; obtain ⟨⟨p0, p1, p2⟩, q0, q1, q2⟩ := Blk.three ub)
      refine hK.out _ _ ?_ ?_
      · (intro _; exact p2)
      clear hK K
      (try simp only [Act.put, List.setIfInBounds_toArray, List.set_cons_zero, List.set_cons_succ])
      refine upto_step (k := 10) (by kernel_rfl) rfl (fun K hK => ?_)
      go_simp
      refine hK.out _ _ ?_ ?_
      · (intro _; exact p2)
      clear hK K
      (try simp only [Act.put, List.setIfInBounds_toArray, List.set_cons_zero, List.set_cons_succ])
      refine upto_step (k := 11) (by kernel_rfl) rfl (fun K hK => ?_)
      go_simp
      refine hK.out _ _ ?_ ?_
      · (intro h; exact absurd rfl h)
      clear hK K
      (try simp only [Act.put, List.setIfInBounds_toArray, List.set_cons_zero, List.set_cons_succ])
      refine upto_done (by kernel_rfl) ?_ _
      have r5 := RecX.app (i := 1) hrec rfl (hb4'.alloc hz4 _) ho6 hb6 hg6 hat6
      simp only [List.set_cons_zero, List.set_cons_succ] at r5
      obtain ⟨v5, hv5⟩ : ∃ x, w6.setCell ⟨bx, 2, none⟩ (.slice A6 (k + 1) c6) = x := ⟨_, rfl⟩
      rw [hv5] at r5 ⊢
      have R5 := hide r5
      clear hHeld ub p0 p1 p2 q0 q1 q2 ho6 hb6 hg6 hat6 hbp hb4 hs4 hb4' hz4 hv5 r5 y0 y1 y2 z0 z1 z2 ho4 ho5 hb
      go_wp2_with fail
      go_roundw
      case rel => exact ⟨k + 1, c6, A6, by omega, by go_num, by rw [saltF_succ, ints_snoc]; exact R5.out⟩
      case measure => simp [intOf]; omega
    · obtain rfl : k = n := by omega
      have hkn : ¬ (k : Int) < (k : Int) := by omega
      have hln : ps.length = k := HL.out
      have hrr : w.heap.size < bx := by omega
      have hb_ : Below w.heap.size w wr := Below.next_ hb_W1 (Nat.le_of_lt hs_W1) hb
      have HB2 := HB0.below hb
      cases hdoc : isDoc t ps (saltF t seed k) with
      | true =>
        have HD := hide hdoc
        cases hv : inR seed 1 2147483646 with
        | true =>
          obtain rfl : true = ok := by rw [← HOK.out]; unfold mdOk; rw [hln, hdoc, hv]; rfl
          have T := specIsDocument_any (t := t) (c := c2) (d := c5) (Rd.of_own ho4) (Rd.of_own ho5) (by omega) (by omega)
          rw [HD.out] at T
          have HT := hide T
          clear T
          go_wp2_with fail
          refine HT.out.mono ?_
          rintro e w7 ⟨rfl, hb7⟩
          have r7 := hrec.below hb7
          have HB3 := HB2.below hb7
          obtain ⟨⟨g0, g1, g2⟩, f0, f1, f2⟩ := HB3.three
          obtain ⟨⟨a0, a1, a2⟩, ⟨d0, d1, d2⟩, e4, e5⟩ := r7.three
          clear y0 y1 y2 z0 z1 z2 HT
          go_wp2_with (go_at_call 79; with_reducible refine (specIsValidKey_any _ _).mono ?_; rintro e _ ⟨rfl, rfl⟩)
          obtain ⟨m1, m2, m3⟩ := md_yes HOK.out
          have hfr := r7.rows
          have hfb := Below.next_ hb_W1 (Nat.le_of_lt hs_W1) r7.bel
          have o1 := own_old (j := 2) (own_old (j := 1) (own_old (j := 0) (hfr.own 0 _ rfl) hs_W1 (.int .i64 t)) hs_W1 (.slice A2 k c2)) hs_W1 (.slice A5 k c5)
          have o2 := own_old (j := 2) (own_old (j := 1) (own_old (j := 0) (hfr.own 1 _ rfl) hs_W1 (.int .i64 t)) hs_W1 (.slice A2 k c2)) hs_W1 (.slice A5 k c5)
          have bb := ((hfb.setCell (p := ⟨w.heap.size, 0, none⟩) (Nat.le_refl _) (.int .i64 t)).setCell (p := ⟨w.heap.size, 1, none⟩) (Nat.le_refl _) (.slice A2 k c2)).setCell (p := ⟨w.heap.size, 2, none⟩) (Nat.le_refl _) (.slice A5 k c5)
          have hap := hfr.ap 0 1 _ _ (by omega) rfl rfl
          exact bodyPost_ret (v := .tuple #[doV t A2 A5 k k c2 c5, .bool true]) (by simp [results, Try.results73, go_sem, *]) rfl ⟨A2, A5, k, k, c2, c5, by rw [m1, HOK.out], by rw [m2]; exact own_base o1 (Nat.le_of_lt hs_W1), by rw [m3, hln]; exact own_base o2 (Nat.le_of_lt hs_W1), hap, bb⟩
        | false =>
          obtain rfl : false = ok := by rw [← HOK.out]; unfold mdOk; rw [hln, hdoc, hv]; rfl
          have T := specIsDocument_any (t := t) (c := c2) (d := c5) (Rd.of_own ho4) (Rd.of_own ho5) (by omega) (by omega)
          rw [HD.out] at T
          have HT := hide T
          clear T
          go_wp2_with fail
          refine HT.out.mono ?_
          rintro e w7 ⟨rfl, hb7⟩
          have r7 := hrec.below hb7
          have HB3 := HB2.below hb7
          obtain ⟨⟨g0, g1, g2⟩, f0, f1, f2⟩ := HB3.three
          obtain ⟨⟨a0, a1, a2⟩, ⟨d0, d1, d2⟩, e4, e5⟩ := r7.three
          clear y0 y1 y2 z0 z1 z2 HT
          have hfb := Below.next_ hb_W1 (Nat.le_of_lt hs_W1) r7.bel
          go_wp2_with (go_at_call 79; with_reducible refine (specIsValidKey_any _ _).mono ?_; rintro e _ ⟨rfl, rfl⟩)
          have bb := ((hfb.setCell (p := ⟨w.heap.size, 0, none⟩) (Nat.le_refl _) (.int .i64 0)).setCell (p := ⟨w.heap.size, 1, none⟩) (Nat.le_refl _) (.slice none 0 0)).setCell (p := ⟨w.heap.size, 2, none⟩) (Nat.le_refl _) (.slice none 0 0)
          exact bodyPost_ret (v := .tuple #[doV 0 none none 0 0 0 0, .bool false]) (by simp [results, Try.results73, go_sem, *]) rfl (MdOut.no HOK.out rfl bb)
      | false =>
        have HD := hide hdoc
        obtain rfl : false = ok := by rw [← HOK.out]; unfold mdOk; rw [hln, hdoc]; rfl
        have T := specIsDocument_any (t := t) (c := c2) (d := c5) (Rd.of_own ho4) (Rd.of_own ho5) (by omega) (by omega)
        rw [HD.out] at T
        have HT := hide T
        clear T
        go_wp2_with fail
        refine HT.out.mono ?_
        rintro e w7 ⟨rfl, hb7⟩
        have r7 := hrec.below hb7
        have HB3 := HB2.below hb7
        obtain ⟨⟨g0, g1, g2⟩, f0, f1, f2⟩ := HB3.three
        obtain ⟨⟨a0, a1, a2⟩, ⟨d0, d1, d2⟩, e4, e5⟩ := r7.three
        clear y0 y1 y2 z0 z1 z2 HT
        have hfb := Below.next_ hb_W1 (Nat.le_of_lt hs_W1) r7.bel
        go_wp2_with fail
        have bb := ((hfb.setCell (p := ⟨w.heap.size, 0, none⟩) (Nat.le_refl _) (.int .i64 0)).setCell (p := ⟨w.heap.size, 1, none⟩) (Nat.le_refl _) (.slice none 0 0)).setCell (p := ⟨w.heap.size, 2, none⟩) (Nat.le_refl _) (.slice none 0 0)
        exact bodyPost_ret (v := .tuple #[doV 0 none none 0 0 0 0, .bool false]) (by simp [results, Try.results73, go_sem, *]) rfl (MdOut.no HOK.out rfl bb)
end Go.Proofs.Ythjdigiaajdnbaa
