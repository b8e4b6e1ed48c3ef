/- The contract of IsRedacted of the program. For rows of at most 2^40 elements. -/
import Derived.Test.YthjdigiaajdnbaaIsR
import Derived.Test.YthjdigiaajdnbaaTail
import Derived.Deep.Cut
import Derived.Deep.CutRange
namespace Go.Proofs.Ythjdigiaajdnbaa
open Go.RowKit Go.WideShapes Go.ChangeShapes Go.Deep
set_option linter.unusedSimpArgs false
set_option linter.unusedVariables false
set_option maxRecDepth 1000000
set_option maxHeartbeats 16000000 in
theorem implIsRedacted_any {t : Int} {M B P S D : Option Addr} {nm nb np ns nd cm cb cp cs cd : Nat} {ms : List Int} {bs : List Bool} {ps : List ByteArray} {ss : List Int} {ds : List (List Int)} {w : World} (h : RdR w M B P S D nm nb np ns nd ms bs ps ss ds) (hB : BdR 1099511627776 nm nb np ns nd ds) (hpz : ∀ x ∈ ps, x.size ≤ 1048576) :
    Calls Try.prog 16 #[reV t M B P S D nm nb np ns nd cm cb cp cs cd] w fun e w' => e = .returned (.bool (isRed t nm bs ps ss ds)) ∧ Below w.heap.size w w' := by
  obtain ⟨iString, hiString, hzString0, hzString1, hzString2⟩ := info_parts String_info
  obtain ⟨iInt, hiInt, hzInt0, hzInt1, hzInt2⟩ := info_parts Int_info
  obtain ⟨W1, hW_W1⟩ : ∃ W1, w.alloc (.cells #[.int .i64 t, .slice M nm cm, .slice B nb cb, .slice P np cp, .slice S ns cs, .slice D nd cd] 33) = W1 := ⟨_, rfl⟩
  have hc_W10 : W1.cell? ⟨w.heap.size, 0, none⟩ = some (.int .i64 t) := by rw [← hW_W1]; simp
  have hc_W11 : W1.cell? ⟨w.heap.size, 1, none⟩ = some (.slice M nm cm) := by rw [← hW_W1]; simp
  have hc_W12 : W1.cell? ⟨w.heap.size, 2, none⟩ = some (.slice B nb cb) := by rw [← hW_W1]; simp
  have hc_W13 : W1.cell? ⟨w.heap.size, 3, none⟩ = some (.slice P np cp) := by rw [← hW_W1]; simp
  have hc_W14 : W1.cell? ⟨w.heap.size, 4, none⟩ = some (.slice S ns cs) := by rw [← hW_W1]; simp
  have hc_W15 : W1.cell? ⟨w.heap.size, 5, none⟩ = some (.slice D nd cd) := by rw [← hW_W1]; simp
  have hs_W1 : w.heap.size < W1.heap.size := by rw [← hW_W1]; simp
  have hb_W1 : Below w.heap.size w W1 := by rw [← hW_W1]; repeat (first | exact Below.refl _ _ | assumption | refine Below.next_ ?_ ?_ (by assumption) | refine Below.drew ?_ | refine below_drewN ?_ _ | refine Below.alloc ?_ ?_ _ | refine Below.setCell ?_ ?_ _ | omega | (simp <;> omega) | (simp at * <;> omega))
  have HW_W1 := hide hW_W1
  clear hW_W1
  have k1 := RdR.below h hb_W1
  have HLb := hide k1.b.maplen
  have HLp := hide k1.p.maplen
  have HLs := hide k1.s.maplen
  have HLd := hide k1.d.len
  have hnb := hB.b
  have hnm := hB.m
  have hnp := hB.p
  have hns := hB.s
  have hnd := hB.d
  cases g1 : inR (nb : Int) 1 6 with
  | false =>
    have hfin := hide (show isRed t nm bs ps ss ds = false by unfold isRed; rw [HLb.out, g1]; simp)
    go_enter Try.func16, Try.ntmps16
    go_wp2_with (first | (rw [HW_W1.out]) | (go_at_call 39; refine (implInRange_any _ _ _ _).mono ?_; rintro e w' ⟨rfl, rfl⟩))
    go_ret
    exact ⟨ret_b hfin.out.symm, by repeat (first | exact Below.refl _ _ | assumption | refine Below.next_ ?_ ?_ (by assumption) | refine Below.drew ?_ | refine below_drewN ?_ _ | refine Below.alloc ?_ ?_ _ | refine Below.setCell ?_ ?_ _ | omega | (dsimp only; omega) | (simp <;> omega) | (simp at * <;> omega))⟩
  | true =>
    by_cases e1 : np = nb
    rotate_left
    · have hfin := hide (show isRed t nm bs ps ss ds = false by unfold isRed; rw [show decide (ps.length = bs.length) = false by have := HLp.out; have := HLb.out; simp; omega]; simp)
      have hq : ((np : Int) == (nb : Int)) = false := by simpa using (by omega : ¬ (np : Int) = nb)
      have hq2 : ((np : Int) != (nb : Int)) = true := by simpa using (by omega : ¬ (np : Int) = nb)
      go_enter Try.func16, Try.ntmps16
      go_wp2_with (first | (rw [HW_W1.out]) | (go_at_call 39; refine (implInRange_any _ _ _ _).mono ?_; rintro e w' ⟨rfl, rfl⟩))
      go_ret
      exact ⟨ret_b hfin.out.symm, by repeat (first | exact Below.refl _ _ | assumption | refine Below.next_ ?_ ?_ (by assumption) | refine Below.drew ?_ | refine below_drewN ?_ _ | refine Below.alloc ?_ ?_ _ | refine Below.setCell ?_ ?_ _ | omega | (dsimp only; omega) | (simp <;> omega) | (simp at * <;> omega))⟩
    subst e1
    by_cases e2 : ns = np
    rotate_left
    · have hfin := hide (show isRed t nm bs ps ss ds = false by unfold isRed; rw [show decide (ss.length = bs.length) = false by have := HLs.out; have := HLb.out; simp; omega]; simp)
      have hq : ((ns : Int) == (np : Int)) = false := by simpa using (by omega : ¬ (ns : Int) = np)
      have hq2 : ((ns : Int) != (np : Int)) = true := by simpa using (by omega : ¬ (ns : Int) = np)
      go_enter Try.func16, Try.ntmps16
      go_wp2_with (first | (rw [HW_W1.out]) | (go_at_call 39; refine (implInRange_any _ _ _ _).mono ?_; rintro e w' ⟨rfl, rfl⟩))
      go_ret
      exact ⟨ret_b hfin.out.symm, by repeat (first | exact Below.refl _ _ | assumption | refine Below.next_ ?_ ?_ (by assumption) | refine Below.drew ?_ | refine below_drewN ?_ _ | refine Below.alloc ?_ ?_ _ | refine Below.setCell ?_ ?_ _ | omega | (dsimp only; omega) | (simp <;> omega) | (simp at * <;> omega))⟩
    subst e2
    by_cases e3 : nd = ns
    rotate_left
    · have hfin := hide (show isRed t nm bs ps ss ds = false by unfold isRed; rw [show decide (ds.length = bs.length) = false by have := HLd.out; have := HLb.out; simp; omega]; simp)
      have hq : ((nd : Int) == (ns : Int)) = false := by simpa using (by omega : ¬ (nd : Int) = ns)
      have hq2 : ((nd : Int) != (ns : Int)) = true := by simpa using (by omega : ¬ (nd : Int) = ns)
      go_enter Try.func16, Try.ntmps16
      go_wp2_with (first | (rw [HW_W1.out]) | (go_at_call 39; refine (implInRange_any _ _ _ _).mono ?_; rintro e w' ⟨rfl, rfl⟩))
      go_ret
      exact ⟨ret_b hfin.out.symm, by repeat (first | exact Below.refl _ _ | assumption | refine Below.next_ ?_ ?_ (by assumption) | refine Below.drew ?_ | refine below_drewN ?_ _ | refine Below.alloc ?_ ?_ _ | refine Below.setCell ?_ ?_ _ | omega | (dsimp only; omega) | (simp <;> omega) | (simp at * <;> omega))⟩
    subst e3
    have hn1 : 1 ≤ nd ∧ nd ≤ 6 := by have := inR_true.1 g1; omega
    obtain ⟨hn1, hn6⟩ := hn1
    have HG1 := hide g1
    obtain ⟨W2, hW2⟩ : ∃ W2, W1.alloc (.cells #[.int .i64 t, .slice none 0 0, .slice none 0 0] 27) = W2 := ⟨_, rfl⟩
    have hR0 : Rec W1 W2 W1.heap.size t [⟨9, none, 0, 0, []⟩, ⟨3, none, 0, 0, []⟩] := Rec.new2 rfl hW2
    have HW2 := hide hW2
    clear hW2
    go_enter Try.func16, Try.ntmps16
    go_wp2_with (first | (rw [HW_W1.out]) | (go_at_call 39; refine (implInRange_any _ _ _ _).mono ?_; rintro e w' ⟨rfl, rfl⟩))
    rw [HW2.out]
    clear HW2 HW_W1 g1
    go_loopw [40] (fun i wr => ∃ (k m1 c1 m2 c2 : Nat) (A1 A2 : Option Addr), k ≤ nd ∧ i = .int .i64 k ∧ m1 ≤ k ∧ m2 ≤ k ∧ Rec W1 wr W1.heap.size t [⟨9, A1, m1, c1, sts (shV (bs.take k) (ps.take k))⟩, ⟨3, A2, m2, c2, ints (shV (bs.take k) (ss.take k))⟩] ∧ Hid (OkTo nm bs ps ss ds k)) (fun i _ => nd - (intOf i).toNat)
    case atStart => exact ⟨0, 0, 0, 0, 0, none, none, Nat.zero_le _, rfl, Nat.le_refl _, Nat.le_refl _, by simpa [shV, sts, ints] using hR0, OkTo.zero⟩
    case round =>
      clear hR0
      obtain ⟨k, m1, c1, m2, c2, A1, A2, hk, rfl, hm1, hm2, hrec, hok⟩ := hrel
      have hk0 : (0 : Int) ≤ (k : Int) := by omega
      by_cases hlt : k < nd
      · have hkn : (k : Int) < (nd : Int) := by omega
        obtain ⟨ab, b, rfl, hxb, hcb0⟩ := Rd.bl k1.b hlt
        obtain ⟨ap, p, rfl, hxp, hcp0⟩ := Rd.st k1.p hlt
        obtain ⟨as_, s, rfl, hxs, hcs0⟩ := Rd.int k1.s hlt
        obtain ⟨ad, Bd, md, cd2, d, rfl, hxd, hcd0, hrd⟩ := k1.d.at_ hlt
        have lcp := cell_lt hcp0
        have lcs := cell_lt hcs0
        have lcb := cell_lt hcb0
        have lcd := cell_lt hcd0
        have hmd := hrd.len
        have hps := hpz p (List.mem_of_getElem? hxp)
        have HXb := hide hxb
        have HXp := hide hxp
        have HXs := hide hxs
        have HXd := hide hxd
        have HMD := hide hmd
        clear hxb hxp hxs hxd hmd
        have hb := hrec.bel
        have hsb := hrec.sz
        obtain ⟨x0, x1, x2, x3, x4, x5⟩ := keep6 hb hc_W10 hc_W11 hc_W12 hc_W13 hc_W14 hc_W15
        obtain ⟨⟨y0, y1, y2⟩, ⟨z0, z1, z2⟩, ho1, ho2⟩ := hrec.three
        have hcb := keep1 hb hcb0
        have hcp := keep1 hb hcp0
        have hcs := keep1 hb hcs0
        have hcd := keep1 hb hcd0
        cases b with
        | true =>
          by_cases hm0 : md = 0
          · subst hm0
            have hmI : ¬ (0 : Int) < ((0 : Nat) : Int) := by omega
            have hoka := hide (show okAt nm true p s d = true by simp [okAt]; have := HMD.out; exact List.eq_nil_of_length_eq_zero (by omega))
            have HOK := hide (OkTo.step hok.out HXb.out HXp.out HXs.out HXd.out hoka.out)
            have hst1 := hide (shV_t HXb.out HXp.out)
            have hst2 := hide (shV_t HXb.out HXs.out)
            go_wp2_with fail
            refine wp_region_upto (S := (fun w' => w'.cell? ⟨w.heap.size, 3, none⟩ = some (.slice (some ap) nd cp) ∧ w'.cell? (ap.add k) = some (.string p) ∧ w'.cell? ⟨W1.heap.size, 1, none⟩ = some (.slice A1 m1 c1))) 10 (by kernel_rfl) ?_ (fun hHeld => ?_)
            · (((refine keep3 (W := wr) ?_ x3 hcp y1); (focus (repeat (first | exact Below.refl _ _ | assumption | refine Below.next_ ?_ ?_ (by assumption) | refine Below.drew ?_ | refine below_drewN ?_ _ | refine Below.alloc ?_ ?_ _ | refine Below.setCell ?_ ?_ _ | omega | (simp <;> omega) | (simp at * <;> omega))))))
            refine upto_take (i := 0) (v := ?v15) rfl (by kernel_rfl) (by kernel_rfl) (by kernel_rfl) (by kernel_rfl) (fun _ _ _ h => h) hHeld ?hy15 (by rfl) ?rest15
            case hy15 => (intro w' hSw; (try dsimp only at hSw); go_simp; (try with_reducible rfl))
            (try simp only [Act.put, List.setIfInBounds_toArray, List.set_cons_zero, List.set_cons_succ])
            refine upto_take (i := 1) (v := ?v16) rfl (by kernel_rfl) (by kernel_rfl) (by kernel_rfl) (by kernel_rfl) (fun _ _ _ h => h) hHeld ?hy16 (by rfl) ?rest16
            case hy16 => (intro w' hSw; (try dsimp only at hSw); go_simp; (try with_reducible rfl))
            (try simp only [Act.put, List.setIfInBounds_toArray, List.set_cons_zero, List.set_cons_succ])
            refine upto_take (i := 2) (v := ?v17) rfl (by kernel_rfl) (by kernel_rfl) (by kernel_rfl) (by kernel_rfl) (fun _ _ _ h => h) hHeld ?hy17 (by rfl) ?rest17
            case hy17 => (intro w' hSw; (try dsimp only at hSw); go_simp; (try with_reducible rfl))
            (try simp only [Act.put, List.setIfInBounds_toArray, List.set_cons_zero, List.set_cons_succ])
            refine upto_take (i := 3) (v := ?v18) rfl (by kernel_rfl) (by kernel_rfl) (by kernel_rfl) (by kernel_rfl) (fun _ _ _ h => h) hHeld ?hy18 (by rfl) ?rest18
            case hy18 => (intro w' hSw; (try dsimp only at hSw); go_simp; (try with_reducible rfl))
            (try simp only [Act.put, List.setIfInBounds_toArray, List.set_cons_zero, List.set_cons_succ])
            refine upto_take (i := 4) (v := ?v19) rfl (by kernel_rfl) (by kernel_rfl) (by kernel_rfl) (by kernel_rfl) (fun _ _ _ h => h) hHeld ?hy19 (by rfl) ?rest19
            case hy19 => (intro w' hSw; (try dsimp only at hSw); go_simp; (try with_reducible rfl))
            (try simp only [Act.put, List.setIfInBounds_toArray, List.set_cons_zero, List.set_cons_succ])
            refine upto_take (i := 5) (v := ?v20) rfl (by kernel_rfl) (by kernel_rfl) (by kernel_rfl) (by kernel_rfl) (fun _ _ _ h => h) hHeld ?hy20 (by rfl) ?rest20
            case hy20 => (intro w' hSw; (try dsimp only at hSw); go_simp; (try with_reducible rfl))
            (try simp only [Act.put, List.setIfInBounds_toArray, List.set_cons_zero, List.set_cons_succ])
            refine upto_take (i := 6) (v := ?v21) rfl (by kernel_rfl) (by kernel_rfl) (by kernel_rfl) (by kernel_rfl) (fun _ _ _ h => h) hHeld ?hy21 (by rfl) ?rest21
            case hy21 => (intro w' hSw; (try dsimp only at hSw); go_simp; (try with_reducible rfl))
            (try simp only [Act.put, List.setIfInBounds_toArray, List.set_cons_zero, List.set_cons_succ])
            refine upto_step (k := 7) (by kernel_rfl) rfl (fun K hK => ?_)
            go_simp
            refine hK.out _ _ ?_ ?_
            · (intro _; (((refine keep3 (W := wr) ?_ x3 hcp y1); (focus (repeat (first | exact Below.refl _ _ | assumption | refine Below.next_ ?_ ?_ (by assumption) | refine Below.drew ?_ | refine below_drewN ?_ _ | refine Below.alloc ?_ ?_ _ | refine Below.setCell ?_ ?_ _ | omega | (simp <;> omega) | (simp at * <;> omega)))))))
            clear hK K
            (try simp only [Act.put, List.setIfInBounds_toArray, List.set_cons_zero, List.set_cons_succ])
            refine upto_step (k := 8) (by kernel_rfl) rfl (fun K hK => ?_)
            (first | (refine step_app2 (B := (W1.heap.size + 1)) (w0 := wr) _ rfl (.tmp 54) (.tmp 60) 25 rfl 9 iString (.string ByteArray.empty) 1 16 Try.underlying25 hiString hzString0 hzString1 hzString2 rfl (by omega) rfl (own_below ho1 ?_) rfl (Rd.one _ _ _) (sts_one [_]) ?_ ?_ rfl rfl ?_ ?_ ?_ ?_ ?_; (focus (repeat (first | exact Below.refl _ _ | assumption | refine Below.next_ ?_ ?_ (by assumption) | refine Below.drew ?_ | refine below_drewN ?_ _ | refine Below.alloc ?_ ?_ _ | refine Below.setCell ?_ ?_ _ | omega | (dsimp only; omega) | (simp <;> omega) | (simp at * <;> omega)))); (focus (unfold maxLen; omega)); (focus omega); (focus (repeat (first | exact Below.refl _ _ | assumption | refine Below.next_ ?_ ?_ (by assumption) | refine Below.drew ?_ | refine below_drewN ?_ _ | refine Below.alloc ?_ ?_ _ | refine Below.setCell ?_ ?_ _ | omega | (dsimp only; omega) | (simp <;> omega) | (simp at * <;> omega)))); (focus (first | omega | (simp <;> omega) | (simp at * <;> omega))); (focus (first | exact Nat.le_refl _ | omega)); (focus (first | omega | (simp <;> omega) | (simp at * <;> omega))); intro Aa ca wa hoa hba hga hata; have hsa := hba.size; have u3 := (hba.cell (p := ⟨w.heap.size, 3, none⟩) (by show w.heap.size < W1.heap.size + 1; omega)).trans x3; have u1 := (hba.cell (p := ⟨W1.heap.size, 1, none⟩) (by show W1.heap.size < W1.heap.size + 1; omega)).trans y1; have uf := (hba.frozen (p := ⟨W1.heap.size, 1, none⟩) (by show W1.heap.size < W1.heap.size + 1; omega)).trans z1; have up := (hba.cell (p := (ap.add k)) (by omega)).trans hcp) | (refine step_app2 (B := (W1.heap.size + 1)) (w0 := wr) _ rfl (.tmp 54) (.tmp 60) 25 rfl 9 iString (.string ByteArray.empty) 1 16 Try.underlying25 hiString hzString0 hzString1 hzString2 rfl (by omega) rfl (own_below ho1 ?_) rfl (Rd.drew_ (Rd.one _ _ _)) (sts_one [_]) ?_ ?_ rfl rfl ?_ ?_ ?_ ?_ ?_; (focus (repeat (first | exact Below.refl _ _ | assumption | refine Below.next_ ?_ ?_ (by assumption) | refine Below.drew ?_ | refine below_drewN ?_ _ | refine Below.alloc ?_ ?_ _ | refine Below.setCell ?_ ?_ _ | omega | (dsimp only; omega) | (simp <;> omega) | (simp at * <;> omega)))); (focus (unfold maxLen; omega)); (focus omega); (focus (repeat (first | exact Below.refl _ _ | assumption | refine Below.next_ ?_ ?_ (by assumption) | refine Below.drew ?_ | refine below_drewN ?_ _ | refine Below.alloc ?_ ?_ _ | refine Below.setCell ?_ ?_ _ | omega | (dsimp only; omega) | (simp <;> omega) | (simp at * <;> omega)))); (focus (first | omega | (simp <;> omega) | (simp at * <;> omega))); (focus (first | exact Nat.le_refl _ | omega)); (focus (first | omega | (simp <;> omega) | (simp at * <;> omega))); intro Aa ca wa hoa hba hga hata; have hsa := hba.size; have u3 := (hba.cell (p := ⟨w.heap.size, 3, none⟩) (by show w.heap.size < W1.heap.size + 1; omega)).trans x3; have u1 := (hba.cell (p := ⟨W1.heap.size, 1, none⟩) (by show W1.heap.size < W1.heap.size + 1; omega)).trans y1; have uf := (hba.frozen (p := ⟨W1.heap.size, 1, none⟩) (by show W1.heap.size < W1.heap.size + 1; omega)).trans z1; have up := (hba.cell (p := (ap.add k)) (by omega)).trans hcp) | (refine step_app2 (B := (W1.heap.size + 1)) (w0 := wr) _ rfl (.tmp 54) (.tmp 60) 25 rfl 9 iString (.string ByteArray.empty) 1 16 Try.underlying25 hiString hzString0 hzString1 hzString2 rfl (by omega) rfl (own_below ho1 ?_) rfl (Rd.drew_ (Rd.drew_ (Rd.one _ _ _))) (sts_one [_]) ?_ ?_ rfl rfl ?_ ?_ ?_ ?_ ?_; (focus (repeat (first | exact Below.refl _ _ | assumption | refine Below.next_ ?_ ?_ (by assumption) | refine Below.drew ?_ | refine below_drewN ?_ _ | refine Below.alloc ?_ ?_ _ | refine Below.setCell ?_ ?_ _ | omega | (dsimp only; omega) | (simp <;> omega) | (simp at * <;> omega)))); (focus (unfold maxLen; omega)); (focus omega); (focus (repeat (first | exact Below.refl _ _ | assumption | refine Below.next_ ?_ ?_ (by assumption) | refine Below.drew ?_ | refine below_drewN ?_ _ | refine Below.alloc ?_ ?_ _ | refine Below.setCell ?_ ?_ _ | omega | (dsimp only; omega) | (simp <;> omega) | (simp at * <;> omega)))); (focus (first | omega | (simp <;> omega) | (simp at * <;> omega))); (focus (first | exact Nat.le_refl _ | omega)); (focus (first | omega | (simp <;> omega) | (simp at * <;> omega))); intro Aa ca wa hoa hba hga hata; have hsa := hba.size; have u3 := (hba.cell (p := ⟨w.heap.size, 3, none⟩) (by show w.heap.size < W1.heap.size + 1; omega)).trans x3; have u1 := (hba.cell (p := ⟨W1.heap.size, 1, none⟩) (by show W1.heap.size < W1.heap.size + 1; omega)).trans y1; have uf := (hba.frozen (p := ⟨W1.heap.size, 1, none⟩) (by show W1.heap.size < W1.heap.size + 1; omega)).trans z1; have up := (hba.cell (p := (ap.add k)) (by omega)).trans hcp))
            refine hK.out _ _ ?_ ?_
            · (intro _; exact ⟨u3, up, u1⟩)
            clear hK K
            (try simp only [Act.put, List.setIfInBounds_toArray, List.set_cons_zero, List.set_cons_succ])
            refine upto_step (k := 9) (by kernel_rfl) rfl (fun K hK => ?_)
            go_simp
            refine hK.out _ _ ?_ ?_
            · (intro _; exact ⟨u3, up, u1⟩)
            clear hK K
            (try simp only [Act.put, List.setIfInBounds_toArray, List.set_cons_zero, List.set_cons_succ])
            refine upto_step (k := 10) (by kernel_rfl) rfl (fun K hK => ?_)
            go_simp
            refine hK.out _ _ ?_ ?_
            · (intro h; exact absurd rfl h)
            clear hK K
            (try simp only [Act.put, List.setIfInBounds_toArray, List.set_cons_zero, List.set_cons_succ])
            refine upto_done (by kernel_rfl) ?_ _
            have ra := Rec.app (i := 0) hrec rfl (by repeat (first | exact Below.refl _ _ | assumption | refine Below.next_ ?_ ?_ (by assumption) | refine Below.drew ?_ | refine below_drewN ?_ _ | refine Below.alloc ?_ ?_ _ | refine Below.setCell ?_ ?_ _ | omega | (dsimp only; omega) | (simp <;> omega) | (simp at * <;> omega))) hoa hba hga hata
            simp only [List.set_cons_zero, List.set_cons_succ] at ra
            obtain ⟨va, hva⟩ : ∃ x, wa.setCell ⟨W1.heap.size, 1, none⟩ (.slice Aa (m1 + 1) ca) = x := ⟨_, rfl⟩
            rw [hva] at ra ⊢
            clear hHeld u3 u1 uf up hoa hba hga hata hsa hva
            clear x0 x1 x2 x3 x4 x5 y0 y1 y2 z0 z1 z2 ho1 ho2 hcb hcp hcs hcd hb
            have hba := ra.bel
            have hsba := ra.sz
            obtain ⟨x0a, x1a, x2a, x3a, x4a, x5a⟩ := keep6 hba hc_W10 hc_W11 hc_W12 hc_W13 hc_W14 hc_W15
            obtain ⟨⟨y0a, y1a, y2a⟩, ⟨z0a, z1a, z2a⟩, ho1a, ho2a⟩ := ra.three
            have hcba := keep1 hba hcb0
            have hcpa := keep1 hba hcp0
            have hcsa := keep1 hba hcs0
            have hcda := keep1 hba hcd0
            go_wp2_with fail
            refine wp_region_upto (S := (fun w' => w'.cell? ⟨w.heap.size, 4, none⟩ = some (.slice (some as_) nd cs) ∧ w'.cell? (as_.add k) = some (.int .i64 s) ∧ w'.cell? ⟨W1.heap.size, 2, none⟩ = some (.slice A2 m2 c2))) 10 (by kernel_rfl) ?_ (fun hHeld => ?_)
            · (((refine keep3 (W := va) ?_ x4a hcsa y2a); (focus (repeat (first | exact Below.refl _ _ | assumption | refine Below.next_ ?_ ?_ (by assumption) | refine Below.drew ?_ | refine below_drewN ?_ _ | refine Below.alloc ?_ ?_ _ | refine Below.setCell ?_ ?_ _ | omega | (simp <;> omega) | (simp at * <;> omega))))))
            refine upto_take (i := 0) (v := ?v22) rfl (by kernel_rfl) (by kernel_rfl) (by kernel_rfl) (by kernel_rfl) (fun _ _ _ h => h) hHeld ?hy22 (by rfl) ?rest22
            case hy22 => (intro w' hSw; (try dsimp only at hSw); go_simp; (try with_reducible rfl))
            (try simp only [Act.put, List.setIfInBounds_toArray, List.set_cons_zero, List.set_cons_succ])
            refine upto_take (i := 1) (v := ?v23) rfl (by kernel_rfl) (by kernel_rfl) (by kernel_rfl) (by kernel_rfl) (fun _ _ _ h => h) hHeld ?hy23 (by rfl) ?rest23
            case hy23 => (intro w' hSw; (try dsimp only at hSw); go_simp; (try with_reducible rfl))
            (try simp only [Act.put, List.setIfInBounds_toArray, List.set_cons_zero, List.set_cons_succ])
            refine upto_take (i := 2) (v := ?v24) rfl (by kernel_rfl) (by kernel_rfl) (by kernel_rfl) (by kernel_rfl) (fun _ _ _ h => h) hHeld ?hy24 (by rfl) ?rest24
            case hy24 => (intro w' hSw; (try dsimp only at hSw); go_simp; (try with_reducible rfl))
            (try simp only [Act.put, List.setIfInBounds_toArray, List.set_cons_zero, List.set_cons_succ])
            refine upto_take (i := 3) (v := ?v25) rfl (by kernel_rfl) (by kernel_rfl) (by kernel_rfl) (by kernel_rfl) (fun _ _ _ h => h) hHeld ?hy25 (by rfl) ?rest25
            case hy25 => (intro w' hSw; (try dsimp only at hSw); go_simp; (try with_reducible rfl))
            (try simp only [Act.put, List.setIfInBounds_toArray, List.set_cons_zero, List.set_cons_succ])
            refine upto_take (i := 4) (v := ?v26) rfl (by kernel_rfl) (by kernel_rfl) (by kernel_rfl) (by kernel_rfl) (fun _ _ _ h => h) hHeld ?hy26 (by rfl) ?rest26
            case hy26 => (intro w' hSw; (try dsimp only at hSw); go_simp; (try with_reducible rfl))
            (try simp only [Act.put, List.setIfInBounds_toArray, List.set_cons_zero, List.set_cons_succ])
            refine upto_take (i := 5) (v := ?v27) rfl (by kernel_rfl) (by kernel_rfl) (by kernel_rfl) (by kernel_rfl) (fun _ _ _ h => h) hHeld ?hy27 (by rfl) ?rest27
            case hy27 => (intro w' hSw; (try dsimp only at hSw); go_simp; (try with_reducible rfl))
            (try simp only [Act.put, List.setIfInBounds_toArray, List.set_cons_zero, List.set_cons_succ])
            refine upto_take (i := 6) (v := ?v28) rfl (by kernel_rfl) (by kernel_rfl) (by kernel_rfl) (by kernel_rfl) (fun _ _ _ h => h) hHeld ?hy28 (by rfl) ?rest28
            case hy28 => (intro w' hSw; (try dsimp only at hSw); go_simp; (try with_reducible rfl))
            (try simp only [Act.put, List.setIfInBounds_toArray, List.set_cons_zero, List.set_cons_succ])
            refine upto_step (k := 7) (by kernel_rfl) rfl (fun K hK => ?_)
            go_simp
            refine hK.out _ _ ?_ ?_
            · (intro _; (((refine keep3 (W := va) ?_ x4a hcsa y2a); (focus (repeat (first | exact Below.refl _ _ | assumption | refine Below.next_ ?_ ?_ (by assumption) | refine Below.drew ?_ | refine below_drewN ?_ _ | refine Below.alloc ?_ ?_ _ | refine Below.setCell ?_ ?_ _ | omega | (simp <;> omega) | (simp at * <;> omega)))))))
            clear hK K
            (try simp only [Act.put, List.setIfInBounds_toArray, List.set_cons_zero, List.set_cons_succ])
            refine upto_step (k := 8) (by kernel_rfl) rfl (fun K hK => ?_)
            (first | (refine step_app2 (B := (W1.heap.size + 1)) (w0 := va) _ rfl (.tmp 64) (.tmp 70) 24 rfl 3 iInt (.int .i64 0) 1 8 Try.underlying24 hiInt hzInt0 hzInt1 hzInt2 rfl (by omega) rfl (own_below ho2a ?_) rfl (Rd.one _ _ _) (ints_one [_]) ?_ ?_ rfl rfl ?_ ?_ ?_ ?_ ?_; (focus (repeat (first | exact Below.refl _ _ | assumption | refine Below.next_ ?_ ?_ (by assumption) | refine Below.drew ?_ | refine below_drewN ?_ _ | refine Below.alloc ?_ ?_ _ | refine Below.setCell ?_ ?_ _ | omega | (dsimp only; omega) | (simp <;> omega) | (simp at * <;> omega)))); (focus (unfold maxLen; omega)); (focus omega); (focus (repeat (first | exact Below.refl _ _ | assumption | refine Below.next_ ?_ ?_ (by assumption) | refine Below.drew ?_ | refine below_drewN ?_ _ | refine Below.alloc ?_ ?_ _ | refine Below.setCell ?_ ?_ _ | omega | (dsimp only; omega) | (simp <;> omega) | (simp at * <;> omega)))); (focus (first | omega | (simp <;> omega) | (simp at * <;> omega))); (focus (first | exact Nat.le_refl _ | omega)); (focus (first | omega | (simp <;> omega) | (simp at * <;> omega))); intro Ab cb wb hob hbb hgb hatb; have hsb := hbb.size; have u3 := (hbb.cell (p := ⟨w.heap.size, 4, none⟩) (by show w.heap.size < W1.heap.size + 1; omega)).trans x4a; have u1 := (hbb.cell (p := ⟨W1.heap.size, 2, none⟩) (by show W1.heap.size < W1.heap.size + 1; omega)).trans y2a; have uf := (hbb.frozen (p := ⟨W1.heap.size, 2, none⟩) (by show W1.heap.size < W1.heap.size + 1; omega)).trans z2a; have up := (hbb.cell (p := (as_.add k)) (by omega)).trans hcsa) | (refine step_app2 (B := (W1.heap.size + 1)) (w0 := va) _ rfl (.tmp 64) (.tmp 70) 24 rfl 3 iInt (.int .i64 0) 1 8 Try.underlying24 hiInt hzInt0 hzInt1 hzInt2 rfl (by omega) rfl (own_below ho2a ?_) rfl (Rd.drew_ (Rd.one _ _ _)) (ints_one [_]) ?_ ?_ rfl rfl ?_ ?_ ?_ ?_ ?_; (focus (repeat (first | exact Below.refl _ _ | assumption | refine Below.next_ ?_ ?_ (by assumption) | refine Below.drew ?_ | refine below_drewN ?_ _ | refine Below.alloc ?_ ?_ _ | refine Below.setCell ?_ ?_ _ | omega | (dsimp only; omega) | (simp <;> omega) | (simp at * <;> omega)))); (focus (unfold maxLen; omega)); (focus omega); (focus (repeat (first | exact Below.refl _ _ | assumption | refine Below.next_ ?_ ?_ (by assumption) | refine Below.drew ?_ | refine below_drewN ?_ _ | refine Below.alloc ?_ ?_ _ | refine Below.setCell ?_ ?_ _ | omega | (dsimp only; omega) | (simp <;> omega) | (simp at * <;> omega)))); (focus (first | omega | (simp <;> omega) | (simp at * <;> omega))); (focus (first | exact Nat.le_refl _ | omega)); (focus (first | omega | (simp <;> omega) | (simp at * <;> omega))); intro Ab cb wb hob hbb hgb hatb; have hsb := hbb.size; have u3 := (hbb.cell (p := ⟨w.heap.size, 4, none⟩) (by show w.heap.size < W1.heap.size + 1; omega)).trans x4a; have u1 := (hbb.cell (p := ⟨W1.heap.size, 2, none⟩) (by show W1.heap.size < W1.heap.size + 1; omega)).trans y2a; have uf := (hbb.frozen (p := ⟨W1.heap.size, 2, none⟩) (by show W1.heap.size < W1.heap.size + 1; omega)).trans z2a; have up := (hbb.cell (p := (as_.add k)) (by omega)).trans hcsa) | (refine step_app2 (B := (W1.heap.size + 1)) (w0 := va) _ rfl (.tmp 64) (.tmp 70) 24 rfl 3 iInt (.int .i64 0) 1 8 Try.underlying24 hiInt hzInt0 hzInt1 hzInt2 rfl (by omega) rfl (own_below ho2a ?_) rfl (Rd.drew_ (Rd.drew_ (Rd.one _ _ _))) (ints_one [_]) ?_ ?_ rfl rfl ?_ ?_ ?_ ?_ ?_; (focus (repeat (first | exact Below.refl _ _ | assumption | refine Below.next_ ?_ ?_ (by assumption) | refine Below.drew ?_ | refine below_drewN ?_ _ | refine Below.alloc ?_ ?_ _ | refine Below.setCell ?_ ?_ _ | omega | (dsimp only; omega) | (simp <;> omega) | (simp at * <;> omega)))); (focus (unfold maxLen; omega)); (focus omega); (focus (repeat (first | exact Below.refl _ _ | assumption | refine Below.next_ ?_ ?_ (by assumption) | refine Below.drew ?_ | refine below_drewN ?_ _ | refine Below.alloc ?_ ?_ _ | refine Below.setCell ?_ ?_ _ | omega | (dsimp only; omega) | (simp <;> omega) | (simp at * <;> omega)))); (focus (first | omega | (simp <;> omega) | (simp at * <;> omega))); (focus (first | exact Nat.le_refl _ | omega)); (focus (first | omega | (simp <;> omega) | (simp at * <;> omega))); intro Ab cb wb hob hbb hgb hatb; have hsb := hbb.size; have u3 := (hbb.cell (p := ⟨w.heap.size, 4, none⟩) (by show w.heap.size < W1.heap.size + 1; omega)).trans x4a; have u1 := (hbb.cell (p := ⟨W1.heap.size, 2, none⟩) (by show W1.heap.size < W1.heap.size + 1; omega)).trans y2a; have uf := (hbb.frozen (p := ⟨W1.heap.size, 2, none⟩) (by show W1.heap.size < W1.heap.size + 1; omega)).trans z2a; have up := (hbb.cell (p := (as_.add k)) (by omega)).trans hcsa))
            refine hK.out _ _ ?_ ?_
            · (intro _; exact ⟨u3, up, u1⟩)
            clear hK K
            (try simp only [Act.put, List.setIfInBounds_toArray, List.set_cons_zero, List.set_cons_succ])
            refine upto_step (k := 9) (by kernel_rfl) rfl (fun K hK => ?_)
            go_simp
            refine hK.out _ _ ?_ ?_
            · (intro _; exact ⟨u3, up, u1⟩)
            clear hK K
            (try simp only [Act.put, List.setIfInBounds_toArray, List.set_cons_zero, List.set_cons_succ])
            refine upto_step (k := 10) (by kernel_rfl) rfl (fun K hK => ?_)
            go_simp
            refine hK.out _ _ ?_ ?_
            · (intro h; exact absurd rfl h)
            clear hK K
            (try simp only [Act.put, List.setIfInBounds_toArray, List.set_cons_zero, List.set_cons_succ])
            refine upto_done (by kernel_rfl) ?_ _
            have rb := Rec.app (i := 1) ra rfl (by repeat (first | exact Below.refl _ _ | assumption | refine Below.next_ ?_ ?_ (by assumption) | refine Below.drew ?_ | refine below_drewN ?_ _ | refine Below.alloc ?_ ?_ _ | refine Below.setCell ?_ ?_ _ | omega | (dsimp only; omega) | (simp <;> omega) | (simp at * <;> omega))) hob hbb hgb hatb
            simp only [List.set_cons_zero, List.set_cons_succ] at rb
            obtain ⟨vb, hvb⟩ : ∃ x, wb.setCell ⟨W1.heap.size, 2, none⟩ (.slice Ab (m2 + 1) cb) = x := ⟨_, rfl⟩
            rw [hvb] at rb ⊢
            clear hHeld u3 u1 uf up hob hbb hgb hatb hsb hvb
            clear x0a x1a x2a x3a x4a x5a y0a y1a y2a z0a z1a z2a ho1a ho2a hcba hcpa hcsa hcda hba
            go_wp2_with fail
            go_roundw
            case rel => exact ⟨k + 1, m1 + 1, ca, m2 + 1, cb, Aa, Ab, by omega, by go_num, by omega, by omega, by rw [hst1.out, hst2.out, sts_snoc, ints_snoc]; exact rb, HOK.out⟩
            case measure => simp [intOf]; omega
          · have hmI : (0 : Int) < (md : Int) := by omega
            have hl0 : d ≠ [] := by rintro rfl; have := HMD.out; simp at this; omega
            have hfin := hide (show isRed t nm bs ps ss ds = false by unfold isRed; rw [okAll_no HXb.out HXp.out HXs.out HXd.out (by simp [okAt, hl0])]; simp)
            clear hl0 hm0
            go_wp2_with fail
            go_ret
            exact ⟨ret_b hfin.out.symm, Below.next_ hb_W1 (Nat.le_of_lt hs_W1) (hb)⟩
        | false =>
          have hst1 := hide (shV_f HXb.out HXp.out)
          have hst2 := hide (shV_f HXb.out HXs.out)
          by_cases hp : p = ByteArray.empty
          rotate_left
          · have hp1 : (p.toList == []) = false := not_empty hp
            have hp2 : (p.toList != []) = true := by simp only [bne, hp1]; rfl
            have hp3 : (p.toList != (⟨#[]⟩ : ByteArray).toList) = true := by simpa using hp2
            have hfin := hide (show isRed t nm bs ps ss ds = false by unfold isRed; rw [okAll_no HXb.out HXp.out HXs.out HXd.out (by simp [okAt, hp])]; simp)
            clear hp
            go_wp2_with fail
            go_quiet (fail)
            go_wp2_with fail
            go_ret
            exact ⟨ret_b hfin.out.symm, Below.next_ hb_W1 (Nat.le_of_lt hs_W1) (below_drewN hb _)⟩
          subst hp
          by_cases hs0 : s = 0
          rotate_left
          · have hsI : (s != 0) = true := by simpa using hs0
            have hfin := hide (show isRed t nm bs ps ss ds = false by unfold isRed; rw [okAll_no HXb.out HXp.out HXs.out HXd.out (by simp [okAt, hs0])]; simp)
            clear hs0
            go_wp2_with fail
            go_quiet (fail)
            go_wp2_with fail
            go_ret
            exact ⟨ret_b hfin.out.symm, Below.next_ hb_W1 (Nat.le_of_lt hs_W1) (below_drewN hb _)⟩
          subst hs0
          by_cases hmm : md = nm
          rotate_left
          · have hmI : ((md : Int) != (nm : Int)) = true := by simpa using (by omega : ¬ (md : Int) = nm)
            have hl0 : ¬ d.length = nm := by have := HMD.out; omega
            have hfin := hide (show isRed t nm bs ps ss ds = false by unfold isRed; rw [okAll_no HXb.out HXp.out HXs.out HXd.out (by simp [okAt, hl0])]; simp)
            clear hl0 hmm
            go_wp2_with fail
            go_quiet (fail)
            go_wp2_with fail
            go_ret
            exact ⟨ret_b hfin.out.symm, Below.next_ hb_W1 (Nat.le_of_lt hs_W1) (below_drewN hb _)⟩
          have hmI : ((md : Int) != (nm : Int)) = false := by simpa using (by omega : (md : Int) = nm)
          have hoka := hide (show okAt nm false ByteArray.empty 0 d = true by have := HMD.out; simp [okAt]; omega)
          have HOK := hide (OkTo.step hok.out HXb.out HXp.out HXs.out HXd.out hoka.out)
          go_wp2_with fail
          go_quiet (fail)
          go_wp2_with fail
          go_roundw
          case rel => exact ⟨k + 1, m1, c1, m2, c2, A1, A2, by omega, by go_num, by omega, by omega, by rw [hst1.out, hst2.out]; exact hrec.drewN _, HOK.out⟩
          case measure => simp [intOf]; omega
      · obtain rfl : k = nd := by omega
        have hkn : ¬ (k : Int) < (k : Int) := by omega
        have hA1 := (OkTo.all hok.out (by rw [HLb.out]; exact Nat.le_refl _))
        have HA := hide hA1
        clear hA1
        rw [List.take_of_length_le (by rw [HLb.out]; exact Nat.le_refl _), List.take_of_length_le (by rw [HLp.out]; exact Nat.le_refl _), List.take_of_length_le (by rw [HLs.out]; exact Nat.le_refl _)] at hrec
        have hb := hrec.bel
        have hsb := hrec.sz
        obtain ⟨x0, x1, x2, x3, x4, x5⟩ := keep6 hb hc_W10 hc_W11 hc_W12 hc_W13 hc_W14 hc_W15
        obtain ⟨⟨y0, y1, y2⟩, ⟨z0, z1, z2⟩, ho1, ho2⟩ := hrec.three
        have HF := hide (show isRed t nm bs ps ss ds = (isDoc t (shV bs ps) (shV bs ss) || decide ((shV bs ps).length = 0) && inR t 0 999) by
          unfold isRed
          rw [HLb.out, HLp.out, HLs.out, HLd.out, HG1.out, HA.out]
          simp)
        have HM1 := hide (show (shV bs ps).length = m1 from (Rd.of_own ho1).maplen)
        cases hdoc : isDoc t (shV bs ps) (shV bs ss) with
        | true =>
          have hfin := hide (show isRed t nm bs ps ss ds = true by rw [HF.out, hdoc]; simp)
          have T := implIsDocument_any (t := t) (c := c1) (d := c2) (Rd.of_own ho1) (Rd.of_own ho2) (by omega) (by omega)
          rw [hdoc] at T
          have HT := hide T
          clear T
          go_wp2_with fail
          refine HT.out.mono ?_
          rintro e w5 ⟨rfl, hb5⟩
          have r5 := hrec.below hb5
          have hb6 := Below.next_ hb_W1 (Nat.le_of_lt hs_W1) (Below.refl W1.heap.size W1)
          have hbz := r5.bel
          go_wp2_with fail
          go_ret
          exact ⟨ret_b hfin.out.symm, Below.next_ hb_W1 (Nat.le_of_lt hs_W1) hbz⟩
        | false =>
          have T := implIsDocument_any (t := t) (c := c1) (d := c2) (Rd.of_own ho1) (Rd.of_own ho2) (by omega) (by omega)
          rw [hdoc] at T
          have HT := hide T
          clear T
          by_cases hm0 : m1 = 0
          · have hmI : ((m1 : Int) == 0) = true := by simpa using hm0
            have hfin := hide (show isRed t nm bs ps ss ds = inR t 0 999 by rw [HF.out, hdoc, HM1.out]; simp [hm0])
            clear hm0 hdoc
            go_wp2_with fail
            refine HT.out.mono ?_
            rintro e w5 ⟨rfl, hb5⟩
            have r5 := hrec.below hb5
            have hbz := r5.bel
            clear x0 x1 x2 x3 x4 x5 y0 y1 y2 z0 z1 z2 ho1 ho2 
            have hbq := r5.bel
            have hsbq := r5.sz
            obtain ⟨x0q, x1q, x2q, x3q, x4q, x5q⟩ := keep6 hbq hc_W10 hc_W11 hc_W12 hc_W13 hc_W14 hc_W15
            obtain ⟨⟨y0q, y1q, y2q⟩, ⟨z0q, z1q, z2q⟩, ho1q, ho2q⟩ := r5.three
            go_wp2_with (go_at_call 39; refine (implInRange_any _ _ _ _).mono ?_; rintro e w' ⟨rfl, rfl⟩)
            go_ret
            exact ⟨ret_b hfin.out.symm, Below.next_ hb_W1 (Nat.le_of_lt hs_W1) hbz⟩
          · have hmI : ((m1 : Int) == 0) = false := by simpa using hm0
            have hfin := hide (show isRed t nm bs ps ss ds = false by rw [HF.out, hdoc, HM1.out]; simp [hm0])
            clear hm0 hdoc
            go_wp2_with fail
            refine HT.out.mono ?_
            rintro e w5 ⟨rfl, hb5⟩
            have r5 := hrec.below hb5
            have hbz := r5.bel
            clear x0 x1 x2 x3 x4 x5 y0 y1 y2 z0 z1 z2 ho1 ho2 
            have hbq := r5.bel
            have hsbq := r5.sz
            obtain ⟨x0q, x1q, x2q, x3q, x4q, x5q⟩ := keep6 hbq hc_W10 hc_W11 hc_W12 hc_W13 hc_W14 hc_W15
            obtain ⟨⟨y0q, y1q, y2q⟩, ⟨z0q, z1q, z2q⟩, ho1q, ho2q⟩ := r5.three
            go_wp2_with fail
            go_ret
            exact ⟨ret_b hfin.out.symm, Below.next_ hb_W1 (Nat.le_of_lt hs_W1) hbz⟩
end Go.Proofs.Ythjdigiaajdnbaa
