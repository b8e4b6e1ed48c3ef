/- Lists of spans have the times of their parts, each once, and meet in the times of both. For every input. -/
import Derived.Test.YtgeffaohdoeclaaArgs
import Derived.Test.YtgeffaohdoeclaaDr4
import Derived.Test.YtgeffaohdoeclaaPlS
import Derived.Test.YtgeffaohdoeclaaSpanM
import Derived.Test.YtgeffaohdoeclaaSpanT
import Derived.Test.YtgeffaohdoeclaaQui
import Derived.Test.YtgeffaohdoeclaaRed
import Derived.Deep.Cut
import Derived.Deep.CutRange
import Derived.BigQuiet
import Derived.Deep.Cut
import Derived.Deep.CutRange
namespace Go.Proofs.Ytgeffaohdoeclaa.lawFnSpans
open Go.ChangeShapes Go.WideShapes Go.ChangeAt Go.RowKit
set_option maxRecDepth 1000000
set_option linter.unusedSimpArgs false
set_option linter.unusedVariables false
theorem own : ownKnob Try.prog.godebug = none := by kernel_rfl
theorem blk_two {w : World} {b : Nat} {v0 v1 : Value} (h : Blk w b [v0, v1]) : w.cell? ⟨b, 0, none⟩ = some v0 ∧ w.cell? ⟨b, 1, none⟩ = some v1 := ⟨(h 0 _ rfl).1, (h 1 _ rfl).1⟩
theorem mt_in {a b c d : Int} (h : mtOk a b c d = true) : insd (mtF a b c d) (mtT a b c d) a b = true ∧ insd (mtF a b c d) (mtT a b c d) c d = true := by
  unfold mtF mtT
  rw [if_pos h, if_pos h]
  unfold mtOk mkOk isSp isT at h
  unfold insd isSp isT
  simp only [Bool.and_eq_true, decide_eq_true_eq, inR_true] at *
  omega
theorem mk_in {f t : Int} (h : mkOk f t = true) : isSp (mkF f t) (mkT f t) = true ∧ f ≤ mkF f t ∧ mkT f t ≤ t := by
  unfold mkF mkT
  rw [if_pos h, if_pos h]
  unfold mkOk at h
  unfold isSp isT
  simp only [Bool.and_eq_true, decide_eq_true_eq, inR_true] at *
  omega
theorem ne_bool {a b : Bool} (h : a = b) : (a != b) = false := by subst h; simp
set_option maxHeartbeats 16000000 in
theorem law_any {v0 : Value} {W : World} (i0 : InBytes W v0) (w : World) (hWw : w = W) :
    Calls Try.prog 7 #[v0] w fun e w' => e = .returned (.bool true) ∧ Below w.heap.size w w' := by
  subst hWw
  obtain ⟨A0, n0, c0, l0, rfl, hn0, hr0, hI0⟩ := i0
  by_cases hg0 : n0 ≤ 1048576
  rotate_left
  · have hg0' : (1048576 : Int) < (n0 : Int) := by omega
    go_enter Try.func7, Try.ntmps7
    go_wp2_with fail
    refine (big_any _).mono ?_
    rintro e _ ⟨rfl, rfl⟩
    go_wp2_with fail
    go_ret
    exact ⟨rfl, by repeat (first | exact Below.refl _ _ | assumption | refine Below.next_ ?_ ?_ (by assumption) | refine Below.drew ?_ | refine below_drewN ?_ _ | refine Below.alloc ?_ ?_ _ | refine Below.setCell ?_ ?_ _ | omega | (dsimp only; omega) | (simp <;> omega) | (simp at * <;> omega))⟩
  have hg0' : ¬ (1048576 : Int) < (n0 : Int) := by omega
  go_enter Try.func7, Try.ntmps7
  go_wp2_with fail
  refine (big_any _).mono ?_
  rintro e _ ⟨rfl, rfl⟩
  go_wp2_with fail
  refine (DrawJoinAll_any hr0 hg0 hI0).mono ?_
  rintro e w1 ⟨B, m, d, rfl, hm, l, ho, hAl, hb1⟩
  have hz1 := hb1.size
  have hLl : l.length = m := (Rd.of_own ho).splen
  have HLl := hide hLl
  clear hLl
  go_wp2_with fail
  refine (implJoinAll_h (Rd.of_own ho) (by omega)).mono ?_
  rintro e w2 ⟨B2, m2, d2, rfl, hm2, ho2, hb2⟩
  have hz2 := hb2.size
  have hm2b := hm2.out.2
  go_wp2_with fail
  refine (specJoinAll_h ((Rd.of_own ho).below hb2) (by omega)).mono ?_
  rintro e w3 ⟨B3, m3, d3, rfl, hm3, ho3, hb3⟩
  obtain rfl : m3 = m2 := by have := hm2.out.1; have := hm3.out.1; omega
  have hz3 := hb3.size
  have hrl : Rd w3 2 B m (sps l) := ((Rd.of_own ho).below hb2).below hb3
  have hra : Rd w3 2 B2 m3 (sps (joinF l)) := (Rd.of_own ho2).below hb3
  have hbA : Below w.heap.size w w3 := by repeat (first | exact Below.refl _ _ | assumption | refine Below.next_ ?_ ?_ (by assumption) | refine Below.drew ?_ | refine below_drewN ?_ _ | refine Below.alloc ?_ ?_ _ | refine Below.setCell ?_ ?_ _ | omega | (dsimp only; omega) | (simp <;> omega) | (simp at * <;> omega))
  clear hb1 hb2 hb3 ho ho2 ho3 hm3
  have hzA := hbA.size
  go_wp2_with fail
  go_loopw [5] (fun i wr => ∃ k : Nat, i = .int .i64 ((k : Int) + 1) ∧ (k = 0 ∨ k < m3) ∧ Below w3.heap.size w3 wr) (fun i _ => m3 - (intOf i).toNat)
  case atStart => exact ⟨0, rfl, .inl rfl, Below.refl _ _⟩
  case round =>
    obtain ⟨k, rfl, hk, hb⟩ := hrel
    have hzr := hb.size
    have hk0 : (0 : Int) ≤ (k : Int) := by omega
    have hk1 : (0 : Int) ≤ (k : Int) + 1 := by omega
    by_cases hlt : k + 1 < m3
    · obtain ⟨ad, x, rfl, hx, hx0, hx1⟩ := Rd.sp (hra.below hb) (show k < m3 by omega)
      obtain ⟨ad', y, he, hy, hy0, hy1⟩ := Rd.sp (hra.below hb) hlt
      injection he with he
      subst he
      have hgap := joinF_next hx hy
      obtain ⟨o1, o2, o3⟩ := okSp_iff.1 (joinF_ok_ l x (List.mem_of_getElem? hx))
      have hoky : isSp y.f y.t = true := joinF_ok_ l y (List.mem_of_getElem? hy)
      have hkn : (k : Int) + 1 < (m3 : Int) := by omega
      have hkn' : (k : Int) < (m3 : Int) := by omega
      have hw : wrap64 (x.t + 1) = x.t + 1 := by simp only [wrap64]; omega
      have hw2 : wrap64 ((k : Int) + 1 - 1) = (k : Int) := by simp only [wrap64]; omega
      have hw3 : (k : Int) + 1 - 1 = (k : Int) := by omega
      have hdd : decide (y.f ≤ x.t + 1) = false := by simp; omega
      have ht1 : ((k : Int) + 1).toNat = k + 1 := by omega
      have HTI := hide (show ∀ V : World, Calls Try.prog 42 #[spV y.f y.t] V fun e w' => e = .returned (.bool true) ∧ Below V.heap.size V w' from fun V => by have h := implIsSpan_any y.f y.t V; rwa [hoky] at h)
      clear hx hy
      go_wp2_with fail
      have ha_0 := after_cell hx0
      have ha_1 := after_cell_f hx1
      have ha_2 := after_cell hy0
      have ha_3 := after_cell_f hy1
      refine wp_region_after (by kernel_rfl) (by kernel_rfl) ?_
      repeat (go_big_quiet_step ((first | (go_at_call 42; with_reducible refine Calls.after (HTI.out _)))))
      refine wpQuiet_nil ?_
      rintro _ ⟨⟨w5, hb_w5⟩, rfl⟩
      go_wp2_with fail
      go_roundw
      case rel => exact ⟨k + 1, by go_num, .inr hlt, by repeat (first | exact Below.refl _ _ | assumption | refine Below.next_ ?_ ?_ (by assumption) | refine Below.drew ?_ | refine below_drewN ?_ _ | refine Below.alloc ?_ ?_ _ | refine Below.setCell ?_ ?_ _ | omega | (dsimp only; omega) | (simp <;> omega) | (simp at * <;> omega))⟩
      case measure => simp [intOf]; omega
    · have hkn : ¬ (k : Int) + 1 < (m3 : Int) := by omega
      have hbB : Below w.heap.size w wr := by repeat (first | exact Below.refl _ _ | assumption | refine Below.next_ ?_ ?_ (by assumption) | refine Below.drew ?_ | refine below_drewN ?_ _ | refine Below.alloc ?_ ?_ _ | refine Below.setCell ?_ ?_ _ | omega | (dsimp only; omega) | (simp <;> omega) | (simp at * <;> omega))
      have hrl2 := hrl.below hb
      have hra2 := hra.below hb
      clear hb hrl hra hbA hlt
      go_wp2_with fail
      go_loopw [6] (fun i w6 => ∃ k : Nat, k ≤ m ∧ i = .int .i64 k ∧ Below wr.heap.size wr w6) (fun i _ => m - (intOf i).toNat)
      case atStart => exact ⟨0, Nat.zero_le _, rfl, Below.refl _ _⟩
      case round =>
        obtain ⟨w6, rfl⟩ : ∃ x, x = wr := ⟨wr, rfl⟩
        obtain ⟨k2, hk2, rfl, hb6⟩ := hrel
        have hz6 := hb6.size
        have hk20 : (0 : Int) ≤ (k2 : Int) := by omega
        by_cases hlt2 : k2 < m
        · obtain ⟨bd, s, rfl, hs, hs0, hs1⟩ := Rd.sp (hrl2.below hb6) hlt2
          have hkn2 : (k2 : Int) < (m : Int) := by omega
          clear hs
          cases hss : isSp s.f s.t with
          | true =>
            have TS : ∀ V : World, Calls Try.prog 43 #[spV s.f s.t] V fun e w' => e = .returned (.bool true) ∧ Below V.heap.size V w' := fun V => by have h := specIsSpan_any s.f s.t V; rwa [hss] at h
            go_wp2_with fail
            refine (TS _).mono ?_
            rintro e w7 ⟨rfl, hb7⟩
            have hz7 := hb7.size
            go_wp2_with fail
            go_roundw
            case rel => exact ⟨k2 + 1, by omega, by go_num, by repeat (first | exact Below.refl _ _ | assumption | refine Below.next_ ?_ ?_ (by assumption) | refine Below.drew ?_ | refine below_drewN ?_ _ | refine Below.alloc ?_ ?_ _ | refine Below.setCell ?_ ?_ _ | omega | (dsimp only; omega) | (simp <;> omega) | (simp at * <;> omega))⟩
            case measure => simp [intOf]; omega
          | false =>
            have TS : ∀ V : World, Calls Try.prog 43 #[spV s.f s.t] V fun e w' => e = .returned (.bool false) ∧ Below V.heap.size V w' := fun V => by have h := specIsSpan_any s.f s.t V; rwa [hss] at h
            go_wp2_with fail
            refine (TS _).mono ?_
            rintro e w7 ⟨rfl, hb7⟩
            have hz7 := hb7.size
            go_wp2_with fail
            go_ret
            exact ⟨rfl, by repeat (first | exact Below.refl _ _ | assumption | refine Below.next_ ?_ ?_ (by assumption) | refine Below.drew ?_ | refine below_drewN ?_ _ | refine Below.alloc ?_ ?_ _ | refine Below.setCell ?_ ?_ _ | omega | (dsimp only; omega) | (simp <;> omega) | (simp at * <;> omega))⟩
        · have hkn2 : ¬ (k2 : Int) < (m : Int) := by omega
          have hbC : Below w.heap.size w w6 := by repeat (first | exact Below.refl _ _ | assumption | refine Below.next_ ?_ ?_ (by assumption) | refine Below.drew ?_ | refine below_drewN ?_ _ | refine Below.alloc ?_ ?_ _ | refine Below.setCell ?_ ?_ _ | omega | (dsimp only; omega) | (simp <;> omega) | (simp at * <;> omega))
          have hrl3 := hrl2.below hb6
          have hra3 := hra2.below hb6
          have hzC := hbC.size
          clear hb6 hrl2 hra2 hbB
          go_wp2_with fail
          refine (DrawMeetAll_any (hr0.below hbC) hg0 hI0).mono ?_
          rintro e w8 ⟨Ba, ma, da, Bb, mb, db, rfl, hma, hmb, la, lb, hoa, hob, hAa, hAb, hb8⟩
          have hz8 := hb8.size
          go_wp2_with fail
          refine (implMeetAll_h (Rd.of_own hoa) (Rd.of_own hob) (by omega) (by omega)).mono ?_
          rintro e w9 ⟨Bm, mm, dm, rfl, hmm, hom, hb9⟩
          have hz9 := hb9.size
          have hmmb := hmm.out.2
          have qa := (Rd.of_own hoa).below hb9
          have qb := (Rd.of_own hob).below hb9
          have qm := Rd.of_own hom
          have ql := (hrl3.below hb8).below hb9
          have qj := (hra3.below hb8).below hb9
          have hbD : Below w.heap.size w w9 := by repeat (first | exact Below.refl _ _ | assumption | refine Below.next_ ?_ ?_ (by assumption) | refine Below.drew ?_ | refine below_drewN ?_ _ | refine Below.alloc ?_ ?_ _ | refine Below.setCell ?_ ?_ _ | omega | (dsimp only; omega) | (simp <;> omega) | (simp at * <;> omega))
          have hzD := hbD.size
          clear hoa hob hom hrl3 hra3 hb8 hb9 hbC
          go_wp2_with fail
          go_loopw [10] (fun i wx => ∃ k : Nat, k ≤ 51 ∧ i = .int .i64 k ∧ Below w9.heap.size w9 wx) (fun i _ => 51 - (intOf i).toNat)
          case atStart => exact ⟨0, by omega, rfl, Below.refl _ _⟩
          case round =>
            obtain ⟨wx, rfl⟩ : ∃ x, x = wr := ⟨wr, rfl⟩
            obtain ⟨t, ht, rfl, hbx⟩ := hrel
            have hzx := hbx.size
            have ht0 : (0 : Int) ≤ (t : Int) := by omega
            by_cases hlt3 : t ≤ 50
            · have hkn3 : (t : Int) ≤ 50 := by omega
              have hE1 := touch_join (l := l) ht0 (show (t : Int) ≤ 10000 by omega)
              have hE2 := touch_meet (a := la) (b := lb) ht0 (show (t : Int) ≤ 10000 by omega)
              have hE3 := cover_one (l := l) ht0 (show (t : Int) ≤ 10000 by omega)
              obtain ⟨W, hW⟩ : ∃ W, wx.alloc (.cells #[.int .i64 t, .int .i64 t] 65) = W := ⟨_, rfl⟩
              have hbW : Below wx.heap.size wx W := by rw [← hW]; exact (Below.refl wx.heap.size wx).alloc (Nat.le_refl _) _
              have s0 : W.cell? ⟨wx.heap.size, 0, none⟩ = some (.int .i64 t) := by rw [← hW]; simp
              have s1 : W.cell? ⟨wx.heap.size, 1, none⟩ = some (.int .i64 t) := by rw [← hW]; simp
              have HW := hide hW
              clear hW
              have hb9W : Below w9.heap.size w9 W := Below.next_ hbx hzx hbW
              cases hb1e : touchF l t t with
              | true =>
                rw [hb1e] at hE1 hE3
                cases hb2e : touchF la t t with
                | true =>
                  cases hb3e : touchF lb t t with
                  | true =>
                    have hE2' : touchF (meetAllF la lb) t t = true := by rw [hE2, hb2e, hb3e]; rfl
                    have HT1 := hide (show ∀ V : World, Below w9.heap.size w9 V → Calls Try.prog 46 #[.slice B2 m3 d2, spV t t] V fun e w' => e = .returned (.bool (true)) ∧ Below V.heap.size V w' from fun V h => by have c := implTouchesSpan_any (c := d2) (sf := t) (st := t) (qj.below h) (by omega); rwa [hE1] at c)
                    have HT2 := hide (show ∀ V : World, Below w9.heap.size w9 V → Calls Try.prog 46 #[.slice B m d, spV t t] V fun e w' => e = .returned (.bool (true)) ∧ Below V.heap.size V w' from fun V h => by have c := implTouchesSpan_any (c := d) (sf := t) (st := t) (ql.below h) (by omega); rwa [hb1e] at c)
                    have HT3 := hide (show ∀ V : World, Below w9.heap.size w9 V → Calls Try.prog 46 #[.slice Bm mm dm, spV t t] V fun e w' => e = .returned (.bool (true)) ∧ Below V.heap.size V w' from fun V h => by have c := implTouchesSpan_any (c := dm) (sf := t) (st := t) (qm.below h) (by omega); rwa [hE2'] at c)
                    have HT4 := hide (show ∀ V : World, Below w9.heap.size w9 V → Calls Try.prog 46 #[.slice Ba ma da, spV t t] V fun e w' => e = .returned (.bool (true)) ∧ Below V.heap.size V w' from fun V h => by have c := implTouchesSpan_any (c := da) (sf := t) (st := t) (qa.below h) (by omega); rwa [hb2e] at c)
                    have HT5 := hide (show ∀ V : World, Below w9.heap.size w9 V → Calls Try.prog 46 #[.slice Bb mb db, spV t t] V fun e w' => e = .returned (.bool (true)) ∧ Below V.heap.size V w' from fun V h => by have c := implTouchesSpan_any (c := db) (sf := t) (st := t) (qb.below h) (by omega); rwa [hb3e] at c)
                    have HT6 := hide (show ∀ V : World, Below w9.heap.size w9 V → Calls Try.prog 47 #[.slice B m d, spV t t] V fun e w' => e = .returned (.bool (true)) ∧ Below V.heap.size V w' from fun V h => by have c := implCoversSpan_any (c := d) (sf := t) (st := t) (ql.below h) (by omega); rwa [hE3] at c)
                    clear hE1 hE2 hE2' hE3 hb1e hb2e hb3e
                    go_wp2_with fail
                    rw [HW.out]
                    clear HW
                    have ha_0 := after_cell s0
                    have ha_1 := after_cell_f s1
                    refine wp_region_after (by kernel_rfl) (by kernel_rfl) ?_
                    repeat (go_big_quiet_step ((first | (go_at_call 46; with_reducible refine Calls.after (HT1.out _ (Below.next_ hb9W hb9W.size (After.below _)))) | (go_at_call 46; with_reducible refine Calls.after (HT2.out _ (Below.next_ hb9W hb9W.size (After.below _)))) | (go_at_call 46; with_reducible refine Calls.after (HT3.out _ (Below.next_ hb9W hb9W.size (After.below _)))) | (go_at_call 46; with_reducible refine Calls.after (HT4.out _ (Below.next_ hb9W hb9W.size (After.below _)))) | (go_at_call 46; with_reducible refine Calls.after (HT5.out _ (Below.next_ hb9W hb9W.size (After.below _)))) | (go_at_call 47; with_reducible refine Calls.after (HT6.out _ (Below.next_ hb9W hb9W.size (After.below _)))))))
                    refine wpQuiet_nil ?_
                    rintro _ ⟨⟨w15, hb_w15⟩, rfl⟩
                    have hbn := Below.next_ hb9W hb9W.size hb_w15
                    go_wp2_with fail
                    go_roundw
                    case rel => exact ⟨t + 1, by omega, by go_num, hbn⟩
                    case measure => simp [intOf]; omega
                  | false =>
                    have hE2' : touchF (meetAllF la lb) t t = false := by rw [hE2, hb2e, hb3e]; rfl
                    have HT1 := hide (show ∀ V : World, Below w9.heap.size w9 V → Calls Try.prog 46 #[.slice B2 m3 d2, spV t t] V fun e w' => e = .returned (.bool (true)) ∧ Below V.heap.size V w' from fun V h => by have c := implTouchesSpan_any (c := d2) (sf := t) (st := t) (qj.below h) (by omega); rwa [hE1] at c)
                    have HT2 := hide (show ∀ V : World, Below w9.heap.size w9 V → Calls Try.prog 46 #[.slice B m d, spV t t] V fun e w' => e = .returned (.bool (true)) ∧ Below V.heap.size V w' from fun V h => by have c := implTouchesSpan_any (c := d) (sf := t) (st := t) (ql.below h) (by omega); rwa [hb1e] at c)
                    have HT3 := hide (show ∀ V : World, Below w9.heap.size w9 V → Calls Try.prog 46 #[.slice Bm mm dm, spV t t] V fun e w' => e = .returned (.bool (false)) ∧ Below V.heap.size V w' from fun V h => by have c := implTouchesSpan_any (c := dm) (sf := t) (st := t) (qm.below h) (by omega); rwa [hE2'] at c)
                    have HT4 := hide (show ∀ V : World, Below w9.heap.size w9 V → Calls Try.prog 46 #[.slice Ba ma da, spV t t] V fun e w' => e = .returned (.bool (true)) ∧ Below V.heap.size V w' from fun V h => by have c := implTouchesSpan_any (c := da) (sf := t) (st := t) (qa.below h) (by omega); rwa [hb2e] at c)
                    have HT5 := hide (show ∀ V : World, Below w9.heap.size w9 V → Calls Try.prog 46 #[.slice Bb mb db, spV t t] V fun e w' => e = .returned (.bool (false)) ∧ Below V.heap.size V w' from fun V h => by have c := implTouchesSpan_any (c := db) (sf := t) (st := t) (qb.below h) (by omega); rwa [hb3e] at c)
                    have HT6 := hide (show ∀ V : World, Below w9.heap.size w9 V → Calls Try.prog 47 #[.slice B m d, spV t t] V fun e w' => e = .returned (.bool (true)) ∧ Below V.heap.size V w' from fun V h => by have c := implCoversSpan_any (c := d) (sf := t) (st := t) (ql.below h) (by omega); rwa [hE3] at c)
                    clear hE1 hE2 hE2' hE3 hb1e hb2e hb3e
                    go_wp2_with fail
                    rw [HW.out]
                    clear HW
                    have ha_0 := after_cell s0
                    have ha_1 := after_cell_f s1
                    refine wp_region_after (by kernel_rfl) (by kernel_rfl) ?_
                    repeat (go_big_quiet_step ((first | (go_at_call 46; with_reducible refine Calls.after (HT1.out _ (Below.next_ hb9W hb9W.size (After.below _)))) | (go_at_call 46; with_reducible refine Calls.after (HT2.out _ (Below.next_ hb9W hb9W.size (After.below _)))) | (go_at_call 46; with_reducible refine Calls.after (HT3.out _ (Below.next_ hb9W hb9W.size (After.below _)))) | (go_at_call 46; with_reducible refine Calls.after (HT4.out _ (Below.next_ hb9W hb9W.size (After.below _)))) | (go_at_call 46; with_reducible refine Calls.after (HT5.out _ (Below.next_ hb9W hb9W.size (After.below _)))) | (go_at_call 47; with_reducible refine Calls.after (HT6.out _ (Below.next_ hb9W hb9W.size (After.below _)))))))
                    refine wpQuiet_nil ?_
                    rintro _ ⟨⟨w15, hb_w15⟩, rfl⟩
                    have hbn := Below.next_ hb9W hb9W.size hb_w15
                    go_wp2_with fail
                    go_roundw
                    case rel => exact ⟨t + 1, by omega, by go_num, hbn⟩
                    case measure => simp [intOf]; omega
                | false =>
                  cases hb3e : touchF lb t t with
                  | true =>
                    have hE2' : touchF (meetAllF la lb) t t = false := by rw [hE2, hb2e, hb3e]; rfl
                    have HT1 := hide (show ∀ V : World, Below w9.heap.size w9 V → Calls Try.prog 46 #[.slice B2 m3 d2, spV t t] V fun e w' => e = .returned (.bool (true)) ∧ Below V.heap.size V w' from fun V h => by have c := implTouchesSpan_any (c := d2) (sf := t) (st := t) (qj.below h) (by omega); rwa [hE1] at c)
                    have HT2 := hide (show ∀ V : World, Below w9.heap.size w9 V → Calls Try.prog 46 #[.slice B m d, spV t t] V fun e w' => e = .returned (.bool (true)) ∧ Below V.heap.size V w' from fun V h => by have c := implTouchesSpan_any (c := d) (sf := t) (st := t) (ql.below h) (by omega); rwa [hb1e] at c)
                    have HT3 := hide (show ∀ V : World, Below w9.heap.size w9 V → Calls Try.prog 46 #[.slice Bm mm dm, spV t t] V fun e w' => e = .returned (.bool (false)) ∧ Below V.heap.size V w' from fun V h => by have c := implTouchesSpan_any (c := dm) (sf := t) (st := t) (qm.below h) (by omega); rwa [hE2'] at c)
                    have HT4 := hide (show ∀ V : World, Below w9.heap.size w9 V → Calls Try.prog 46 #[.slice Ba ma da, spV t t] V fun e w' => e = .returned (.bool (false)) ∧ Below V.heap.size V w' from fun V h => by have c := implTouchesSpan_any (c := da) (sf := t) (st := t) (qa.below h) (by omega); rwa [hb2e] at c)
                    have HT5 := hide (show ∀ V : World, Below w9.heap.size w9 V → Calls Try.prog 46 #[.slice Bb mb db, spV t t] V fun e w' => e = .returned (.bool (true)) ∧ Below V.heap.size V w' from fun V h => by have c := implTouchesSpan_any (c := db) (sf := t) (st := t) (qb.below h) (by omega); rwa [hb3e] at c)
                    have HT6 := hide (show ∀ V : World, Below w9.heap.size w9 V → Calls Try.prog 47 #[.slice B m d, spV t t] V fun e w' => e = .returned (.bool (true)) ∧ Below V.heap.size V w' from fun V h => by have c := implCoversSpan_any (c := d) (sf := t) (st := t) (ql.below h) (by omega); rwa [hE3] at c)
                    clear hE1 hE2 hE2' hE3 hb1e hb2e hb3e
                    go_wp2_with fail
                    rw [HW.out]
                    clear HW
                    have ha_0 := after_cell s0
                    have ha_1 := after_cell_f s1
                    refine wp_region_after (by kernel_rfl) (by kernel_rfl) ?_
                    repeat (go_big_quiet_step ((first | (go_at_call 46; with_reducible refine Calls.after (HT1.out _ (Below.next_ hb9W hb9W.size (After.below _)))) | (go_at_call 46; with_reducible refine Calls.after (HT2.out _ (Below.next_ hb9W hb9W.size (After.below _)))) | (go_at_call 46; with_reducible refine Calls.after (HT3.out _ (Below.next_ hb9W hb9W.size (After.below _)))) | (go_at_call 46; with_reducible refine Calls.after (HT4.out _ (Below.next_ hb9W hb9W.size (After.below _)))) | (go_at_call 46; with_reducible refine Calls.after (HT5.out _ (Below.next_ hb9W hb9W.size (After.below _)))) | (go_at_call 47; with_reducible refine Calls.after (HT6.out _ (Below.next_ hb9W hb9W.size (After.below _)))))))
                    refine wpQuiet_nil ?_
                    rintro _ ⟨⟨w15, hb_w15⟩, rfl⟩
                    have hbn := Below.next_ hb9W hb9W.size hb_w15
                    go_wp2_with fail
                    go_roundw
                    case rel => exact ⟨t + 1, by omega, by go_num, hbn⟩
                    case measure => simp [intOf]; omega
                  | false =>
                    have hE2' : touchF (meetAllF la lb) t t = false := by rw [hE2, hb2e, hb3e]; rfl
                    have HT1 := hide (show ∀ V : World, Below w9.heap.size w9 V → Calls Try.prog 46 #[.slice B2 m3 d2, spV t t] V fun e w' => e = .returned (.bool (true)) ∧ Below V.heap.size V w' from fun V h => by have c := implTouchesSpan_any (c := d2) (sf := t) (st := t) (qj.below h) (by omega); rwa [hE1] at c)
                    have HT2 := hide (show ∀ V : World, Below w9.heap.size w9 V → Calls Try.prog 46 #[.slice B m d, spV t t] V fun e w' => e = .returned (.bool (true)) ∧ Below V.heap.size V w' from fun V h => by have c := implTouchesSpan_any (c := d) (sf := t) (st := t) (ql.below h) (by omega); rwa [hb1e] at c)
                    have HT3 := hide (show ∀ V : World, Below w9.heap.size w9 V → Calls Try.prog 46 #[.slice Bm mm dm, spV t t] V fun e w' => e = .returned (.bool (false)) ∧ Below V.heap.size V w' from fun V h => by have c := implTouchesSpan_any (c := dm) (sf := t) (st := t) (qm.below h) (by omega); rwa [hE2'] at c)
                    have HT4 := hide (show ∀ V : World, Below w9.heap.size w9 V → Calls Try.prog 46 #[.slice Ba ma da, spV t t] V fun e w' => e = .returned (.bool (false)) ∧ Below V.heap.size V w' from fun V h => by have c := implTouchesSpan_any (c := da) (sf := t) (st := t) (qa.below h) (by omega); rwa [hb2e] at c)
                    have HT5 := hide (show ∀ V : World, Below w9.heap.size w9 V → Calls Try.prog 46 #[.slice Bb mb db, spV t t] V fun e w' => e = .returned (.bool (false)) ∧ Below V.heap.size V w' from fun V h => by have c := implTouchesSpan_any (c := db) (sf := t) (st := t) (qb.below h) (by omega); rwa [hb3e] at c)
                    have HT6 := hide (show ∀ V : World, Below w9.heap.size w9 V → Calls Try.prog 47 #[.slice B m d, spV t t] V fun e w' => e = .returned (.bool (true)) ∧ Below V.heap.size V w' from fun V h => by have c := implCoversSpan_any (c := d) (sf := t) (st := t) (ql.below h) (by omega); rwa [hE3] at c)
                    clear hE1 hE2 hE2' hE3 hb1e hb2e hb3e
                    go_wp2_with fail
                    rw [HW.out]
                    clear HW
                    have ha_0 := after_cell s0
                    have ha_1 := after_cell_f s1
                    refine wp_region_after (by kernel_rfl) (by kernel_rfl) ?_
                    repeat (go_big_quiet_step ((first | (go_at_call 46; with_reducible refine Calls.after (HT1.out _ (Below.next_ hb9W hb9W.size (After.below _)))) | (go_at_call 46; with_reducible refine Calls.after (HT2.out _ (Below.next_ hb9W hb9W.size (After.below _)))) | (go_at_call 46; with_reducible refine Calls.after (HT3.out _ (Below.next_ hb9W hb9W.size (After.below _)))) | (go_at_call 46; with_reducible refine Calls.after (HT4.out _ (Below.next_ hb9W hb9W.size (After.below _)))) | (go_at_call 46; with_reducible refine Calls.after (HT5.out _ (Below.next_ hb9W hb9W.size (After.below _)))) | (go_at_call 47; with_reducible refine Calls.after (HT6.out _ (Below.next_ hb9W hb9W.size (After.below _)))))))
                    refine wpQuiet_nil ?_
                    rintro _ ⟨⟨w15, hb_w15⟩, rfl⟩
                    have hbn := Below.next_ hb9W hb9W.size hb_w15
                    go_wp2_with fail
                    go_roundw
                    case rel => exact ⟨t + 1, by omega, by go_num, hbn⟩
                    case measure => simp [intOf]; omega
              | false =>
                rw [hb1e] at hE1 hE3
                cases hb2e : touchF la t t with
                | true =>
                  cases hb3e : touchF lb t t with
                  | true =>
                    have hE2' : touchF (meetAllF la lb) t t = true := by rw [hE2, hb2e, hb3e]; rfl
                    have HT1 := hide (show ∀ V : World, Below w9.heap.size w9 V → Calls Try.prog 46 #[.slice B2 m3 d2, spV t t] V fun e w' => e = .returned (.bool (false)) ∧ Below V.heap.size V w' from fun V h => by have c := implTouchesSpan_any (c := d2) (sf := t) (st := t) (qj.below h) (by omega); rwa [hE1] at c)
                    have HT2 := hide (show ∀ V : World, Below w9.heap.size w9 V → Calls Try.prog 46 #[.slice B m d, spV t t] V fun e w' => e = .returned (.bool (false)) ∧ Below V.heap.size V w' from fun V h => by have c := implTouchesSpan_any (c := d) (sf := t) (st := t) (ql.below h) (by omega); rwa [hb1e] at c)
                    have HT3 := hide (show ∀ V : World, Below w9.heap.size w9 V → Calls Try.prog 46 #[.slice Bm mm dm, spV t t] V fun e w' => e = .returned (.bool (true)) ∧ Below V.heap.size V w' from fun V h => by have c := implTouchesSpan_any (c := dm) (sf := t) (st := t) (qm.below h) (by omega); rwa [hE2'] at c)
                    have HT4 := hide (show ∀ V : World, Below w9.heap.size w9 V → Calls Try.prog 46 #[.slice Ba ma da, spV t t] V fun e w' => e = .returned (.bool (true)) ∧ Below V.heap.size V w' from fun V h => by have c := implTouchesSpan_any (c := da) (sf := t) (st := t) (qa.below h) (by omega); rwa [hb2e] at c)
                    have HT5 := hide (show ∀ V : World, Below w9.heap.size w9 V → Calls Try.prog 46 #[.slice Bb mb db, spV t t] V fun e w' => e = .returned (.bool (true)) ∧ Below V.heap.size V w' from fun V h => by have c := implTouchesSpan_any (c := db) (sf := t) (st := t) (qb.below h) (by omega); rwa [hb3e] at c)
                    have HT6 := hide (show ∀ V : World, Below w9.heap.size w9 V → Calls Try.prog 47 #[.slice B m d, spV t t] V fun e w' => e = .returned (.bool (false)) ∧ Below V.heap.size V w' from fun V h => by have c := implCoversSpan_any (c := d) (sf := t) (st := t) (ql.below h) (by omega); rwa [hE3] at c)
                    clear hE1 hE2 hE2' hE3 hb1e hb2e hb3e
                    go_wp2_with fail
                    rw [HW.out]
                    clear HW
                    have ha_0 := after_cell s0
                    have ha_1 := after_cell_f s1
                    refine wp_region_after (by kernel_rfl) (by kernel_rfl) ?_
                    repeat (go_big_quiet_step ((first | (go_at_call 46; with_reducible refine Calls.after (HT1.out _ (Below.next_ hb9W hb9W.size (After.below _)))) | (go_at_call 46; with_reducible refine Calls.after (HT2.out _ (Below.next_ hb9W hb9W.size (After.below _)))) | (go_at_call 46; with_reducible refine Calls.after (HT3.out _ (Below.next_ hb9W hb9W.size (After.below _)))) | (go_at_call 46; with_reducible refine Calls.after (HT4.out _ (Below.next_ hb9W hb9W.size (After.below _)))) | (go_at_call 46; with_reducible refine Calls.after (HT5.out _ (Below.next_ hb9W hb9W.size (After.below _)))) | (go_at_call 47; with_reducible refine Calls.after (HT6.out _ (Below.next_ hb9W hb9W.size (After.below _)))))))
                    refine wpQuiet_nil ?_
                    rintro _ ⟨⟨w15, hb_w15⟩, rfl⟩
                    have hbn := Below.next_ hb9W hb9W.size hb_w15
                    go_wp2_with fail
                    go_roundw
                    case rel => exact ⟨t + 1, by omega, by go_num, hbn⟩
                    case measure => simp [intOf]; omega
                  | false =>
                    have hE2' : touchF (meetAllF la lb) t t = false := by rw [hE2, hb2e, hb3e]; rfl
                    have HT1 := hide (show ∀ V : World, Below w9.heap.size w9 V → Calls Try.prog 46 #[.slice B2 m3 d2, spV t t] V fun e w' => e = .returned (.bool (false)) ∧ Below V.heap.size V w' from fun V h => by have c := implTouchesSpan_any (c := d2) (sf := t) (st := t) (qj.below h) (by omega); rwa [hE1] at c)
                    have HT2 := hide (show ∀ V : World, Below w9.heap.size w9 V → Calls Try.prog 46 #[.slice B m d, spV t t] V fun e w' => e = .returned (.bool (false)) ∧ Below V.heap.size V w' from fun V h => by have c := implTouchesSpan_any (c := d) (sf := t) (st := t) (ql.below h) (by omega); rwa [hb1e] at c)
                    have HT3 := hide (show ∀ V : World, Below w9.heap.size w9 V → Calls Try.prog 46 #[.slice Bm mm dm, spV t t] V fun e w' => e = .returned (.bool (false)) ∧ Below V.heap.size V w' from fun V h => by have c := implTouchesSpan_any (c := dm) (sf := t) (st := t) (qm.below h) (by omega); rwa [hE2'] at c)
                    have HT4 := hide (show ∀ V : World, Below w9.heap.size w9 V → Calls Try.prog 46 #[.slice Ba ma da, spV t t] V fun e w' => e = .returned (.bool (true)) ∧ Below V.heap.size V w' from fun V h => by have c := implTouchesSpan_any (c := da) (sf := t) (st := t) (qa.below h) (by omega); rwa [hb2e] at c)
                    have HT5 := hide (show ∀ V : World, Below w9.heap.size w9 V → Calls Try.prog 46 #[.slice Bb mb db, spV t t] V fun e w' => e = .returned (.bool (false)) ∧ Below V.heap.size V w' from fun V h => by have c := implTouchesSpan_any (c := db) (sf := t) (st := t) (qb.below h) (by omega); rwa [hb3e] at c)
                    have HT6 := hide (show ∀ V : World, Below w9.heap.size w9 V → Calls Try.prog 47 #[.slice B m d, spV t t] V fun e w' => e = .returned (.bool (false)) ∧ Below V.heap.size V w' from fun V h => by have c := implCoversSpan_any (c := d) (sf := t) (st := t) (ql.below h) (by omega); rwa [hE3] at c)
                    clear hE1 hE2 hE2' hE3 hb1e hb2e hb3e
                    go_wp2_with fail
                    rw [HW.out]
                    clear HW
                    have ha_0 := after_cell s0
                    have ha_1 := after_cell_f s1
                    refine wp_region_after (by kernel_rfl) (by kernel_rfl) ?_
                    repeat (go_big_quiet_step ((first | (go_at_call 46; with_reducible refine Calls.after (HT1.out _ (Below.next_ hb9W hb9W.size (After.below _)))) | (go_at_call 46; with_reducible refine Calls.after (HT2.out _ (Below.next_ hb9W hb9W.size (After.below _)))) | (go_at_call 46; with_reducible refine Calls.after (HT3.out _ (Below.next_ hb9W hb9W.size (After.below _)))) | (go_at_call 46; with_reducible refine Calls.after (HT4.out _ (Below.next_ hb9W hb9W.size (After.below _)))) | (go_at_call 46; with_reducible refine Calls.after (HT5.out _ (Below.next_ hb9W hb9W.size (After.below _)))) | (go_at_call 47; with_reducible refine Calls.after (HT6.out _ (Below.next_ hb9W hb9W.size (After.below _)))))))
                    refine wpQuiet_nil ?_
                    rintro _ ⟨⟨w15, hb_w15⟩, rfl⟩
                    have hbn := Below.next_ hb9W hb9W.size hb_w15
                    go_wp2_with fail
                    go_roundw
                    case rel => exact ⟨t + 1, by omega, by go_num, hbn⟩
                    case measure => simp [intOf]; omega
                | false =>
                  cases hb3e : touchF lb t t with
                  | true =>
                    have hE2' : touchF (meetAllF la lb) t t = false := by rw [hE2, hb2e, hb3e]; rfl
                    have HT1 := hide (show ∀ V : World, Below w9.heap.size w9 V → Calls Try.prog 46 #[.slice B2 m3 d2, spV t t] V fun e w' => e = .returned (.bool (false)) ∧ Below V.heap.size V w' from fun V h => by have c := implTouchesSpan_any (c := d2) (sf := t) (st := t) (qj.below h) (by omega); rwa [hE1] at c)
                    have HT2 := hide (show ∀ V : World, Below w9.heap.size w9 V → Calls Try.prog 46 #[.slice B m d, spV t t] V fun e w' => e = .returned (.bool (false)) ∧ Below V.heap.size V w' from fun V h => by have c := implTouchesSpan_any (c := d) (sf := t) (st := t) (ql.below h) (by omega); rwa [hb1e] at c)
                    have HT3 := hide (show ∀ V : World, Below w9.heap.size w9 V → Calls Try.prog 46 #[.slice Bm mm dm, spV t t] V fun e w' => e = .returned (.bool (false)) ∧ Below V.heap.size V w' from fun V h => by have c := implTouchesSpan_any (c := dm) (sf := t) (st := t) (qm.below h) (by omega); rwa [hE2'] at c)
                    have HT4 := hide (show ∀ V : World, Below w9.heap.size w9 V → Calls Try.prog 46 #[.slice Ba ma da, spV t t] V fun e w' => e = .returned (.bool (false)) ∧ Below V.heap.size V w' from fun V h => by have c := implTouchesSpan_any (c := da) (sf := t) (st := t) (qa.below h) (by omega); rwa [hb2e] at c)
                    have HT5 := hide (show ∀ V : World, Below w9.heap.size w9 V → Calls Try.prog 46 #[.slice Bb mb db, spV t t] V fun e w' => e = .returned (.bool (true)) ∧ Below V.heap.size V w' from fun V h => by have c := implTouchesSpan_any (c := db) (sf := t) (st := t) (qb.below h) (by omega); rwa [hb3e] at c)
                    have HT6 := hide (show ∀ V : World, Below w9.heap.size w9 V → Calls Try.prog 47 #[.slice B m d, spV t t] V fun e w' => e = .returned (.bool (false)) ∧ Below V.heap.size V w' from fun V h => by have c := implCoversSpan_any (c := d) (sf := t) (st := t) (ql.below h) (by omega); rwa [hE3] at c)
                    clear hE1 hE2 hE2' hE3 hb1e hb2e hb3e
                    go_wp2_with fail
                    rw [HW.out]
                    clear HW
                    have ha_0 := after_cell s0
                    have ha_1 := after_cell_f s1
                    refine wp_region_after (by kernel_rfl) (by kernel_rfl) ?_
                    repeat (go_big_quiet_step ((first | (go_at_call 46; with_reducible refine Calls.after (HT1.out _ (Below.next_ hb9W hb9W.size (After.below _)))) | (go_at_call 46; with_reducible refine Calls.after (HT2.out _ (Below.next_ hb9W hb9W.size (After.below _)))) | (go_at_call 46; with_reducible refine Calls.after (HT3.out _ (Below.next_ hb9W hb9W.size (After.below _)))) | (go_at_call 46; with_reducible refine Calls.after (HT4.out _ (Below.next_ hb9W hb9W.size (After.below _)))) | (go_at_call 46; with_reducible refine Calls.after (HT5.out _ (Below.next_ hb9W hb9W.size (After.below _)))) | (go_at_call 47; with_reducible refine Calls.after (HT6.out _ (Below.next_ hb9W hb9W.size (After.below _)))))))
                    refine wpQuiet_nil ?_
                    rintro _ ⟨⟨w15, hb_w15⟩, rfl⟩
                    have hbn := Below.next_ hb9W hb9W.size hb_w15
                    go_wp2_with fail
                    go_roundw
                    case rel => exact ⟨t + 1, by omega, by go_num, hbn⟩
                    case measure => simp [intOf]; omega
                  | false =>
                    have hE2' : touchF (meetAllF la lb) t t = false := by rw [hE2, hb2e, hb3e]; rfl
                    have HT1 := hide (show ∀ V : World, Below w9.heap.size w9 V → Calls Try.prog 46 #[.slice B2 m3 d2, spV t t] V fun e w' => e = .returned (.bool (false)) ∧ Below V.heap.size V w' from fun V h => by have c := implTouchesSpan_any (c := d2) (sf := t) (st := t) (qj.below h) (by omega); rwa [hE1] at c)
                    have HT2 := hide (show ∀ V : World, Below w9.heap.size w9 V → Calls Try.prog 46 #[.slice B m d, spV t t] V fun e w' => e = .returned (.bool (false)) ∧ Below V.heap.size V w' from fun V h => by have c := implTouchesSpan_any (c := d) (sf := t) (st := t) (ql.below h) (by omega); rwa [hb1e] at c)
                    have HT3 := hide (show ∀ V : World, Below w9.heap.size w9 V → Calls Try.prog 46 #[.slice Bm mm dm, spV t t] V fun e w' => e = .returned (.bool (false)) ∧ Below V.heap.size V w' from fun V h => by have c := implTouchesSpan_any (c := dm) (sf := t) (st := t) (qm.below h) (by omega); rwa [hE2'] at c)
                    have HT4 := hide (show ∀ V : World, Below w9.heap.size w9 V → Calls Try.prog 46 #[.slice Ba ma da, spV t t] V fun e w' => e = .returned (.bool (false)) ∧ Below V.heap.size V w' from fun V h => by have c := implTouchesSpan_any (c := da) (sf := t) (st := t) (qa.below h) (by omega); rwa [hb2e] at c)
                    have HT5 := hide (show ∀ V : World, Below w9.heap.size w9 V → Calls Try.prog 46 #[.slice Bb mb db, spV t t] V fun e w' => e = .returned (.bool (false)) ∧ Below V.heap.size V w' from fun V h => by have c := implTouchesSpan_any (c := db) (sf := t) (st := t) (qb.below h) (by omega); rwa [hb3e] at c)
                    have HT6 := hide (show ∀ V : World, Below w9.heap.size w9 V → Calls Try.prog 47 #[.slice B m d, spV t t] V fun e w' => e = .returned (.bool (false)) ∧ Below V.heap.size V w' from fun V h => by have c := implCoversSpan_any (c := d) (sf := t) (st := t) (ql.below h) (by omega); rwa [hE3] at c)
                    clear hE1 hE2 hE2' hE3 hb1e hb2e hb3e
                    go_wp2_with fail
                    rw [HW.out]
                    clear HW
                    have ha_0 := after_cell s0
                    have ha_1 := after_cell_f s1
                    refine wp_region_after (by kernel_rfl) (by kernel_rfl) ?_
                    repeat (go_big_quiet_step ((first | (go_at_call 46; with_reducible refine Calls.after (HT1.out _ (Below.next_ hb9W hb9W.size (After.below _)))) | (go_at_call 46; with_reducible refine Calls.after (HT2.out _ (Below.next_ hb9W hb9W.size (After.below _)))) | (go_at_call 46; with_reducible refine Calls.after (HT3.out _ (Below.next_ hb9W hb9W.size (After.below _)))) | (go_at_call 46; with_reducible refine Calls.after (HT4.out _ (Below.next_ hb9W hb9W.size (After.below _)))) | (go_at_call 46; with_reducible refine Calls.after (HT5.out _ (Below.next_ hb9W hb9W.size (After.below _)))) | (go_at_call 47; with_reducible refine Calls.after (HT6.out _ (Below.next_ hb9W hb9W.size (After.below _)))))))
                    refine wpQuiet_nil ?_
                    rintro _ ⟨⟨w15, hb_w15⟩, rfl⟩
                    have hbn := Below.next_ hb9W hb9W.size hb_w15
                    go_wp2_with fail
                    go_roundw
                    case rel => exact ⟨t + 1, by omega, by go_num, hbn⟩
                    case measure => simp [intOf]; omega
            · have hkn3 : ¬ (t : Int) ≤ 50 := by omega
              have hbE : Below w.heap.size w wx := by repeat (first | exact Below.refl _ _ | assumption | refine Below.next_ ?_ ?_ (by assumption) | refine Below.drew ?_ | refine below_drewN ?_ _ | refine Below.alloc ?_ ?_ _ | refine Below.setCell ?_ ?_ _ | omega | (dsimp only; omega) | (simp <;> omega) | (simp at * <;> omega))
              have hzE := hbE.size
              clear hbx qa qb qm ql qj hbD
              go_wp2_with fail
              refine (DrawMeetSpans_any (hr0.below hbE) hg0 hI0).mono ?_
              rintro e w20 ⟨f, u, f2, u2_, rfl, hf, hu, hf2, hu2, hb20⟩
              have hz20 := hb20.size
              have hbF : Below w.heap.size w w20 := Below.next_ hbE hzE hb20
              clear hb20
              obtain ⟨X1, hX1⟩ : ∃ X, (w20.alloc (.cells #[.int .i64 f, .int .i64 u] 65)).alloc (.cells #[.int .i64 f2, .int .i64 u2_] 65) = X := ⟨_, rfl⟩
              have bx : Blk X1 w20.heap.size [.int .i64 f, .int .i64 u] := by rw [← hX1]; exact (Blk.new _ _ _).alloc _
              have by_ : Blk X1 (w20.heap.size + 1) [.int .i64 f2, .int .i64 u2_] := by rw [← hX1]; exact Blk.new_ _ _ _ (by simp)
              have hbX : Below w.heap.size w X1 := by rw [← hX1]; repeat (first | exact Below.refl _ _ | assumption | refine Below.next_ ?_ ?_ (by assumption) | refine Below.drew ?_ | refine below_drewN ?_ _ | refine Below.alloc ?_ ?_ _ | refine Below.setCell ?_ ?_ _ | omega | (dsimp only; omega) | (simp <;> omega) | (simp at * <;> omega))
              have HX1 := hide hX1
              clear hX1
              obtain ⟨x0, x1⟩ := blk_two bx
              obtain ⟨y0, y1⟩ := blk_two by_
              obtain ⟨zf, hzf⟩ : ∃ z, mtF f u f2 u2_ = z := ⟨_, rfl⟩
              obtain ⟨zt, hzt⟩ : ∃ z, mtT f u f2 u2_ = z := ⟨_, rfl⟩
              obtain ⟨ok, hok⟩ : ∃ z, mtOk f u f2 u2_ = z := ⟨_, rfl⟩
              have T := implMeetSpans_any f u f2 u2_ X1
              have HIN := hide (show ok = true → insd zf zt f u = true ∧ insd zf zt f2 u2_ = true from fun h => by rw [← hzf, ← hzt]; exact mt_in (hok.trans h))
              rw [hzf, hzt, hok] at T
              have HT := hide T
              clear T hzf hzt hok
              go_wp2_with fail
              rw [HX1.out]
              clear HX1
              refine HT.out.mono ?_
              rintro e w21 ⟨rfl, hb21⟩
              clear HT
              clear x0 x1 y0 y1
              replace bx := bx.below hb21
              replace by_ := by_.below hb21
              have hb2 : Below w.heap.size w w21 := Below.next_ hbX hbX.size hb21
              clear hbX hb21
              obtain ⟨Z1, hZ1⟩ : ∃ X, w21.alloc (.cells #[.int .i64 zf, .int .i64 zt] 65) = X := ⟨_, rfl⟩
              have bz : Blk Z1 w21.heap.size [.int .i64 zf, .int .i64 zt] := by rw [← hZ1]; exact Blk.new _ _ _
              replace bx : Blk Z1 w20.heap.size [.int .i64 f, .int .i64 u] := by rw [← hZ1]; exact bx.alloc _
              replace by_ : Blk Z1 (w20.heap.size + 1) [.int .i64 f2, .int .i64 u2_] := by rw [← hZ1]; exact by_.alloc _
              have hbZ : Below w.heap.size w Z1 := by rw [← hZ1]; exact hb2.alloc hb2.size _
              have HZ1 := hide hZ1
              clear hZ1 hb2
              go_wp2_with fail
              rw [HZ1.out]
              clear HZ1
              refine (DrawMakeSpan_any (hr0.below hbZ) hg0 hI0).mono ?_
              rintro e w22 ⟨x, y, rfl, hx, hy, hb22⟩
              replace bx := bx.below hb22
              replace by_ := by_.below hb22
              replace bz := bz.below hb22
              have hb3 : Below w.heap.size w w22 := Below.next_ hbZ hbZ.size hb22
              clear hbZ hb22
              obtain ⟨kf, hkf⟩ : ∃ z, mkF x y = z := ⟨_, rfl⟩
              obtain ⟨kt, hkt⟩ : ∃ z, mkT x y = z := ⟨_, rfl⟩
              obtain ⟨mo, hmo⟩ : ∃ z, mkOk x y = z := ⟨_, rfl⟩
              have T := implMakeSpan_any x y w22
              have HMK := hide (show mo = true → isSp kf kt = true ∧ x ≤ kf ∧ kt ≤ y from fun h => by rw [← hkf, ← hkt]; exact mk_in (hmo.trans h))
              rw [hkf, hkt, hmo] at T
              have HT := hide T
              clear T hkf hkt hmo
              go_wp2_with fail
              refine HT.out.mono ?_
              rintro e w23 ⟨rfl, hb23⟩
              clear HT
              replace bx := bx.below hb23
              replace by_ := by_.below hb23
              replace bz := bz.below hb23
              have hb4 : Below w.heap.size w w23 := Below.next_ hb3 hb3.size hb23
              clear hb3 hb23
              obtain ⟨V1, hV1⟩ : ∃ X, w23.alloc (.cells #[.int .i64 kf, .int .i64 kt] 65) = X := ⟨_, rfl⟩
              have bv : Blk V1 w23.heap.size [.int .i64 kf, .int .i64 kt] := by rw [← hV1]; exact Blk.new _ _ _
              replace bx : Blk V1 w20.heap.size [.int .i64 f, .int .i64 u] := by rw [← hV1]; exact bx.alloc _
              replace by_ : Blk V1 (w20.heap.size + 1) [.int .i64 f2, .int .i64 u2_] := by rw [← hV1]; exact by_.alloc _
              replace bz : Blk V1 w21.heap.size [.int .i64 zf, .int .i64 zt] := by rw [← hV1]; exact bz.alloc _
              have hbV : Below w.heap.size w V1 := by rw [← hV1]; exact hb4.alloc hb4.size _
              have HV1 := hide hV1
              clear hV1 hb4
              go_upto_region 29 with fail
              rw [HV1.out]
              clear HV1
              cases ok with
              | true =>
                cases mo with
                | true =>
                  obtain ⟨x0, x1⟩ := blk_two bx
                  obtain ⟨y0, y1⟩ := blk_two by_
                  obtain ⟨z0, z1⟩ := blk_two bz
                  obtain ⟨v0, v1⟩ := blk_two bv
                  have hvx : x ≤ kf ∧ kt ≤ y := (HMK.out (by simp)).2
                  obtain ⟨hvx, hvy⟩ := hvx
                  have T := implIsInside_any zf zt f u V1
                  rw [(HIN.out (by simp)).1] at T
                  have HT := hide T
                  clear T
                  go_wp2_with fail
                  refine HT.out.mono ?_
                  rintro e w30 ⟨rfl, hb30⟩
                  clear HT x0 x1 y0 y1 z0 z1 v0 v1
                  replace bx := bx.below hb30
                  replace by_ := by_.below hb30
                  replace bz := bz.below hb30
                  replace bv := bv.below hb30
                  replace hbV : Below w.heap.size w w30 := Below.next_ hbV hbV.size hb30
                  clear hb30
                  obtain ⟨x0, x1⟩ := blk_two bx
                  obtain ⟨y0, y1⟩ := blk_two by_
                  obtain ⟨z0, z1⟩ := blk_two bz
                  obtain ⟨v0, v1⟩ := blk_two bv
                  have T := implIsInside_any zf zt f2 u2_ w30
                  rw [(HIN.out (by simp)).2] at T
                  have HT := hide T
                  clear T
                  go_wp2_with fail
                  refine HT.out.mono ?_
                  rintro e w31 ⟨rfl, hb31⟩
                  clear HT x0 x1 y0 y1 z0 z1 v0 v1
                  replace bx := bx.below hb31
                  replace by_ := by_.below hb31
                  replace bz := bz.below hb31
                  replace bv := bv.below hb31
                  replace hbV : Below w.heap.size w w31 := Below.next_ hbV hbV.size hb31
                  clear hb31
                  obtain ⟨x0, x1⟩ := blk_two bx
                  obtain ⟨y0, y1⟩ := blk_two by_
                  obtain ⟨z0, z1⟩ := blk_two bz
                  obtain ⟨v0, v1⟩ := blk_two bv
                  have T := implIsSpan_any kf kt w31
                  rw [(HMK.out (by simp)).1] at T
                  have HT := hide T
                  clear T
                  go_wp2_with fail
                  refine HT.out.mono ?_
                  rintro e w32 ⟨rfl, hb32⟩
                  clear HT x0 x1 y0 y1 z0 z1 v0 v1
                  replace bx := bx.below hb32
                  replace by_ := by_.below hb32
                  replace bz := bz.below hb32
                  replace bv := bv.below hb32
                  replace hbV : Below w.heap.size w w32 := Below.next_ hbV hbV.size hb32
                  clear hb32
                  obtain ⟨x0, x1⟩ := blk_two bx
                  obtain ⟨y0, y1⟩ := blk_two by_
                  obtain ⟨z0, z1⟩ := blk_two bz
                  obtain ⟨v0, v1⟩ := blk_two bv
                  go_wp2_with fail
                  go_ret
                  exact ⟨rfl, hbV⟩
                | false =>
                  obtain ⟨x0, x1⟩ := blk_two bx
                  obtain ⟨y0, y1⟩ := blk_two by_
                  obtain ⟨z0, z1⟩ := blk_two bz
                  obtain ⟨v0, v1⟩ := blk_two bv
                  have T := implIsInside_any zf zt f u V1
                  rw [(HIN.out (by simp)).1] at T
                  have HT := hide T
                  clear T
                  go_wp2_with fail
                  refine HT.out.mono ?_
                  rintro e w30 ⟨rfl, hb30⟩
                  clear HT x0 x1 y0 y1 z0 z1 v0 v1
                  replace bx := bx.below hb30
                  replace by_ := by_.below hb30
                  replace bz := bz.below hb30
                  replace bv := bv.below hb30
                  replace hbV : Below w.heap.size w w30 := Below.next_ hbV hbV.size hb30
                  clear hb30
                  obtain ⟨x0, x1⟩ := blk_two bx
                  obtain ⟨y0, y1⟩ := blk_two by_
                  obtain ⟨z0, z1⟩ := blk_two bz
                  obtain ⟨v0, v1⟩ := blk_two bv
                  have T := implIsInside_any zf zt f2 u2_ w30
                  rw [(HIN.out (by simp)).2] at T
                  have HT := hide T
                  clear T
                  go_wp2_with fail
                  refine HT.out.mono ?_
                  rintro e w31 ⟨rfl, hb31⟩
                  clear HT x0 x1 y0 y1 z0 z1 v0 v1
                  replace bx := bx.below hb31
                  replace by_ := by_.below hb31
                  replace bz := bz.below hb31
                  replace bv := bv.below hb31
                  replace hbV : Below w.heap.size w w31 := Below.next_ hbV hbV.size hb31
                  clear hb31
                  obtain ⟨x0, x1⟩ := blk_two bx
                  obtain ⟨y0, y1⟩ := blk_two by_
                  obtain ⟨z0, z1⟩ := blk_two bz
                  obtain ⟨v0, v1⟩ := blk_two bv
                  go_wp2_with fail
                  go_ret
                  exact ⟨rfl, hbV⟩
              | false =>
                cases mo with
                | true =>
                  obtain ⟨x0, x1⟩ := blk_two bx
                  obtain ⟨y0, y1⟩ := blk_two by_
                  obtain ⟨z0, z1⟩ := blk_two bz
                  obtain ⟨v0, v1⟩ := blk_two bv
                  have hvx : x ≤ kf ∧ kt ≤ y := (HMK.out (by simp)).2
                  obtain ⟨hvx, hvy⟩ := hvx
                  have T := implIsSpan_any kf kt V1
                  rw [(HMK.out (by simp)).1] at T
                  have HT := hide T
                  clear T
                  go_wp2_with fail
                  refine HT.out.mono ?_
                  rintro e w30 ⟨rfl, hb30⟩
                  clear HT x0 x1 y0 y1 z0 z1 v0 v1
                  replace bx := bx.below hb30
                  replace by_ := by_.below hb30
                  replace bz := bz.below hb30
                  replace bv := bv.below hb30
                  replace hbV : Below w.heap.size w w30 := Below.next_ hbV hbV.size hb30
                  clear hb30
                  obtain ⟨x0, x1⟩ := blk_two bx
                  obtain ⟨y0, y1⟩ := blk_two by_
                  obtain ⟨z0, z1⟩ := blk_two bz
                  obtain ⟨v0, v1⟩ := blk_two bv
                  go_wp2_with fail
                  go_ret
                  exact ⟨rfl, hbV⟩
                | false =>
                  obtain ⟨x0, x1⟩ := blk_two bx
                  obtain ⟨y0, y1⟩ := blk_two by_
                  obtain ⟨z0, z1⟩ := blk_two bz
                  obtain ⟨v0, v1⟩ := blk_two bv
                  go_wp2_with fail
                  go_ret
                  exact ⟨rfl, hbV⟩
theorem lifted (os : Os) (started : os.Started) (H : Type) (enc : TypeId × Value → H) :
    ReturnsInHanded {} Try.checked os 7 .any (Rows.fnSpansSpec.pre6 enc Try.prog Try.f7 Rows.fnSpansRow.domain false) (Rows.fnSpansSpec.post enc Try.prog Try.f7 false true false false) := by
  refine returnsInHanded_of_change (C := Try.checked) own started (by kernel_rfl) Try.func7
    (ChangeSpec.witness6 (enc := enc) (C := Try.checked) false ⟨#[], #[.slice none 0 0], []⟩ 8 (by kernel_rfl) (by kernel_rfl) (by kernel_rfl) (by kernel_rfl)) ?_
  intro W base args ds gs before hval0 hW _ _
  have hval : ∀ (j : Nat) t v, Try.f7.params[j]? = some t → args[j]? = some v → Value.okWide Try.prog W .any base t v := hval0
  have hW' := hW
  obtain ⟨p, q, hA0, hV, rfl, _, _⟩ := hW
  have hA : DataW.TrodAll enc Try.prog W 0 (fun _ => true) true Try.f7.params.toList args.toList ds p := hA0
  have hlt : ∀ x ∈ p, x.block < W.heap.size := fun x hx => hW'.lt x (by simp [hx])
  have hkeep : ∀ W' : World, Below W.heap.size W W' → ∀ sp : Nat → Bool, (∀ x ∈ p ++ q, sp x.block = true) → DataW.TrodAll enc Try.prog W' 0 sp true Try.f7.params.toList args.toList ds p :=
    fun W' hb sp hsp => trodAll_stays laid hb _ _ _ _ (by kernel_rfl) hlt (fun x hx => hsp x (by simp [hx])) hA
  rw [Try.params7] at hA hval
  obtain ⟨v0, vs0, d0, ds0, p0, q0, hargs, rfl, rfl, h0, r0⟩ := trodAll_cons hA
  obtain ⟨rfl, rfl, rfl⟩ := trodAll_nil r0
  obtain rfl : args = #[v0] := by cases args; simp_all
  obtain ⟨rfl, rfl⟩ := trodVars_none hV
  have i0 : InBytes W v0 := InBytes.of (hval 0 22 v0 rfl rfl) h0
  refine (law_any i0 W rfl).mono fun e W' ⟨he, hb⟩ => ?_
  subst he
  exact ⟨_, rfl, post_of_below (pv := []) hW' (fun _ _ _ => (trodAll_cons_mk (shut_bool Try.underlying4 _) trodAll_mk0)) (hkeep W' hb) (fun _ _ => rfl) rfl
    hb (ok_one (by kernel_rfl) rfl (okWide_bool_mk Try.underlying4 _))⟩

theorem over : Rows.fnSpansRow.holds Try.pinned (OpenSpec.ofChange Rows.fnSpansSpec) :=
  OpenClaim.holds_of_wide 7 Try.f7 rfl rfl rfl rfl rfl rfl rfl ⟨rfl, rfl, rfl, rfl, rfl⟩ rfl rfl rfl rfl rfl (by kernel_rfl) Try.func7 (by kernel_rfl)
    (of_decide_eq_true (by kernel_rfl)) (by unfold Func.isWrapper; first | (rw [if_pos (by decide +kernel)]; kernel_rfl) | (rw [if_neg (by decide +kernel)]; exact ⟨rfl, rfl⟩))
    (fun os started H enc _ => lifted os started H enc)

theorem proved : Rows.FnSpansSaid :=
  over
#print axioms proved
end Go.Proofs.Ytgeffaohdoeclaa.lawFnSpans
