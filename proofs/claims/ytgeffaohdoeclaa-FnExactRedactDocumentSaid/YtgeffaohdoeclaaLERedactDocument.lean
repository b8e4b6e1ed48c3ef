/- The program's RedactDocument returns what the reference's returns, changes no argument, and shares no memory. For every input. -/
import Derived.Test.YtgeffaohdoeclaaArgs
import Derived.Test.YtgeffaohdoeclaaArgD
import Derived.Test.YtgeffaohdoeclaaDocS
import Derived.Test.YtgeffaohdoeclaaRdl
import Derived.Test.YtgeffaohdoeclaaRdti
import Derived.Test.YtgeffaohdoeclaaRdts
import Derived.Test.YtgeffaohdoeclaaTail
import Derived.Deep.Cut
import Derived.Deep.CutRange
namespace Go.Proofs.Ytgeffaohdoeclaa.lawFnExactRedactDocument
open Go.ChangeShapes Go.WideShapes Go.ChangeAt Go.RowKit
set_option maxRecDepth 1000000
set_option linter.unusedSimpArgs false
set_option linter.unusedVariables false
theorem own : ownKnob Try.prog.godebug = none := by kernel_rfl
set_option maxHeartbeats 16000000 in
theorem law_any {v0 v1 v2 : Value} {W : World} (i0 : InInts W v0) (i1 : InDoc W v1) (i2 : InInts W v2) (w : World) (hWw : w = W) :
    Calls Try.prog 4 #[v0, v1, v2] w fun e w' => e = .returned (.bool true) ∧ Below w.heap.size w w' := by
  subst hWw
  obtain ⟨A0, n0, c0, l0, rfl, hn0, hr0, hI0⟩ := i0
  obtain ⟨t1, P1, n1, c1, ps1, S1, m1, d1, ss1, rfl, ht1, hn1, hm1, hP1, hS1, hsz1, hI1⟩ := i1
  obtain ⟨A2, n2, c2, l2, rfl, hn2, hr2, hI2⟩ := i2
  obtain ⟨W1, hW_W1⟩ : ∃ W1, w.alloc (.cells #[.int .i64 t1, .slice P1 n1 c1, .slice S1 m1 d1] 45) = W1 := ⟨_, rfl⟩
  have hc_W10 : W1.cell? ⟨w.heap.size, 0, none⟩ = some (.int .i64 t1) := by rw [← hW_W1]; simp
  have hc_W11 : W1.cell? ⟨w.heap.size, 1, none⟩ = some (.slice P1 n1 c1) := by rw [← hW_W1]; simp
  have hc_W12 : W1.cell? ⟨w.heap.size, 2, none⟩ = some (.slice S1 m1 d1) := by rw [← hW_W1]; simp
  have hs_W1 : w.heap.size < W1.heap.size := by rw [← hW_W1]; simp
  have hb_W1 : Below w.heap.size w W1 := by rw [← hW_W1]; repeat (first | exact Below.refl _ _ | assumption | refine Below.next_ ?_ ?_ (by assumption) | refine Below.drew ?_ | refine below_drewN ?_ _ | refine Below.alloc ?_ ?_ _ | refine Below.setCell ?_ ?_ _ | omega | (simp <;> omega) | (simp at * <;> omega))
  have HW_W1 := hide hW_W1
  clear hW_W1
  have bkA : Blk W1 w.heap.size [.int .i64 t1, .slice P1 n1 c1, .slice S1 m1 d1] := by rw [← HW_W1.out]; exact Blk.new _ _ _
  by_cases hgs0 : n0 ≤ 1048576
  rotate_left
  · have hgs' : (1048576 : Int) < (n0 : Int) := by omega
    go_enter Try.func4, Try.ntmps4
    go_wp2_with fail
    rw [HW_W1.out]
    go_ret
    exact ⟨rfl, by repeat (first | exact Below.refl _ _ | assumption | refine Below.next_ ?_ ?_ (by assumption) | refine Below.drew ?_ | refine below_drewN ?_ _ | refine Below.alloc ?_ ?_ _ | refine Below.setCell ?_ ?_ _ | omega | (dsimp only; omega) | (simp <;> omega) | (simp at * <;> omega))⟩
  have hgs0' : ¬ (1048576 : Int) < (n0 : Int) := by omega
  by_cases hgs2 : n2 ≤ 1048576
  rotate_left
  · have hgs' : (1048576 : Int) < (n2 : Int) := by omega
    go_enter Try.func4, Try.ntmps4
    go_wp2_with fail
    rw [HW_W1.out]
    go_ret
    exact ⟨rfl, by repeat (first | exact Below.refl _ _ | assumption | refine Below.next_ ?_ ?_ (by assumption) | refine Below.drew ?_ | refine below_drewN ?_ _ | refine Below.alloc ?_ ?_ _ | refine Below.setCell ?_ ?_ _ | omega | (dsimp only; omega) | (simp <;> omega) | (simp at * <;> omega))⟩
  have hgs2' : ¬ (1048576 : Int) < (n2 : Int) := by omega
  by_cases hgd : 0 ≤ szD ps1 m1 1048576
  rotate_left
  · have hgn := hide (szD_neg (by omega) hgd)
    go_enter Try.func4, Try.ntmps4
    go_wp2_with fail
    rw [HW_W1.out]
    clear HW_W1
    refine (szDocument_any (hP1.below hb_W1) (by omega) (by omega) hn1 hm1 hsz1).mono ?_
    rintro e w2 ⟨rfl, hb2⟩
    rw [hgn.out]
    go_wp2_with fail
    go_ret
    exact ⟨rfl, by repeat (first | exact Below.refl _ _ | assumption | refine Below.next_ ?_ ?_ (by assumption) | refine Below.drew ?_ | refine below_drewN ?_ _ | refine Below.alloc ?_ ?_ _ | refine Below.setCell ?_ ?_ _ | omega | (dsimp only; omega) | (simp <;> omega) | (simp at * <;> omega))⟩
  obtain ⟨hlp, hlm, hlz⟩ := szD_ok (by omega) hgd
  have hln := hP1.maplen
  have hn1s : n1 ≤ 1048576 := by omega
  have hm1s : m1 ≤ 1048576 := by omega
  have hgd' : ¬ szD ps1 m1 1048576 < 0 := by omega
  have hml0 := hr0.len
  obtain ⟨X, hX⟩ : ∃ X, redX l0 t1 ps1 ss1 l2 = X := ⟨_, rfl⟩
  obtain ⟨ok, hok_⟩ : ∃ b, isDoc t1 ps1 ss1 = b := ⟨_, rfl⟩
  have hsm : SmallR X 1048576 := by
    have h := redX_small l0 t1 ps1 ss1 l2
    rw [hX] at h
    exact ⟨by have := h.m; omega, h.b, h.p, h.s, h.d, fun x hx => by have := h.l x hx; omega⟩
  have hXe := hide hX
  have hok := hide hok_
  clear hln hlp hlm hX hok_ hml0
  go_enter Try.func4, Try.ntmps4
  go_wp2_with fail
  rw [HW_W1.out]
  clear HW_W1 hc_W10 hc_W11 hc_W12
  obtain ⟨⟨a0, a1, a2⟩, a3, a4, a5⟩ := bkA.three
  refine (szDocument_any (hP1.below hb_W1) (by omega) (by omega) hn1 hm1 hsz1).mono ?_
  rintro e w1 ⟨rfl, hb_1⟩
  have hz_1 := hb_1.size
  have hbw_1 : Below w.heap.size w w1 := by repeat (first | exact Below.refl _ _ | assumption | refine Below.next_ ?_ ?_ (by assumption) | refine Below.drew ?_ | refine below_drewN ?_ _ | refine Below.alloc ?_ ?_ _ | refine Below.setCell ?_ ?_ _ | omega | (dsimp only; omega) | (simp <;> omega) | (simp at * <;> omega))
  clear a0 a1 a2 a3 a4 a5
  replace bkA := Blk.below bkA hb_1
  obtain ⟨⟨a0, a1, a2⟩, a3, a4, a5⟩ := bkA.three
  go_upto_region 9 with fail
  go_cut [8, 9] from 31 to 40 (fun pv bv wx => ∃ (bx : Nat) (M3 B3 P3 S3 D3 : Option Addr) (nm3 nb3 np3 ns3 nd3 cm3 cb3 cp3 cs3 cd3 : Nat) (rs3 : List Sr), pv = .pointer (some ⟨bx, 0, none⟩) ∧ bv = .bool ok ∧ rs3.length = X.ds.length ∧ Rows_ wx w1.heap.size bx ([⟨3, M3, nm3, cm3, ints X.ms⟩, ⟨4, B3, nb3, cb3, bls X.bs⟩, ⟨9, P3, np3, cp3, sts X.ps⟩, ⟨3, S3, ns3, cs3, ints X.ss⟩, ⟨24, D3, nd3, cd3, srs rs3⟩] ++ inn rs3 X.ds) ∧ Blk wx bx [.int .i64 X.t, .slice M3 nm3 cm3, .slice B3 nb3 cb3, .slice P3 np3 cp3, .slice S3 ns3 cs3, .slice D3 nd3 cd3] ∧ w1.heap.size ≤ bx ∧ Below w1.heap.size w1 wx)
  case first =>
    refine wp_region_upto (S := (fun w' => w'.cell? ⟨w.heap.size, 0, none⟩ = some (.int .i64 t1) ∧ w'.cell? ⟨w.heap.size, 1, none⟩ = some (.slice P1 n1 c1) ∧ w'.cell? ⟨w.heap.size, 2, none⟩ = some (.slice S1 m1 d1))) 12 (by kernel_rfl) ?_ ?_
    · exact keep3 (W := w1) ((Below.refl _ _).drew) a0 a1 a2
    obtain ⟨w9_1, hw_⟩ : ∃ x, w1.drew = x := ⟨_, rfl⟩
    have BB9_1 : Below w1.heap.size w1 w9_1 := by rw [← hw_]; exact (Below.refl _ _).drew
    rw [hw_]
    intro hHeld
    clear hw_
    refine upto_take (i := 0) (v := ?v1) rfl (by kernel_rfl) (by kernel_rfl) (by kernel_rfl) (by kernel_rfl) (fun _ _ _ h => h) hHeld ?hy1 (by rfl) ?rest1
    case hy1 => (intro w' hSw; (try dsimp only at hSw); go_simp; (try with_reducible rfl))
    (try simp only [Act.put, List.setIfInBounds_toArray, List.set_cons_zero, List.set_cons_succ])
    refine upto_take (i := 2) (v := ?v2) rfl (by kernel_rfl) (by kernel_rfl) (by kernel_rfl) (by kernel_rfl) (fun _ _ _ h => h) hHeld ?hy2 (by rfl) ?rest2
    case hy2 => (intro w' hSw; (try dsimp only at hSw); go_simp; (try with_reducible rfl))
    (try simp only [Act.put, List.setIfInBounds_toArray, List.set_cons_zero, List.set_cons_succ])
    refine upto_take (i := 4) (v := ?v3) rfl (by kernel_rfl) (by kernel_rfl) (by kernel_rfl) (by kernel_rfl) (fun _ _ _ h => h) hHeld ?hy3 (by rfl) ?rest3
    case hy3 => (intro w' hSw; (try dsimp only at hSw); go_simp; (try with_reducible rfl))
    (try simp only [Act.put, List.setIfInBounds_toArray, List.set_cons_zero, List.set_cons_succ])
    clear hHeld
    refine upto_step2 (k1 := 1) (k2 := 10) (by kernel_rfl) rfl rfl (fun K hK => ?_) (fun K hK => ?_)
    · go_simp
      (go_at_call 26; refine (toIntS_any (hr0.below (by repeat (first | exact Below.refl _ _ | assumption | refine Below.next_ ?_ ?_ (by assumption) | refine Below.drew ?_ | refine below_drewN ?_ _ | refine Below.alloc ?_ ?_ _ | refine Below.setCell ?_ ?_ _ | omega | (dsimp only; omega) | (simp <;> omega) | (simp at * <;> omega)))) (by omega)).mono ?_; rintro e w9_2 ⟨QA2, qA2, rfl, ho2, hbb2⟩)
      go_wp2_with fail
      have hrA2 := Rd.of_own ho2
      have BB9_2 := Below.next_ BB9_1 BB9_1.size hbb2
      refine hK.out _ _ ?_ ?_
      · (intro _; exact keep3 (W := w1) (BB9_2) a0 a1 a2)
      clear hK K
      (try simp only [Act.put, List.setIfInBounds_toArray, List.set_cons_zero, List.set_cons_succ])
      refine upto_step2 (k1 := 3) (k2 := 10) (by kernel_rfl) rfl rfl (fun K hK => ?_) (fun K hK => ?_)
      · go_simp
        (go_at_call 27; refine (toDocument_any (hP1.below (by repeat (first | exact Below.refl _ _ | assumption | refine Below.next_ ?_ ?_ (by assumption) | refine Below.drew ?_ | refine below_drewN ?_ _ | refine Below.alloc ?_ ?_ _ | refine Below.setCell ?_ ?_ _ | omega | (dsimp only; omega) | (simp <;> omega) | (simp at * <;> omega)))) (hS1.below (by repeat (first | exact Below.refl _ _ | assumption | refine Below.next_ ?_ ?_ (by assumption) | refine Below.drew ?_ | refine below_drewN ?_ _ | refine Below.alloc ?_ ?_ _ | refine Below.setCell ?_ ?_ _ | omega | (dsimp only; omega) | (simp <;> omega) | (simp at * <;> omega)))) (by omega) (by omega)).mono ?_; rintro e w9_3 ⟨QP3, QS3, qP3, qS3, rfl, hp3, hs3, hx3, hbb3⟩)
        go_wp2_with fail
        have hrP3 := Rd.of_own hp3
        have hrS3 := Rd.of_own hs3
        have BB9_3 := Below.next_ BB9_2 BB9_2.size hbb3
        refine hK.out _ _ ?_ ?_
        · (intro _; exact keep3 (W := w1) (BB9_3) a0 a1 a2)
        clear hK K
        (try simp only [Act.put, List.setIfInBounds_toArray, List.set_cons_zero, List.set_cons_succ])
        refine upto_step2 (k1 := 5) (k2 := 10) (by kernel_rfl) rfl rfl (fun K hK => ?_) (fun K hK => ?_)
        · go_simp
          (go_at_call 26; refine (toIntS_any (hr2.below (by repeat (first | exact Below.refl _ _ | assumption | refine Below.next_ ?_ ?_ (by assumption) | refine Below.drew ?_ | refine below_drewN ?_ _ | refine Below.alloc ?_ ?_ _ | refine Below.setCell ?_ ?_ _ | omega | (dsimp only; omega) | (simp <;> omega) | (simp at * <;> omega)))) (by omega)).mono ?_; rintro e w9_4 ⟨QC4, qC4, rfl, ho4, hbb4⟩)
          go_wp2_with fail
          have hrC4 := Rd.of_own ho4
          have BB9_4 := Below.next_ BB9_3 BB9_3.size hbb4
          refine hK.out _ _ ?_ ?_
          · (intro _; exact keep3 (W := w1) (BB9_4) a0 a1 a2)
          clear hK K
          (try simp only [Act.put, List.setIfInBounds_toArray, List.set_cons_zero, List.set_cons_succ])
          refine upto_step2 (k1 := 6) (k2 := 10) (by kernel_rfl) rfl rfl (fun K hK => ?_) (fun K hK => ?_)
          · go_simp
            (go_at_call 16; refine (specRedactDocument_any ((hrA2.below hbb3).below hbb4) (hrP3.below hbb4) (hrS3.below hbb4) hrC4 (by omega) (by omega) (by omega) (by omega) hI0).mono ?_; intro e w9_5 hout; rw [hXe.out, hok.out] at hout; obtain ⟨M5, B5, P5, S5, D5, nm5, nb5, np5, ns5, nd5, cm5, cb5, cp5, cs5, cd5, rs5, kx5, rfl, hrl5, hR5, hbb5⟩ := hout)
            go_wp2_with fail
            have BB9_5 := Below.next_ BB9_4 BB9_4.size hbb5
            refine hK.out _ _ ?_ ?_
            · (intro _; exact keep3 (W := w1) (BB9_5) a0 a1 a2)
            clear hK K
            (try simp only [Act.put, List.setIfInBounds_toArray, List.set_cons_zero, List.set_cons_succ])
            have hHeld : ((fun w' => w'.cell? ⟨w.heap.size, 0, none⟩ = some (.int .i64 t1) ∧ w'.cell? ⟨w.heap.size, 1, none⟩ = some (.slice P1 n1 c1) ∧ w'.cell? ⟨w.heap.size, 2, none⟩ = some (.slice S1 m1 d1))) w9_5 := by exact keep3 (W := w1) (BB9_5) a0 a1 a2
            refine upto_take (i := 7) (v := ?v4) rfl (by kernel_rfl) (by kernel_rfl) (by kernel_rfl) (by kernel_rfl) (fun _ _ _ h => h) hHeld ?hy4 (by rfl) ?rest4
            case hy4 => (intro w' hSw; (try dsimp only at hSw); go_simp; (try with_reducible rfl))
            (try simp only [Act.put, List.setIfInBounds_toArray, List.set_cons_zero, List.set_cons_succ])
            refine upto_take (i := 8) (v := ?v5) rfl (by kernel_rfl) (by kernel_rfl) (by kernel_rfl) (by kernel_rfl) (fun _ _ _ h => h) hHeld ?hy5 (by rfl) ?rest5
            case hy5 => (intro w' hSw; (try dsimp only at hSw); go_simp; (try with_reducible rfl))
            (try simp only [Act.put, List.setIfInBounds_toArray, List.set_cons_zero, List.set_cons_succ])
            refine upto_take (i := 9) (v := ?v6) rfl (by kernel_rfl) (by kernel_rfl) (by kernel_rfl) (by kernel_rfl) (fun _ _ _ h => h) hHeld ?hy6 (by rfl) ?rest6
            case hy6 => (intro w' hSw; (try dsimp only at hSw); go_simp; (try with_reducible rfl))
            (try simp only [Act.put, List.setIfInBounds_toArray, List.set_cons_zero, List.set_cons_succ])
            clear hHeld
            refine upto_step (k := 10) (by kernel_rfl) rfl (fun K hK => ?_)
            go_simp
            obtain ⟨w9_6, hw_⟩ : ∃ x, w9_5.alloc (.cells #[.int .i64 0, .slice none 0 0, .slice none 0 0, .slice none 0 0, .slice none 0 0, .slice none 0 0] 33) = x := ⟨_, rfl⟩
            have hbb6 : Below w9_5.heap.size w9_5 w9_6 := by rw [← hw_]; exact (Below.refl _ _).alloc (Nat.le_refl _) _
            have BX6 : Blk w9_6 w9_5.heap.size [.int .i64 0, .slice none 0 0, .slice none 0 0, .slice none 0 0, .slice none 0 0, .slice none 0 0] := by rw [← hw_]; exact Blk.new _ _ _
            rw [hw_]
            clear hw_
            have hlo6 : w1.heap.size ≤ w9_5.heap.size := BB9_5.size
            have BB9_6 := Below.next_ BB9_5 BB9_5.size hbb6
            have hRn6 := (hR5.rek (Nat.le_refl _)).below hbb6
            refine hK.out _ _ ?_ ?_
            · (intro _; exact keep3 (W := w1) (BB9_6) a0 a1 a2)
            clear hK K
            (try simp only [Act.put, List.setIfInBounds_toArray, List.set_cons_zero, List.set_cons_succ])
            obtain ⟨⟨y0, y1, y2, y3, y4, y5⟩, g0, g1, g2, g3, g4, g5⟩ := BX6.six
            refine upto_step (k := 11) (by kernel_rfl) rfl (fun K hK => ?_)
            go_simp
            have RS := ((((((hRn6).set (j := 0) (.int .i64 X.t)).set (j := 1) (.slice M5 nm5 cm5)).set (j := 2) (.slice B5 nb5 cb5)).set (j := 3) (.slice P5 np5 cp5)).set (j := 4) (.slice S5 ns5 cs5)).set (j := 5) (.slice D5 nd5 cd5)
            have BS : Blk _ w9_5.heap.size [.int .i64 X.t, .slice M5 nm5 cm5, .slice B5 nb5 cb5, .slice P5 np5 cp5, .slice S5 ns5 cs5, .slice D5 nd5 cd5] := ((((((BX6).set 0 (.int .i64 X.t)).set 1 (.slice M5 nm5 cm5)).set 2 (.slice B5 nb5 cb5)).set 3 (.slice P5 np5 cp5)).set 4 (.slice S5 ns5 cs5)).set 5 (.slice D5 nd5 cd5)
            have LS := ((((((BB9_6).setCell (p := ⟨w9_5.heap.size, 0, none⟩) hlo6 (.int .i64 X.t)).setCell (p := ⟨w9_5.heap.size, 1, none⟩) hlo6 (.slice M5 nm5 cm5)).setCell (p := ⟨w9_5.heap.size, 2, none⟩) hlo6 (.slice B5 nb5 cb5)).setCell (p := ⟨w9_5.heap.size, 3, none⟩) hlo6 (.slice P5 np5 cp5)).setCell (p := ⟨w9_5.heap.size, 4, none⟩) hlo6 (.slice S5 ns5 cs5)).setCell (p := ⟨w9_5.heap.size, 5, none⟩) hlo6 (.slice D5 nd5 cd5)
            obtain ⟨w9_7, hw_⟩ : ∃ x, ((((((w9_6).setCell ⟨w9_5.heap.size, 0, none⟩ (.int .i64 X.t)).setCell ⟨w9_5.heap.size, 1, none⟩ (.slice M5 nm5 cm5)).setCell ⟨w9_5.heap.size, 2, none⟩ (.slice B5 nb5 cb5)).setCell ⟨w9_5.heap.size, 3, none⟩ (.slice P5 np5 cp5)).setCell ⟨w9_5.heap.size, 4, none⟩ (.slice S5 ns5 cs5)).setCell ⟨w9_5.heap.size, 5, none⟩ (.slice D5 nd5 cd5) = x := ⟨_, rfl⟩
            rw [hw_] at RS BS LS ⊢
            have BB9_7 := LS
            clear hw_ y0 y1 y2 y3 y4 y5 g0 g1 g2 g3 g4 g5
            refine hK.out _ _ ?_ ?_
            · (intro _; exact keep3 (W := w1) (BB9_7) a0 a1 a2)
            clear hK K
            (try simp only [Act.put, List.setIfInBounds_toArray, List.set_cons_zero, List.set_cons_succ])
            refine upto_step (k := 12) (by kernel_rfl) rfl (fun K hK => ?_)
            go_simp
            refine hK.out _ _ ?_ ?_
            · (intro h; exact absurd rfl h)
            clear hK K
            (try simp only [Act.put, List.setIfInBounds_toArray, List.set_cons_zero, List.set_cons_succ])
            refine upto_done (by kernel_rfl) ?_ _
            go_wp2_with fail
            go_meet
            exact ⟨w9_5.heap.size, M5, B5, P5, S5, D5, nm5, nb5, np5, ns5, nd5, cm5, cb5, cp5, cs5, cd5, rs5, rfl, rfl, hrl5, RS.base BB9_4.size, BS, hlo6, LS⟩
          · go_simp
            obtain ⟨w9_8, hw_⟩ : ∃ x, w9_4.alloc (.cells #[.int .i64 0, .slice none 0 0, .slice none 0 0, .slice none 0 0, .slice none 0 0, .slice none 0 0] 33) = x := ⟨_, rfl⟩
            have hbb8 : Below w9_4.heap.size w9_4 w9_8 := by rw [← hw_]; exact (Below.refl _ _).alloc (Nat.le_refl _) _
            have BX8 : Blk w9_8 w9_4.heap.size [.int .i64 0, .slice none 0 0, .slice none 0 0, .slice none 0 0, .slice none 0 0, .slice none 0 0] := by rw [← hw_]; exact Blk.new _ _ _
            rw [hw_]
            clear hw_
            have hlo8 : w1.heap.size ≤ w9_4.heap.size := BB9_4.size
            have BB9_8 := Below.next_ BB9_4 BB9_4.size hbb8
            refine hK.out _ _ ?_ ?_
            · (intro _; exact keep3 (W := w1) (BB9_8) a0 a1 a2)
            clear hK K
            (try simp only [Act.put, List.setIfInBounds_toArray, List.set_cons_zero, List.set_cons_succ])
            refine upto_step (k := 6) (by kernel_rfl) rfl (fun K hK => ?_)
            go_simp
            (go_at_call 16; refine (specRedactDocument_any (((hrA2.below hbb3).below hbb4).below hbb8) ((hrP3.below hbb4).below hbb8) ((hrS3.below hbb4).below hbb8) (hrC4.below hbb8) (by omega) (by omega) (by omega) (by omega) hI0).mono ?_; intro e w9_9 hout; rw [hXe.out, hok.out] at hout; obtain ⟨M9, B9, P9, S9, D9, nm9, nb9, np9, ns9, nd9, cm9, cb9, cp9, cs9, cd9, rs9, kx9, rfl, hrl9, hR9, hbb9⟩ := hout)
            go_wp2_with fail
            have BB9_9 := Below.next_ BB9_8 BB9_8.size hbb9
            have BX9 := BX8.below hbb9
            have hRn9 := hR9.low (k2 := w9_4.heap.size) BX8.lt
            refine hK.out _ _ ?_ ?_
            · (intro _; exact keep3 (W := w1) (BB9_9) a0 a1 a2)
            clear hK K
            (try simp only [Act.put, List.setIfInBounds_toArray, List.set_cons_zero, List.set_cons_succ])
            have hHeld : ((fun w' => w'.cell? ⟨w.heap.size, 0, none⟩ = some (.int .i64 t1) ∧ w'.cell? ⟨w.heap.size, 1, none⟩ = some (.slice P1 n1 c1) ∧ w'.cell? ⟨w.heap.size, 2, none⟩ = some (.slice S1 m1 d1))) w9_9 := by exact keep3 (W := w1) (BB9_9) a0 a1 a2
            refine upto_take (i := 7) (v := ?v7) rfl (by kernel_rfl) (by kernel_rfl) (by kernel_rfl) (by kernel_rfl) (fun _ _ _ h => h) hHeld ?hy7 (by rfl) ?rest7
            case hy7 => (intro w' hSw; (try dsimp only at hSw); go_simp; (try with_reducible rfl))
            (try simp only [Act.put, List.setIfInBounds_toArray, List.set_cons_zero, List.set_cons_succ])
            refine upto_take (i := 8) (v := ?v8) rfl (by kernel_rfl) (by kernel_rfl) (by kernel_rfl) (by kernel_rfl) (fun _ _ _ h => h) hHeld ?hy8 (by rfl) ?rest8
            case hy8 => (intro w' hSw; (try dsimp only at hSw); go_simp; (try with_reducible rfl))
            (try simp only [Act.put, List.setIfInBounds_toArray, List.set_cons_zero, List.set_cons_succ])
            refine upto_take (i := 9) (v := ?v9) rfl (by kernel_rfl) (by kernel_rfl) (by kernel_rfl) (by kernel_rfl) (fun _ _ _ h => h) hHeld ?hy9 (by rfl) ?rest9
            case hy9 => (intro w' hSw; (try dsimp only at hSw); go_simp; (try with_reducible rfl))
            (try simp only [Act.put, List.setIfInBounds_toArray, List.set_cons_zero, List.set_cons_succ])
            clear hHeld
            obtain ⟨⟨y0, y1, y2, y3, y4, y5⟩, g0, g1, g2, g3, g4, g5⟩ := BX9.six
            refine upto_step (k := 11) (by kernel_rfl) rfl (fun K hK => ?_)
            go_simp
            have RS := ((((((hRn9).set (j := 0) (.int .i64 X.t)).set (j := 1) (.slice M9 nm9 cm9)).set (j := 2) (.slice B9 nb9 cb9)).set (j := 3) (.slice P9 np9 cp9)).set (j := 4) (.slice S9 ns9 cs9)).set (j := 5) (.slice D9 nd9 cd9)
            have BS : Blk _ w9_4.heap.size [.int .i64 X.t, .slice M9 nm9 cm9, .slice B9 nb9 cb9, .slice P9 np9 cp9, .slice S9 ns9 cs9, .slice D9 nd9 cd9] := ((((((BX9).set 0 (.int .i64 X.t)).set 1 (.slice M9 nm9 cm9)).set 2 (.slice B9 nb9 cb9)).set 3 (.slice P9 np9 cp9)).set 4 (.slice S9 ns9 cs9)).set 5 (.slice D9 nd9 cd9)
            have LS := ((((((BB9_9).setCell (p := ⟨w9_4.heap.size, 0, none⟩) hlo8 (.int .i64 X.t)).setCell (p := ⟨w9_4.heap.size, 1, none⟩) hlo8 (.slice M9 nm9 cm9)).setCell (p := ⟨w9_4.heap.size, 2, none⟩) hlo8 (.slice B9 nb9 cb9)).setCell (p := ⟨w9_4.heap.size, 3, none⟩) hlo8 (.slice P9 np9 cp9)).setCell (p := ⟨w9_4.heap.size, 4, none⟩) hlo8 (.slice S9 ns9 cs9)).setCell (p := ⟨w9_4.heap.size, 5, none⟩) hlo8 (.slice D9 nd9 cd9)
            obtain ⟨w9_10, hw_⟩ : ∃ x, ((((((w9_9).setCell ⟨w9_4.heap.size, 0, none⟩ (.int .i64 X.t)).setCell ⟨w9_4.heap.size, 1, none⟩ (.slice M9 nm9 cm9)).setCell ⟨w9_4.heap.size, 2, none⟩ (.slice B9 nb9 cb9)).setCell ⟨w9_4.heap.size, 3, none⟩ (.slice P9 np9 cp9)).setCell ⟨w9_4.heap.size, 4, none⟩ (.slice S9 ns9 cs9)).setCell ⟨w9_4.heap.size, 5, none⟩ (.slice D9 nd9 cd9) = x := ⟨_, rfl⟩
            rw [hw_] at RS BS LS ⊢
            have BB9_10 := LS
            clear hw_ y0 y1 y2 y3 y4 y5 g0 g1 g2 g3 g4 g5
            refine hK.out _ _ ?_ ?_
            · (intro _; exact keep3 (W := w1) (BB9_10) a0 a1 a2)
            clear hK K
            (try simp only [Act.put, List.setIfInBounds_toArray, List.set_cons_zero, List.set_cons_succ])
            refine upto_step (k := 12) (by kernel_rfl) rfl (fun K hK => ?_)
            go_simp
            refine hK.out _ _ ?_ ?_
            · (intro h; exact absurd rfl h)
            clear hK K
            (try simp only [Act.put, List.setIfInBounds_toArray, List.set_cons_zero, List.set_cons_succ])
            refine upto_done (by kernel_rfl) ?_ _
            go_wp2_with fail
            go_meet
            exact ⟨w9_4.heap.size, M9, B9, P9, S9, D9, nm9, nb9, np9, ns9, nd9, cm9, cb9, cp9, cs9, cd9, rs9, rfl, rfl, hrl9, RS.base BB9_8.size, BS, hlo8, LS⟩
        · go_simp
          obtain ⟨w9_11, hw_⟩ : ∃ x, w9_3.alloc (.cells #[.int .i64 0, .slice none 0 0, .slice none 0 0, .slice none 0 0, .slice none 0 0, .slice none 0 0] 33) = x := ⟨_, rfl⟩
          have hbb11 : Below w9_3.heap.size w9_3 w9_11 := by rw [← hw_]; exact (Below.refl _ _).alloc (Nat.le_refl _) _
          have BX11 : Blk w9_11 w9_3.heap.size [.int .i64 0, .slice none 0 0, .slice none 0 0, .slice none 0 0, .slice none 0 0, .slice none 0 0] := by rw [← hw_]; exact Blk.new _ _ _
          rw [hw_]
          clear hw_
          have hlo11 : w1.heap.size ≤ w9_3.heap.size := BB9_3.size
          have BB9_11 := Below.next_ BB9_3 BB9_3.size hbb11
          refine hK.out _ _ ?_ ?_
          · (intro _; exact keep3 (W := w1) (BB9_11) a0 a1 a2)
          clear hK K
          (try simp only [Act.put, List.setIfInBounds_toArray, List.set_cons_zero, List.set_cons_succ])
          refine upto_step (k := 5) (by kernel_rfl) rfl (fun K hK => ?_)
          go_simp
          (go_at_call 26; refine (toIntS_any (hr2.below (by repeat (first | exact Below.refl _ _ | assumption | refine Below.next_ ?_ ?_ (by assumption) | refine Below.drew ?_ | refine below_drewN ?_ _ | refine Below.alloc ?_ ?_ _ | refine Below.setCell ?_ ?_ _ | omega | (dsimp only; omega) | (simp <;> omega) | (simp at * <;> omega)))) (by omega)).mono ?_; rintro e w9_12 ⟨QC12, qC12, rfl, ho12, hbb12⟩)
          go_wp2_with fail
          have hrC12 := Rd.of_own ho12
          have BB9_12 := Below.next_ BB9_11 BB9_11.size hbb12
          have BX12 := BX11.below hbb12
          refine hK.out _ _ ?_ ?_
          · (intro _; exact keep3 (W := w1) (BB9_12) a0 a1 a2)
          clear hK K
          (try simp only [Act.put, List.setIfInBounds_toArray, List.set_cons_zero, List.set_cons_succ])
          refine upto_step (k := 6) (by kernel_rfl) rfl (fun K hK => ?_)
          go_simp
          (go_at_call 16; refine (specRedactDocument_any (((hrA2.below hbb3).below hbb11).below hbb12) ((hrP3.below hbb11).below hbb12) ((hrS3.below hbb11).below hbb12) hrC12 (by omega) (by omega) (by omega) (by omega) hI0).mono ?_; intro e w9_13 hout; rw [hXe.out, hok.out] at hout; obtain ⟨M13, B13, P13, S13, D13, nm13, nb13, np13, ns13, nd13, cm13, cb13, cp13, cs13, cd13, rs13, kx13, rfl, hrl13, hR13, hbb13⟩ := hout)
          go_wp2_with fail
          have BB9_13 := Below.next_ BB9_12 BB9_12.size hbb13
          have BX13 := BX12.below hbb13
          have hRn13 := hR13.low (k2 := w9_3.heap.size) BX12.lt
          refine hK.out _ _ ?_ ?_
          · (intro _; exact keep3 (W := w1) (BB9_13) a0 a1 a2)
          clear hK K
          (try simp only [Act.put, List.setIfInBounds_toArray, List.set_cons_zero, List.set_cons_succ])
          have hHeld : ((fun w' => w'.cell? ⟨w.heap.size, 0, none⟩ = some (.int .i64 t1) ∧ w'.cell? ⟨w.heap.size, 1, none⟩ = some (.slice P1 n1 c1) ∧ w'.cell? ⟨w.heap.size, 2, none⟩ = some (.slice S1 m1 d1))) w9_13 := by exact keep3 (W := w1) (BB9_13) a0 a1 a2
          refine upto_take (i := 7) (v := ?v10) rfl (by kernel_rfl) (by kernel_rfl) (by kernel_rfl) (by kernel_rfl) (fun _ _ _ h => h) hHeld ?hy10 (by rfl) ?rest10
          case hy10 => (intro w' hSw; (try dsimp only at hSw); go_simp; (try with_reducible rfl))
          (try simp only [Act.put, List.setIfInBounds_toArray, List.set_cons_zero, List.set_cons_succ])
          refine upto_take (i := 8) (v := ?v11) rfl (by kernel_rfl) (by kernel_rfl) (by kernel_rfl) (by kernel_rfl) (fun _ _ _ h => h) hHeld ?hy11 (by rfl) ?rest11
          case hy11 => (intro w' hSw; (try dsimp only at hSw); go_simp; (try with_reducible rfl))
          (try simp only [Act.put, List.setIfInBounds_toArray, List.set_cons_zero, List.set_cons_succ])
          refine upto_take (i := 9) (v := ?v12) rfl (by kernel_rfl) (by kernel_rfl) (by kernel_rfl) (by kernel_rfl) (fun _ _ _ h => h) hHeld ?hy12 (by rfl) ?rest12
          case hy12 => (intro w' hSw; (try dsimp only at hSw); go_simp; (try with_reducible rfl))
          (try simp only [Act.put, List.setIfInBounds_toArray, List.set_cons_zero, List.set_cons_succ])
          clear hHeld
          obtain ⟨⟨y0, y1, y2, y3, y4, y5⟩, g0, g1, g2, g3, g4, g5⟩ := BX13.six
          refine upto_step (k := 11) (by kernel_rfl) rfl (fun K hK => ?_)
          go_simp
          have RS := ((((((hRn13).set (j := 0) (.int .i64 X.t)).set (j := 1) (.slice M13 nm13 cm13)).set (j := 2) (.slice B13 nb13 cb13)).set (j := 3) (.slice P13 np13 cp13)).set (j := 4) (.slice S13 ns13 cs13)).set (j := 5) (.slice D13 nd13 cd13)
          have BS : Blk _ w9_3.heap.size [.int .i64 X.t, .slice M13 nm13 cm13, .slice B13 nb13 cb13, .slice P13 np13 cp13, .slice S13 ns13 cs13, .slice D13 nd13 cd13] := ((((((BX13).set 0 (.int .i64 X.t)).set 1 (.slice M13 nm13 cm13)).set 2 (.slice B13 nb13 cb13)).set 3 (.slice P13 np13 cp13)).set 4 (.slice S13 ns13 cs13)).set 5 (.slice D13 nd13 cd13)
          have LS := ((((((BB9_13).setCell (p := ⟨w9_3.heap.size, 0, none⟩) hlo11 (.int .i64 X.t)).setCell (p := ⟨w9_3.heap.size, 1, none⟩) hlo11 (.slice M13 nm13 cm13)).setCell (p := ⟨w9_3.heap.size, 2, none⟩) hlo11 (.slice B13 nb13 cb13)).setCell (p := ⟨w9_3.heap.size, 3, none⟩) hlo11 (.slice P13 np13 cp13)).setCell (p := ⟨w9_3.heap.size, 4, none⟩) hlo11 (.slice S13 ns13 cs13)).setCell (p := ⟨w9_3.heap.size, 5, none⟩) hlo11 (.slice D13 nd13 cd13)
          obtain ⟨w9_14, hw_⟩ : ∃ x, ((((((w9_13).setCell ⟨w9_3.heap.size, 0, none⟩ (.int .i64 X.t)).setCell ⟨w9_3.heap.size, 1, none⟩ (.slice M13 nm13 cm13)).setCell ⟨w9_3.heap.size, 2, none⟩ (.slice B13 nb13 cb13)).setCell ⟨w9_3.heap.size, 3, none⟩ (.slice P13 np13 cp13)).setCell ⟨w9_3.heap.size, 4, none⟩ (.slice S13 ns13 cs13)).setCell ⟨w9_3.heap.size, 5, none⟩ (.slice D13 nd13 cd13) = x := ⟨_, rfl⟩
          rw [hw_] at RS BS LS ⊢
          have BB9_14 := LS
          clear hw_ y0 y1 y2 y3 y4 y5 g0 g1 g2 g3 g4 g5
          refine hK.out _ _ ?_ ?_
          · (intro _; exact keep3 (W := w1) (BB9_14) a0 a1 a2)
          clear hK K
          (try simp only [Act.put, List.setIfInBounds_toArray, List.set_cons_zero, List.set_cons_succ])
          refine upto_step (k := 12) (by kernel_rfl) rfl (fun K hK => ?_)
          go_simp
          refine hK.out _ _ ?_ ?_
          · (intro h; exact absurd rfl h)
          clear hK K
          (try simp only [Act.put, List.setIfInBounds_toArray, List.set_cons_zero, List.set_cons_succ])
          refine upto_done (by kernel_rfl) ?_ _
          go_wp2_with fail
          go_meet
          exact ⟨w9_3.heap.size, M13, B13, P13, S13, D13, nm13, nb13, np13, ns13, nd13, cm13, cb13, cp13, cs13, cd13, rs13, rfl, rfl, hrl13, RS.base BB9_12.size, BS, hlo11, LS⟩
      · go_simp
        obtain ⟨w9_15, hw_⟩ : ∃ x, w9_2.alloc (.cells #[.int .i64 0, .slice none 0 0, .slice none 0 0, .slice none 0 0, .slice none 0 0, .slice none 0 0] 33) = x := ⟨_, rfl⟩
        have hbb15 : Below w9_2.heap.size w9_2 w9_15 := by rw [← hw_]; exact (Below.refl _ _).alloc (Nat.le_refl _) _
        have BX15 : Blk w9_15 w9_2.heap.size [.int .i64 0, .slice none 0 0, .slice none 0 0, .slice none 0 0, .slice none 0 0, .slice none 0 0] := by rw [← hw_]; exact Blk.new _ _ _
        rw [hw_]
        clear hw_
        have hlo15 : w1.heap.size ≤ w9_2.heap.size := BB9_2.size
        have BB9_15 := Below.next_ BB9_2 BB9_2.size hbb15
        refine hK.out _ _ ?_ ?_
        · (intro _; exact keep3 (W := w1) (BB9_15) a0 a1 a2)
        clear hK K
        (try simp only [Act.put, List.setIfInBounds_toArray, List.set_cons_zero, List.set_cons_succ])
        refine upto_step (k := 3) (by kernel_rfl) rfl (fun K hK => ?_)
        go_simp
        (go_at_call 27; refine (toDocument_any (hP1.below (by repeat (first | exact Below.refl _ _ | assumption | refine Below.next_ ?_ ?_ (by assumption) | refine Below.drew ?_ | refine below_drewN ?_ _ | refine Below.alloc ?_ ?_ _ | refine Below.setCell ?_ ?_ _ | omega | (dsimp only; omega) | (simp <;> omega) | (simp at * <;> omega)))) (hS1.below (by repeat (first | exact Below.refl _ _ | assumption | refine Below.next_ ?_ ?_ (by assumption) | refine Below.drew ?_ | refine below_drewN ?_ _ | refine Below.alloc ?_ ?_ _ | refine Below.setCell ?_ ?_ _ | omega | (dsimp only; omega) | (simp <;> omega) | (simp at * <;> omega)))) (by omega) (by omega)).mono ?_; rintro e w9_16 ⟨QP16, QS16, qP16, qS16, rfl, hp16, hs16, hx16, hbb16⟩)
        go_wp2_with fail
        have hrP16 := Rd.of_own hp16
        have hrS16 := Rd.of_own hs16
        have BB9_16 := Below.next_ BB9_15 BB9_15.size hbb16
        have BX16 := BX15.below hbb16
        refine hK.out _ _ ?_ ?_
        · (intro _; exact keep3 (W := w1) (BB9_16) a0 a1 a2)
        clear hK K
        (try simp only [Act.put, List.setIfInBounds_toArray, List.set_cons_zero, List.set_cons_succ])
        refine upto_step (k := 5) (by kernel_rfl) rfl (fun K hK => ?_)
        go_simp
        (go_at_call 26; refine (toIntS_any (hr2.below (by repeat (first | exact Below.refl _ _ | assumption | refine Below.next_ ?_ ?_ (by assumption) | refine Below.drew ?_ | refine below_drewN ?_ _ | refine Below.alloc ?_ ?_ _ | refine Below.setCell ?_ ?_ _ | omega | (dsimp only; omega) | (simp <;> omega) | (simp at * <;> omega)))) (by omega)).mono ?_; rintro e w9_17 ⟨QC17, qC17, rfl, ho17, hbb17⟩)
        go_wp2_with fail
        have hrC17 := Rd.of_own ho17
        have BB9_17 := Below.next_ BB9_16 BB9_16.size hbb17
        have BX17 := BX16.below hbb17
        refine hK.out _ _ ?_ ?_
        · (intro _; exact keep3 (W := w1) (BB9_17) a0 a1 a2)
        clear hK K
        (try simp only [Act.put, List.setIfInBounds_toArray, List.set_cons_zero, List.set_cons_succ])
        refine upto_step (k := 6) (by kernel_rfl) rfl (fun K hK => ?_)
        go_simp
        (go_at_call 16; refine (specRedactDocument_any (((hrA2.below hbb15).below hbb16).below hbb17) (hrP16.below hbb17) (hrS16.below hbb17) hrC17 (by omega) (by omega) (by omega) (by omega) hI0).mono ?_; intro e w9_18 hout; rw [hXe.out, hok.out] at hout; obtain ⟨M18, B18, P18, S18, D18, nm18, nb18, np18, ns18, nd18, cm18, cb18, cp18, cs18, cd18, rs18, kx18, rfl, hrl18, hR18, hbb18⟩ := hout)
        go_wp2_with fail
        have BB9_18 := Below.next_ BB9_17 BB9_17.size hbb18
        have BX18 := BX17.below hbb18
        have hRn18 := hR18.low (k2 := w9_2.heap.size) BX17.lt
        refine hK.out _ _ ?_ ?_
        · (intro _; exact keep3 (W := w1) (BB9_18) a0 a1 a2)
        clear hK K
        (try simp only [Act.put, List.setIfInBounds_toArray, List.set_cons_zero, List.set_cons_succ])
        have hHeld : ((fun w' => w'.cell? ⟨w.heap.size, 0, none⟩ = some (.int .i64 t1) ∧ w'.cell? ⟨w.heap.size, 1, none⟩ = some (.slice P1 n1 c1) ∧ w'.cell? ⟨w.heap.size, 2, none⟩ = some (.slice S1 m1 d1))) w9_18 := by exact keep3 (W := w1) (BB9_18) a0 a1 a2
        refine upto_take (i := 7) (v := ?v13) rfl (by kernel_rfl) (by kernel_rfl) (by kernel_rfl) (by kernel_rfl) (fun _ _ _ h => h) hHeld ?hy13 (by rfl) ?rest13
        case hy13 => (intro w' hSw; (try dsimp only at hSw); go_simp; (try with_reducible rfl))
        (try simp only [Act.put, List.setIfInBounds_toArray, List.set_cons_zero, List.set_cons_succ])
        refine upto_take (i := 8) (v := ?v14) rfl (by kernel_rfl) (by kernel_rfl) (by kernel_rfl) (by kernel_rfl) (fun _ _ _ h => h) hHeld ?hy14 (by rfl) ?rest14
        case hy14 => (intro w' hSw; (try dsimp only at hSw); go_simp; (try with_reducible rfl))
        (try simp only [Act.put, List.setIfInBounds_toArray, List.set_cons_zero, List.set_cons_succ])
        refine upto_take (i := 9) (v := ?v15) rfl (by kernel_rfl) (by kernel_rfl) (by kernel_rfl) (by kernel_rfl) (fun _ _ _ h => h) hHeld ?hy15 (by rfl) ?rest15
        case hy15 => (intro w' hSw; (try dsimp only at hSw); go_simp; (try with_reducible rfl))
        (try simp only [Act.put, List.setIfInBounds_toArray, List.set_cons_zero, List.set_cons_succ])
        clear hHeld
        obtain ⟨⟨y0, y1, y2, y3, y4, y5⟩, g0, g1, g2, g3, g4, g5⟩ := BX18.six
        refine upto_step (k := 11) (by kernel_rfl) rfl (fun K hK => ?_)
        go_simp
        have RS := ((((((hRn18).set (j := 0) (.int .i64 X.t)).set (j := 1) (.slice M18 nm18 cm18)).set (j := 2) (.slice B18 nb18 cb18)).set (j := 3) (.slice P18 np18 cp18)).set (j := 4) (.slice S18 ns18 cs18)).set (j := 5) (.slice D18 nd18 cd18)
        have BS : Blk _ w9_2.heap.size [.int .i64 X.t, .slice M18 nm18 cm18, .slice B18 nb18 cb18, .slice P18 np18 cp18, .slice S18 ns18 cs18, .slice D18 nd18 cd18] := ((((((BX18).set 0 (.int .i64 X.t)).set 1 (.slice M18 nm18 cm18)).set 2 (.slice B18 nb18 cb18)).set 3 (.slice P18 np18 cp18)).set 4 (.slice S18 ns18 cs18)).set 5 (.slice D18 nd18 cd18)
        have LS := ((((((BB9_18).setCell (p := ⟨w9_2.heap.size, 0, none⟩) hlo15 (.int .i64 X.t)).setCell (p := ⟨w9_2.heap.size, 1, none⟩) hlo15 (.slice M18 nm18 cm18)).setCell (p := ⟨w9_2.heap.size, 2, none⟩) hlo15 (.slice B18 nb18 cb18)).setCell (p := ⟨w9_2.heap.size, 3, none⟩) hlo15 (.slice P18 np18 cp18)).setCell (p := ⟨w9_2.heap.size, 4, none⟩) hlo15 (.slice S18 ns18 cs18)).setCell (p := ⟨w9_2.heap.size, 5, none⟩) hlo15 (.slice D18 nd18 cd18)
        obtain ⟨w9_19, hw_⟩ : ∃ x, ((((((w9_18).setCell ⟨w9_2.heap.size, 0, none⟩ (.int .i64 X.t)).setCell ⟨w9_2.heap.size, 1, none⟩ (.slice M18 nm18 cm18)).setCell ⟨w9_2.heap.size, 2, none⟩ (.slice B18 nb18 cb18)).setCell ⟨w9_2.heap.size, 3, none⟩ (.slice P18 np18 cp18)).setCell ⟨w9_2.heap.size, 4, none⟩ (.slice S18 ns18 cs18)).setCell ⟨w9_2.heap.size, 5, none⟩ (.slice D18 nd18 cd18) = x := ⟨_, rfl⟩
        rw [hw_] at RS BS LS ⊢
        have BB9_19 := LS
        clear hw_ y0 y1 y2 y3 y4 y5 g0 g1 g2 g3 g4 g5
        refine hK.out _ _ ?_ ?_
        · (intro _; exact keep3 (W := w1) (BB9_19) a0 a1 a2)
        clear hK K
        (try simp only [Act.put, List.setIfInBounds_toArray, List.set_cons_zero, List.set_cons_succ])
        refine upto_step (k := 12) (by kernel_rfl) rfl (fun K hK => ?_)
        go_simp
        refine hK.out _ _ ?_ ?_
        · (intro h; exact absurd rfl h)
        clear hK K
        (try simp only [Act.put, List.setIfInBounds_toArray, List.set_cons_zero, List.set_cons_succ])
        refine upto_done (by kernel_rfl) ?_ _
        go_wp2_with fail
        go_meet
        exact ⟨w9_2.heap.size, M18, B18, P18, S18, D18, nm18, nb18, np18, ns18, nd18, cm18, cb18, cp18, cs18, cd18, rs18, rfl, rfl, hrl18, RS.base BB9_17.size, BS, hlo15, LS⟩
    · go_simp
      obtain ⟨w9_20, hw_⟩ : ∃ x, w9_1.alloc (.cells #[.int .i64 0, .slice none 0 0, .slice none 0 0, .slice none 0 0, .slice none 0 0, .slice none 0 0] 33) = x := ⟨_, rfl⟩
      have hbb20 : Below w9_1.heap.size w9_1 w9_20 := by rw [← hw_]; exact (Below.refl _ _).alloc (Nat.le_refl _) _
      have BX20 : Blk w9_20 w9_1.heap.size [.int .i64 0, .slice none 0 0, .slice none 0 0, .slice none 0 0, .slice none 0 0, .slice none 0 0] := by rw [← hw_]; exact Blk.new _ _ _
      rw [hw_]
      clear hw_
      have hlo20 : w1.heap.size ≤ w9_1.heap.size := BB9_1.size
      have BB9_20 := Below.next_ BB9_1 BB9_1.size hbb20
      refine hK.out _ _ ?_ ?_
      · (intro _; exact keep3 (W := w1) (BB9_20) a0 a1 a2)
      clear hK K
      (try simp only [Act.put, List.setIfInBounds_toArray, List.set_cons_zero, List.set_cons_succ])
      refine upto_step (k := 1) (by kernel_rfl) rfl (fun K hK => ?_)
      go_simp
      (go_at_call 26; refine (toIntS_any (hr0.below (by repeat (first | exact Below.refl _ _ | assumption | refine Below.next_ ?_ ?_ (by assumption) | refine Below.drew ?_ | refine below_drewN ?_ _ | refine Below.alloc ?_ ?_ _ | refine Below.setCell ?_ ?_ _ | omega | (dsimp only; omega) | (simp <;> omega) | (simp at * <;> omega)))) (by omega)).mono ?_; rintro e w9_21 ⟨QA21, qA21, rfl, ho21, hbb21⟩)
      go_wp2_with fail
      have hrA21 := Rd.of_own ho21
      have BB9_21 := Below.next_ BB9_20 BB9_20.size hbb21
      have BX21 := BX20.below hbb21
      refine hK.out _ _ ?_ ?_
      · (intro _; exact keep3 (W := w1) (BB9_21) a0 a1 a2)
      clear hK K
      (try simp only [Act.put, List.setIfInBounds_toArray, List.set_cons_zero, List.set_cons_succ])
      refine upto_step (k := 3) (by kernel_rfl) rfl (fun K hK => ?_)
      go_simp
      (go_at_call 27; refine (toDocument_any (hP1.below (by repeat (first | exact Below.refl _ _ | assumption | refine Below.next_ ?_ ?_ (by assumption) | refine Below.drew ?_ | refine below_drewN ?_ _ | refine Below.alloc ?_ ?_ _ | refine Below.setCell ?_ ?_ _ | omega | (dsimp only; omega) | (simp <;> omega) | (simp at * <;> omega)))) (hS1.below (by repeat (first | exact Below.refl _ _ | assumption | refine Below.next_ ?_ ?_ (by assumption) | refine Below.drew ?_ | refine below_drewN ?_ _ | refine Below.alloc ?_ ?_ _ | refine Below.setCell ?_ ?_ _ | omega | (dsimp only; omega) | (simp <;> omega) | (simp at * <;> omega)))) (by omega) (by omega)).mono ?_; rintro e w9_22 ⟨QP22, QS22, qP22, qS22, rfl, hp22, hs22, hx22, hbb22⟩)
      go_wp2_with fail
      have hrP22 := Rd.of_own hp22
      have hrS22 := Rd.of_own hs22
      have BB9_22 := Below.next_ BB9_21 BB9_21.size hbb22
      have BX22 := BX21.below hbb22
      refine hK.out _ _ ?_ ?_
      · (intro _; exact keep3 (W := w1) (BB9_22) a0 a1 a2)
      clear hK K
      (try simp only [Act.put, List.setIfInBounds_toArray, List.set_cons_zero, List.set_cons_succ])
      refine upto_step (k := 5) (by kernel_rfl) rfl (fun K hK => ?_)
      go_simp
      (go_at_call 26; refine (toIntS_any (hr2.below (by repeat (first | exact Below.refl _ _ | assumption | refine Below.next_ ?_ ?_ (by assumption) | refine Below.drew ?_ | refine below_drewN ?_ _ | refine Below.alloc ?_ ?_ _ | refine Below.setCell ?_ ?_ _ | omega | (dsimp only; omega) | (simp <;> omega) | (simp at * <;> omega)))) (by omega)).mono ?_; rintro e w9_23 ⟨QC23, qC23, rfl, ho23, hbb23⟩)
      go_wp2_with fail
      have hrC23 := Rd.of_own ho23
      have BB9_23 := Below.next_ BB9_22 BB9_22.size hbb23
      have BX23 := BX22.below hbb23
      refine hK.out _ _ ?_ ?_
      · (intro _; exact keep3 (W := w1) (BB9_23) a0 a1 a2)
      clear hK K
      (try simp only [Act.put, List.setIfInBounds_toArray, List.set_cons_zero, List.set_cons_succ])
      refine upto_step (k := 6) (by kernel_rfl) rfl (fun K hK => ?_)
      go_simp
      (go_at_call 16; refine (specRedactDocument_any ((hrA21.below hbb22).below hbb23) (hrP22.below hbb23) (hrS22.below hbb23) hrC23 (by omega) (by omega) (by omega) (by omega) hI0).mono ?_; intro e w9_24 hout; rw [hXe.out, hok.out] at hout; obtain ⟨M24, B24, P24, S24, D24, nm24, nb24, np24, ns24, nd24, cm24, cb24, cp24, cs24, cd24, rs24, kx24, rfl, hrl24, hR24, hbb24⟩ := hout)
      go_wp2_with fail
      have BB9_24 := Below.next_ BB9_23 BB9_23.size hbb24
      have BX24 := BX23.below hbb24
      have hRn24 := hR24.low (k2 := w9_1.heap.size) BX23.lt
      refine hK.out _ _ ?_ ?_
      · (intro _; exact keep3 (W := w1) (BB9_24) a0 a1 a2)
      clear hK K
      (try simp only [Act.put, List.setIfInBounds_toArray, List.set_cons_zero, List.set_cons_succ])
      have hHeld : ((fun w' => w'.cell? ⟨w.heap.size, 0, none⟩ = some (.int .i64 t1) ∧ w'.cell? ⟨w.heap.size, 1, none⟩ = some (.slice P1 n1 c1) ∧ w'.cell? ⟨w.heap.size, 2, none⟩ = some (.slice S1 m1 d1))) w9_24 := by exact keep3 (W := w1) (BB9_24) a0 a1 a2
      refine upto_take (i := 7) (v := ?v16) rfl (by kernel_rfl) (by kernel_rfl) (by kernel_rfl) (by kernel_rfl) (fun _ _ _ h => h) hHeld ?hy16 (by rfl) ?rest16
      case hy16 => (intro w' hSw; (try dsimp only at hSw); go_simp; (try with_reducible rfl))
      (try simp only [Act.put, List.setIfInBounds_toArray, List.set_cons_zero, List.set_cons_succ])
      refine upto_take (i := 8) (v := ?v17) rfl (by kernel_rfl) (by kernel_rfl) (by kernel_rfl) (by kernel_rfl) (fun _ _ _ h => h) hHeld ?hy17 (by rfl) ?rest17
      case hy17 => (intro w' hSw; (try dsimp only at hSw); go_simp; (try with_reducible rfl))
      (try simp only [Act.put, List.setIfInBounds_toArray, List.set_cons_zero, List.set_cons_succ])
      refine upto_take (i := 9) (v := ?v18) rfl (by kernel_rfl) (by kernel_rfl) (by kernel_rfl) (by kernel_rfl) (fun _ _ _ h => h) hHeld ?hy18 (by rfl) ?rest18
      case hy18 => (intro w' hSw; (try dsimp only at hSw); go_simp; (try with_reducible rfl))
      (try simp only [Act.put, List.setIfInBounds_toArray, List.set_cons_zero, List.set_cons_succ])
      clear hHeld
      obtain ⟨⟨y0, y1, y2, y3, y4, y5⟩, g0, g1, g2, g3, g4, g5⟩ := BX24.six
      refine upto_step (k := 11) (by kernel_rfl) rfl (fun K hK => ?_)
      go_simp
      have RS := ((((((hRn24).set (j := 0) (.int .i64 X.t)).set (j := 1) (.slice M24 nm24 cm24)).set (j := 2) (.slice B24 nb24 cb24)).set (j := 3) (.slice P24 np24 cp24)).set (j := 4) (.slice S24 ns24 cs24)).set (j := 5) (.slice D24 nd24 cd24)
      have BS : Blk _ w9_1.heap.size [.int .i64 X.t, .slice M24 nm24 cm24, .slice B24 nb24 cb24, .slice P24 np24 cp24, .slice S24 ns24 cs24, .slice D24 nd24 cd24] := ((((((BX24).set 0 (.int .i64 X.t)).set 1 (.slice M24 nm24 cm24)).set 2 (.slice B24 nb24 cb24)).set 3 (.slice P24 np24 cp24)).set 4 (.slice S24 ns24 cs24)).set 5 (.slice D24 nd24 cd24)
      have LS := ((((((BB9_24).setCell (p := ⟨w9_1.heap.size, 0, none⟩) hlo20 (.int .i64 X.t)).setCell (p := ⟨w9_1.heap.size, 1, none⟩) hlo20 (.slice M24 nm24 cm24)).setCell (p := ⟨w9_1.heap.size, 2, none⟩) hlo20 (.slice B24 nb24 cb24)).setCell (p := ⟨w9_1.heap.size, 3, none⟩) hlo20 (.slice P24 np24 cp24)).setCell (p := ⟨w9_1.heap.size, 4, none⟩) hlo20 (.slice S24 ns24 cs24)).setCell (p := ⟨w9_1.heap.size, 5, none⟩) hlo20 (.slice D24 nd24 cd24)
      obtain ⟨w9_25, hw_⟩ : ∃ x, ((((((w9_24).setCell ⟨w9_1.heap.size, 0, none⟩ (.int .i64 X.t)).setCell ⟨w9_1.heap.size, 1, none⟩ (.slice M24 nm24 cm24)).setCell ⟨w9_1.heap.size, 2, none⟩ (.slice B24 nb24 cb24)).setCell ⟨w9_1.heap.size, 3, none⟩ (.slice P24 np24 cp24)).setCell ⟨w9_1.heap.size, 4, none⟩ (.slice S24 ns24 cs24)).setCell ⟨w9_1.heap.size, 5, none⟩ (.slice D24 nd24 cd24) = x := ⟨_, rfl⟩
      rw [hw_] at RS BS LS ⊢
      have BB9_25 := LS
      clear hw_ y0 y1 y2 y3 y4 y5 g0 g1 g2 g3 g4 g5
      refine hK.out _ _ ?_ ?_
      · (intro _; exact keep3 (W := w1) (BB9_25) a0 a1 a2)
      clear hK K
      (try simp only [Act.put, List.setIfInBounds_toArray, List.set_cons_zero, List.set_cons_succ])
      refine upto_step (k := 12) (by kernel_rfl) rfl (fun K hK => ?_)
      go_simp
      refine hK.out _ _ ?_ ?_
      · (intro h; exact absurd rfl h)
      clear hK K
      (try simp only [Act.put, List.setIfInBounds_toArray, List.set_cons_zero, List.set_cons_succ])
      refine upto_done (by kernel_rfl) ?_ _
      go_wp2_with fail
      go_meet
      exact ⟨w9_1.heap.size, M24, B24, P24, S24, D24, nm24, nb24, np24, ns24, nd24, cm24, cb24, cp24, cs24, cd24, rs24, rfl, rfl, hrl24, RS.base BB9_23.size, BS, hlo20, LS⟩
  case rest =>
    obtain ⟨bx8, M3, B3, P3, S3, D3, nm3, nb3, np3, ns3, nd3, cm3, cb3, cp3, cs3, cd3, rs3, rfl, rfl, hrl3, R80, bk8, hlo8, hb_2⟩ := hcut
    obtain ⟨w2, rfl⟩ : ∃ x, x = wc := ⟨wc, rfl⟩
    have hz_2 := hb_2.size
    have hlt8 := bk8.lt
    obtain ⟨bd8, hss8⟩ := small_of R80 hrl3 hsm (by omega)
    have R8 := R80
    clear a0 a1 a2 a3 a4 a5
    have hbw_2 : Below w.heap.size w w2 := by repeat (first | exact Below.refl _ _ | assumption | refine Below.next_ ?_ ?_ (by assumption) | refine Below.drew ?_ | refine below_drewN ?_ _ | refine Below.alloc ?_ ?_ _ | refine Below.setCell ?_ ?_ _ | omega | (dsimp only; omega) | (simp <;> omega) | (simp at * <;> omega))
    replace bkA := Blk.below bkA (w' := w2) (by repeat (first | exact Below.refl _ _ | assumption | refine Below.next_ ?_ ?_ (by assumption) | refine Below.drew ?_ | refine below_drewN ?_ _ | refine Below.alloc ?_ ?_ _ | refine Below.setCell ?_ ?_ _ | omega | (dsimp only; omega) | (simp <;> omega) | (simp at * <;> omega)))
    replace bk8 := Blk.below bk8 (w' := w2) (by repeat (first | exact Below.refl _ _ | assumption | refine Below.next_ ?_ ?_ (by assumption) | refine Below.drew ?_ | refine below_drewN ?_ _ | refine Below.alloc ?_ ?_ _ | refine Below.setCell ?_ ?_ _ | omega | (dsimp only; omega) | (simp <;> omega) | (simp at * <;> omega)))
    replace R8 := Rows_.below R8 (w' := w2) (by repeat (first | exact Below.refl _ _ | assumption | refine Below.next_ ?_ ?_ (by assumption) | refine Below.drew ?_ | refine below_drewN ?_ _ | refine Below.alloc ?_ ?_ _ | refine Below.setCell ?_ ?_ _ | omega | (dsimp only; omega) | (simp <;> omega) | (simp at * <;> omega)))
    go_wp2_with fail
    refine (toIntS_any (hr0.below (by repeat (first | exact Below.refl _ _ | assumption | refine Below.next_ ?_ ?_ (by assumption) | refine Below.drew ?_ | refine below_drewN ?_ _ | refine Below.alloc ?_ ?_ _ | refine Below.setCell ?_ ?_ _ | omega | (dsimp only; omega) | (simp <;> omega) | (simp at * <;> omega)))) (by omega)).mono ?_
    rintro e w3 ⟨Q3, q3, rfl, ho3, hb_3⟩
    have hz_3 := hb_3.size; (try simp at hz_3)
    replace bkA := Blk.below bkA (w' := w3) (by repeat (first | exact Below.refl _ _ | assumption | refine Below.next_ ?_ ?_ (by assumption) | refine Below.drew ?_ | refine below_drewN ?_ _ | refine Below.alloc ?_ ?_ _ | refine Below.setCell ?_ ?_ _ | omega | (dsimp only; omega) | (simp <;> omega) | (simp at * <;> omega)))
    replace bk8 := Blk.below bk8 (w' := w3) (by repeat (first | exact Below.refl _ _ | assumption | refine Below.next_ ?_ ?_ (by assumption) | refine Below.drew ?_ | refine below_drewN ?_ _ | refine Below.alloc ?_ ?_ _ | refine Below.setCell ?_ ?_ _ | omega | (dsimp only; omega) | (simp <;> omega) | (simp at * <;> omega)))
    replace R8 := Rows_.below R8 (w' := w3) (by repeat (first | exact Below.refl _ _ | assumption | refine Below.next_ ?_ ?_ (by assumption) | refine Below.drew ?_ | refine below_drewN ?_ _ | refine Below.alloc ?_ ?_ _ | refine Below.setCell ?_ ?_ _ | omega | (dsimp only; omega) | (simp <;> omega) | (simp at * <;> omega)))
    obtain ⟨⟨a0, a1, a2⟩, a3, a4, a5⟩ := bkA.three
    go_wp2_with fail
    refine (toDocument_any (hP1.below (by repeat (first | exact Below.refl _ _ | assumption | refine Below.next_ ?_ ?_ (by assumption) | refine Below.drew ?_ | refine below_drewN ?_ _ | refine Below.alloc ?_ ?_ _ | refine Below.setCell ?_ ?_ _ | omega | (dsimp only; omega) | (simp <;> omega) | (simp at * <;> omega)))) (hS1.below (by repeat (first | exact Below.refl _ _ | assumption | refine Below.next_ ?_ ?_ (by assumption) | refine Below.drew ?_ | refine below_drewN ?_ _ | refine Below.alloc ?_ ?_ _ | refine Below.setCell ?_ ?_ _ | omega | (dsimp only; omega) | (simp <;> omega) | (simp at * <;> omega)))) (by omega) (by omega)).mono ?_
    rintro e w4 ⟨P4, S4, c4, d4, rfl, hp4, hs4, hx4_, hb_4⟩
    have hz_4 := hb_4.size; (try simp at hz_4)
    clear a0 a1 a2 a3 a4 a5
    replace bkA := Blk.below bkA (w' := w4) (by repeat (first | exact Below.refl _ _ | assumption | refine Below.next_ ?_ ?_ (by assumption) | refine Below.drew ?_ | refine below_drewN ?_ _ | refine Below.alloc ?_ ?_ _ | refine Below.setCell ?_ ?_ _ | omega | (dsimp only; omega) | (simp <;> omega) | (simp at * <;> omega)))
    replace bk8 := Blk.below bk8 (w' := w4) (by repeat (first | exact Below.refl _ _ | assumption | refine Below.next_ ?_ ?_ (by assumption) | refine Below.drew ?_ | refine below_drewN ?_ _ | refine Below.alloc ?_ ?_ _ | refine Below.setCell ?_ ?_ _ | omega | (dsimp only; omega) | (simp <;> omega) | (simp at * <;> omega)))
    replace R8 := Rows_.below R8 (w' := w4) (by repeat (first | exact Below.refl _ _ | assumption | refine Below.next_ ?_ ?_ (by assumption) | refine Below.drew ?_ | refine below_drewN ?_ _ | refine Below.alloc ?_ ?_ _ | refine Below.setCell ?_ ?_ _ | omega | (dsimp only; omega) | (simp <;> omega) | (simp at * <;> omega)))
    go_wp2_with fail
    refine (toIntS_any (hr2.below (by repeat (first | exact Below.refl _ _ | assumption | refine Below.next_ ?_ ?_ (by assumption) | refine Below.drew ?_ | refine below_drewN ?_ _ | refine Below.alloc ?_ ?_ _ | refine Below.setCell ?_ ?_ _ | omega | (dsimp only; omega) | (simp <;> omega) | (simp at * <;> omega)))) (by omega)).mono ?_
    rintro e w5 ⟨Q5, q5, rfl, ho5, hb_5⟩
    have hz_5 := hb_5.size; (try simp at hz_5)
    replace bkA := Blk.below bkA (w' := w5) (by repeat (first | exact Below.refl _ _ | assumption | refine Below.next_ ?_ ?_ (by assumption) | refine Below.drew ?_ | refine below_drewN ?_ _ | refine Below.alloc ?_ ?_ _ | refine Below.setCell ?_ ?_ _ | omega | (dsimp only; omega) | (simp <;> omega) | (simp at * <;> omega)))
    replace bk8 := Blk.below bk8 (w' := w5) (by repeat (first | exact Below.refl _ _ | assumption | refine Below.next_ ?_ ?_ (by assumption) | refine Below.drew ?_ | refine below_drewN ?_ _ | refine Below.alloc ?_ ?_ _ | refine Below.setCell ?_ ?_ _ | omega | (dsimp only; omega) | (simp <;> omega) | (simp at * <;> omega)))
    replace R8 := Rows_.below R8 (w' := w5) (by repeat (first | exact Below.refl _ _ | assumption | refine Below.next_ ?_ ?_ (by assumption) | refine Below.drew ?_ | refine below_drewN ?_ _ | refine Below.alloc ?_ ?_ _ | refine Below.setCell ?_ ?_ _ | omega | (dsimp only; omega) | (simp <;> omega) | (simp at * <;> omega)))
    have bk11 : Blk w5 w4.heap.size [.int .i64 t1, .slice P4 n1 c4, .slice S4 m1 d4] := Blk.below (Blk.new w4 #[.int .i64 t1, .slice P4 n1 c4, .slice S4 m1 d4] 27) hb_5
    obtain ⟨⟨u0, u1, u2⟩, u3, u4, u5⟩ := bk11.three
    go_wp2_with fail
    refine (implRedactDocument_any ((Rd.of_own ho3).below (by repeat (first | exact Below.refl _ _ | assumption | refine Below.next_ ?_ ?_ (by assumption) | refine Below.drew ?_ | refine below_drewN ?_ _ | refine Below.alloc ?_ ?_ _ | refine Below.setCell ?_ ?_ _ | omega | (dsimp only; omega) | (simp <;> omega) | (simp at * <;> omega)))) ((Rd.of_own hp4).below (by repeat (first | exact Below.refl _ _ | assumption | refine Below.next_ ?_ ?_ (by assumption) | refine Below.drew ?_ | refine below_drewN ?_ _ | refine Below.alloc ?_ ?_ _ | refine Below.setCell ?_ ?_ _ | omega | (dsimp only; omega) | (simp <;> omega) | (simp at * <;> omega)))) ((Rd.of_own hs4).below (by repeat (first | exact Below.refl _ _ | assumption | refine Below.next_ ?_ ?_ (by assumption) | refine Below.drew ?_ | refine below_drewN ?_ _ | refine Below.alloc ?_ ?_ _ | refine Below.setCell ?_ ?_ _ | omega | (dsimp only; omega) | (simp <;> omega) | (simp at * <;> omega)))) ((Rd.of_own ho5).below (by repeat (first | exact Below.refl _ _ | assumption | refine Below.next_ ?_ ?_ (by assumption) | refine Below.drew ?_ | refine below_drewN ?_ _ | refine Below.alloc ?_ ?_ _ | refine Below.setCell ?_ ?_ _ | omega | (dsimp only; omega) | (simp <;> omega) | (simp at * <;> omega)))) (by omega) (by omega) (by omega) (by omega) hI0).mono ?_
    intro e w6 hout
    rw [hXe.out, hok.out] at hout
    obtain ⟨M6, B6, P6, S6, D6, nm6, nb6, np6, ns6, nd6, cm6, cb6, cp6, cs6, cd6, rs6, kx6, rfl, hrl6, hR6, hb_6⟩ := hout
    have hz_6 := hb_6.size
    clear u0 u1 u2 u3 u4 u5
    replace bkA := Blk.below bkA (w' := w6) (by repeat (first | exact Below.refl _ _ | assumption | refine Below.next_ ?_ ?_ (by assumption) | refine Below.drew ?_ | refine below_drewN ?_ _ | refine Below.alloc ?_ ?_ _ | refine Below.setCell ?_ ?_ _ | omega | (dsimp only; omega) | (simp <;> omega) | (simp at * <;> omega)))
    replace bk8 := Blk.below bk8 (w' := w6) (by repeat (first | exact Below.refl _ _ | assumption | refine Below.next_ ?_ ?_ (by assumption) | refine Below.drew ?_ | refine below_drewN ?_ _ | refine Below.alloc ?_ ?_ _ | refine Below.setCell ?_ ?_ _ | omega | (dsimp only; omega) | (simp <;> omega) | (simp at * <;> omega)))
    replace bk11 := Blk.below bk11 (w' := w6) (by repeat (first | exact Below.refl _ _ | assumption | refine Below.next_ ?_ ?_ (by assumption) | refine Below.drew ?_ | refine below_drewN ?_ _ | refine Below.alloc ?_ ?_ _ | refine Below.setCell ?_ ?_ _ | omega | (dsimp only; omega) | (simp <;> omega) | (simp at * <;> omega)))
    replace R8 := Rows_.below R8 (w' := w6) (by repeat (first | exact Below.refl _ _ | assumption | refine Below.next_ ?_ ?_ (by assumption) | refine Below.drew ?_ | refine below_drewN ?_ _ | refine Below.alloc ?_ ?_ _ | refine Below.setCell ?_ ?_ _ | omega | (dsimp only; omega) | (simp <;> omega) | (simp at * <;> omega)))
    obtain ⟨bd6, hss6⟩ := small_of hR6 hrl6 hsm (by omega)
    obtain ⟨⟨r0, r1, r2, r3, r4, r5⟩, r6, r7, r8, r9, r10, r11⟩ := (Blk.alloc bk8 (.cells #[.int .i64 X.t, .slice M6 nm6 cm6, .slice B6 nb6 cb6, .slice P6 np6 cp6, .slice S6 ns6 cs6, .slice D6 nd6 cd6] 33)).six
    go_wp2_with fail
    refine (eqRedacted_any (RdR.below (Rows_.rdr hR6 hrl6) (by repeat (first | exact Below.refl _ _ | assumption | refine Below.next_ ?_ ?_ (by assumption) | refine Below.drew ?_ | refine below_drewN ?_ _ | refine Below.alloc ?_ ?_ _ | refine Below.setCell ?_ ?_ _ | omega | (dsimp only; omega) | (simp <;> omega) | (simp at * <;> omega)))) (RdR.below (Rows_.rdr R8 hrl3) (by repeat (first | exact Below.refl _ _ | assumption | refine Below.next_ ?_ ?_ (by assumption) | refine Below.drew ?_ | refine below_drewN ?_ _ | refine Below.alloc ?_ ?_ _ | refine Below.setCell ?_ ?_ _ | omega | (dsimp only; omega) | (simp <;> omega) | (simp at * <;> omega)))) bd6 bd8).mono ?_
    rintro e w7 ⟨rfl, hb_7⟩
    have hz_7 := hb_7.size; (try simp at hz_7)
    clear r0 r1 r2 r3 r4 r5 r6 r7 r8 r9 r10 r11
    replace bkA := Blk.below bkA (w' := w7) (by repeat (first | exact Below.refl _ _ | assumption | refine Below.next_ ?_ ?_ (by assumption) | refine Below.drew ?_ | refine below_drewN ?_ _ | refine Below.alloc ?_ ?_ _ | refine Below.setCell ?_ ?_ _ | omega | (dsimp only; omega) | (simp <;> omega) | (simp at * <;> omega)))
    replace bk8 := Blk.below bk8 (w' := w7) (by repeat (first | exact Below.refl _ _ | assumption | refine Below.next_ ?_ ?_ (by assumption) | refine Below.drew ?_ | refine below_drewN ?_ _ | refine Below.alloc ?_ ?_ _ | refine Below.setCell ?_ ?_ _ | omega | (dsimp only; omega) | (simp <;> omega) | (simp at * <;> omega)))
    replace bk11 := Blk.below bk11 (w' := w7) (by repeat (first | exact Below.refl _ _ | assumption | refine Below.next_ ?_ ?_ (by assumption) | refine Below.drew ?_ | refine below_drewN ?_ _ | refine Below.alloc ?_ ?_ _ | refine Below.setCell ?_ ?_ _ | omega | (dsimp only; omega) | (simp <;> omega) | (simp at * <;> omega)))
    replace R8 := Rows_.below R8 (w' := w7) (by repeat (first | exact Below.refl _ _ | assumption | refine Below.next_ ?_ ?_ (by assumption) | refine Below.drew ?_ | refine below_drewN ?_ _ | refine Below.alloc ?_ ?_ _ | refine Below.setCell ?_ ?_ _ | omega | (dsimp only; omega) | (simp <;> omega) | (simp at * <;> omega)))
    have R13 := Rows_.below (hR6.rek (k2 := w6.heap.size) (Nat.le_refl _)) (w' := w7) (by repeat (first | exact Below.refl _ _ | assumption | refine Below.next_ ?_ ?_ (by assumption) | refine Below.drew ?_ | refine below_drewN ?_ _ | refine Below.alloc ?_ ?_ _ | refine Below.setCell ?_ ?_ _ | omega | (dsimp only; omega) | (simp <;> omega) | (simp at * <;> omega)))
    have bk13 : Blk w7 w6.heap.size [.int .i64 X.t, .slice M6 nm6 cm6, .slice B6 nb6 cb6, .slice P6 np6 cp6, .slice S6 ns6 cs6, .slice D6 nd6 cd6] := Blk.below (Blk.new w6 #[.int .i64 X.t, .slice M6 nm6 cm6, .slice B6 nb6 cb6, .slice P6 np6 cp6, .slice S6 ns6 cs6, .slice D6 nd6 cd6] 33) hb_7
    go_wp2_with fail
    refine (toIntS_any (hr0.below (by repeat (first | exact Below.refl _ _ | assumption | refine Below.next_ ?_ ?_ (by assumption) | refine Below.drew ?_ | refine below_drewN ?_ _ | refine Below.alloc ?_ ?_ _ | refine Below.setCell ?_ ?_ _ | omega | (dsimp only; omega) | (simp <;> omega) | (simp at * <;> omega)))) (by omega)).mono ?_
    rintro e w8 ⟨Q8, q8, rfl, ho8, hb_8⟩
    have hz_8 := hb_8.size; (try simp at hz_8)
    go_wp2_with fail
    refine (eqIntS_any ((Rd.of_own ho3).below (by repeat (first | exact Below.refl _ _ | assumption | refine Below.next_ ?_ ?_ (by assumption) | refine Below.drew ?_ | refine below_drewN ?_ _ | refine Below.alloc ?_ ?_ _ | refine Below.setCell ?_ ?_ _ | omega | (dsimp only; omega) | (simp <;> omega) | (simp at * <;> omega)))) ((Rd.of_own ho8).below (by repeat (first | exact Below.refl _ _ | assumption | refine Below.next_ ?_ ?_ (by assumption) | refine Below.drew ?_ | refine below_drewN ?_ _ | refine Below.alloc ?_ ?_ _ | refine Below.setCell ?_ ?_ _ | omega | (dsimp only; omega) | (simp <;> omega) | (simp at * <;> omega)))) (by omega) (by omega)).mono ?_
    rintro e _ ⟨rfl, qq8, rfl⟩
    obtain ⟨w9, hw_⟩ : ∃ x, w8.drewN qq8 = x := ⟨_, rfl⟩
    have hb_9 : Below w8.heap.size w8 w9 := by rw [← hw_]; exact below_drewN (Below.refl _ _) _
    have hz_9 := hb_9.size
    rw [hw_]
    clear hw_
    replace bkA := Blk.below bkA (w' := w9) (by repeat (first | exact Below.refl _ _ | assumption | refine Below.next_ ?_ ?_ (by assumption) | refine Below.drew ?_ | refine below_drewN ?_ _ | refine Below.alloc ?_ ?_ _ | refine Below.setCell ?_ ?_ _ | omega | (dsimp only; omega) | (simp <;> omega) | (simp at * <;> omega)))
    replace bk8 := Blk.below bk8 (w' := w9) (by repeat (first | exact Below.refl _ _ | assumption | refine Below.next_ ?_ ?_ (by assumption) | refine Below.drew ?_ | refine below_drewN ?_ _ | refine Below.alloc ?_ ?_ _ | refine Below.setCell ?_ ?_ _ | omega | (dsimp only; omega) | (simp <;> omega) | (simp at * <;> omega)))
    replace bk11 := Blk.below bk11 (w' := w9) (by repeat (first | exact Below.refl _ _ | assumption | refine Below.next_ ?_ ?_ (by assumption) | refine Below.drew ?_ | refine below_drewN ?_ _ | refine Below.alloc ?_ ?_ _ | refine Below.setCell ?_ ?_ _ | omega | (dsimp only; omega) | (simp <;> omega) | (simp at * <;> omega)))
    replace bk13 := Blk.below bk13 (w' := w9) (by repeat (first | exact Below.refl _ _ | assumption | refine Below.next_ ?_ ?_ (by assumption) | refine Below.drew ?_ | refine below_drewN ?_ _ | refine Below.alloc ?_ ?_ _ | refine Below.setCell ?_ ?_ _ | omega | (dsimp only; omega) | (simp <;> omega) | (simp at * <;> omega)))
    replace R8 := Rows_.below R8 (w' := w9) (by repeat (first | exact Below.refl _ _ | assumption | refine Below.next_ ?_ ?_ (by assumption) | refine Below.drew ?_ | refine below_drewN ?_ _ | refine Below.alloc ?_ ?_ _ | refine Below.setCell ?_ ?_ _ | omega | (dsimp only; omega) | (simp <;> omega) | (simp at * <;> omega)))
    replace R13 := Rows_.below R13 (w' := w9) (by repeat (first | exact Below.refl _ _ | assumption | refine Below.next_ ?_ ?_ (by assumption) | refine Below.drew ?_ | refine below_drewN ?_ _ | refine Below.alloc ?_ ?_ _ | refine Below.setCell ?_ ?_ _ | omega | (dsimp only; omega) | (simp <;> omega) | (simp at * <;> omega)))
    obtain ⟨⟨a0, a1, a2⟩, a3, a4, a5⟩ := bkA.three
    obtain ⟨⟨u0, u1, u2⟩, u3, u4, u5⟩ := bk11.three
    go_wp2_with fail
    go_region_held3 (fun w' => w'.cell? ⟨w.heap.size, 0, none⟩ = some (.int .i64 t1) ∧ w'.cell? ⟨w.heap.size, 1, none⟩ = some (.slice P1 n1 c1) ∧ w'.cell? ⟨w.heap.size, 2, none⟩ = some (.slice S1 m1 d1) ∧ w'.cell? ⟨w4.heap.size, 0, none⟩ = some (.int .i64 t1) ∧ w'.cell? ⟨w4.heap.size, 1, none⟩ = some (.slice P4 n1 c4) ∧ w'.cell? ⟨w4.heap.size, 2, none⟩ = some (.slice S4 m1 d4)) (((refine keep6 (W := w9) ?_ a0 a1 a2 u0 u1 u2); (focus (repeat (first | exact Below.refl _ _ | assumption | refine Below.next_ ?_ ?_ (by assumption) | refine Below.drew ?_ | refine below_drewN ?_ _ | refine Below.alloc ?_ ?_ _ | refine Below.setCell ?_ ?_ _ | omega | (simp <;> omega) | (simp at * <;> omega))))))
        (first | (go_at_call 27; with_reducible refine (toDocument_any (hP1.below ?_) (hS1.below ?_) ?_ ?_).mono ?_; (focus (repeat (first | exact Below.refl _ _ | assumption | refine Below.next_ ?_ ?_ (by assumption) | refine Below.drew ?_ | refine below_drewN ?_ _ | refine Below.alloc ?_ ?_ _ | refine Below.setCell ?_ ?_ _ | omega | (dsimp only; omega) | (simp <;> omega) | (simp at * <;> omega)))); (focus (repeat (first | exact Below.refl _ _ | assumption | refine Below.next_ ?_ ?_ (by assumption) | refine Below.drew ?_ | refine below_drewN ?_ _ | refine Below.alloc ?_ ?_ _ | refine Below.setCell ?_ ?_ _ | omega | (dsimp only; omega) | (simp <;> omega) | (simp at * <;> omega)))); (focus (omega)); (focus (omega)); rintro e w10 ⟨P10, S10, c10, d10, rfl, hp10, hs10, hx10_, hb_10⟩; have hz_10 := hb_10.size; (try simp at hz_10)) | (go_at_call 30; with_reducible refine (eqDocument_any ((Rd.of_own hp4).below ?_) ((Rd.of_own hs4).below ?_) ((Rd.of_own hp10).below ?_) ((Rd.of_own hs10).below ?_) ?_ ?_ ?_ ?_).mono ?_; (focus (repeat (first | exact Below.refl _ _ | assumption | refine Below.next_ ?_ ?_ (by assumption) | refine Below.drew ?_ | refine below_drewN ?_ _ | refine Below.alloc ?_ ?_ _ | refine Below.setCell ?_ ?_ _ | omega | (dsimp only; omega) | (simp <;> omega) | (simp at * <;> omega)))); (focus (repeat (first | exact Below.refl _ _ | assumption | refine Below.next_ ?_ ?_ (by assumption) | refine Below.drew ?_ | refine below_drewN ?_ _ | refine Below.alloc ?_ ?_ _ | refine Below.setCell ?_ ?_ _ | omega | (dsimp only; omega) | (simp <;> omega) | (simp at * <;> omega)))); (focus (repeat (first | exact Below.refl _ _ | assumption | refine Below.next_ ?_ ?_ (by assumption) | refine Below.drew ?_ | refine below_drewN ?_ _ | refine Below.alloc ?_ ?_ _ | refine Below.setCell ?_ ?_ _ | omega | (dsimp only; omega) | (simp <;> omega) | (simp at * <;> omega)))); (focus (repeat (first | exact Below.refl _ _ | assumption | refine Below.next_ ?_ ?_ (by assumption) | refine Below.drew ?_ | refine below_drewN ?_ _ | refine Below.alloc ?_ ?_ _ | refine Below.setCell ?_ ?_ _ | omega | (dsimp only; omega) | (simp <;> omega) | (simp at * <;> omega)))); (focus (omega)); (focus (omega)); (focus (omega)); (focus (omega)); rintro e w11 ⟨rfl, hb_11⟩; have hz_11 := hb_11.size; (try simp at hz_11)))
    clear a0 a1 a2 a3 a4 a5
    clear u0 u1 u2 u3 u4 u5
    replace bkA := Blk.below bkA (w' := w11) (by repeat (first | exact Below.refl _ _ | assumption | refine Below.next_ ?_ ?_ (by assumption) | refine Below.drew ?_ | refine below_drewN ?_ _ | refine Below.alloc ?_ ?_ _ | refine Below.setCell ?_ ?_ _ | omega | (dsimp only; omega) | (simp <;> omega) | (simp at * <;> omega)))
    replace bk8 := Blk.below bk8 (w' := w11) (by repeat (first | exact Below.refl _ _ | assumption | refine Below.next_ ?_ ?_ (by assumption) | refine Below.drew ?_ | refine below_drewN ?_ _ | refine Below.alloc ?_ ?_ _ | refine Below.setCell ?_ ?_ _ | omega | (dsimp only; omega) | (simp <;> omega) | (simp at * <;> omega)))
    replace bk11 := Blk.below bk11 (w' := w11) (by repeat (first | exact Below.refl _ _ | assumption | refine Below.next_ ?_ ?_ (by assumption) | refine Below.drew ?_ | refine below_drewN ?_ _ | refine Below.alloc ?_ ?_ _ | refine Below.setCell ?_ ?_ _ | omega | (dsimp only; omega) | (simp <;> omega) | (simp at * <;> omega)))
    replace bk13 := Blk.below bk13 (w' := w11) (by repeat (first | exact Below.refl _ _ | assumption | refine Below.next_ ?_ ?_ (by assumption) | refine Below.drew ?_ | refine below_drewN ?_ _ | refine Below.alloc ?_ ?_ _ | refine Below.setCell ?_ ?_ _ | omega | (dsimp only; omega) | (simp <;> omega) | (simp at * <;> omega)))
    replace R8 := Rows_.below R8 (w' := w11) (by repeat (first | exact Below.refl _ _ | assumption | refine Below.next_ ?_ ?_ (by assumption) | refine Below.drew ?_ | refine below_drewN ?_ _ | refine Below.alloc ?_ ?_ _ | refine Below.setCell ?_ ?_ _ | omega | (dsimp only; omega) | (simp <;> omega) | (simp at * <;> omega)))
    replace R13 := Rows_.below R13 (w' := w11) (by repeat (first | exact Below.refl _ _ | assumption | refine Below.next_ ?_ ?_ (by assumption) | refine Below.drew ?_ | refine below_drewN ?_ _ | refine Below.alloc ?_ ?_ _ | refine Below.setCell ?_ ?_ _ | omega | (dsimp only; omega) | (simp <;> omega) | (simp at * <;> omega)))
    go_wp2_with fail
    refine (toIntS_any (hr2.below (by repeat (first | exact Below.refl _ _ | assumption | refine Below.next_ ?_ ?_ (by assumption) | refine Below.drew ?_ | refine below_drewN ?_ _ | refine Below.alloc ?_ ?_ _ | refine Below.setCell ?_ ?_ _ | omega | (dsimp only; omega) | (simp <;> omega) | (simp at * <;> omega)))) (by omega)).mono ?_
    rintro e w12 ⟨Q12, q12, rfl, ho12, hb_12⟩
    have hz_12 := hb_12.size; (try simp at hz_12)
    go_wp2_with fail
    refine (eqIntS_any ((Rd.of_own ho5).below (by repeat (first | exact Below.refl _ _ | assumption | refine Below.next_ ?_ ?_ (by assumption) | refine Below.drew ?_ | refine below_drewN ?_ _ | refine Below.alloc ?_ ?_ _ | refine Below.setCell ?_ ?_ _ | omega | (dsimp only; omega) | (simp <;> omega) | (simp at * <;> omega)))) ((Rd.of_own ho12).below (by repeat (first | exact Below.refl _ _ | assumption | refine Below.next_ ?_ ?_ (by assumption) | refine Below.drew ?_ | refine below_drewN ?_ _ | refine Below.alloc ?_ ?_ _ | refine Below.setCell ?_ ?_ _ | omega | (dsimp only; omega) | (simp <;> omega) | (simp at * <;> omega)))) (by omega) (by omega)).mono ?_
    rintro e _ ⟨rfl, qq12, rfl⟩
    obtain ⟨w13, hw_⟩ : ∃ x, w12.drewN qq12 = x := ⟨_, rfl⟩
    have hb_13 : Below w12.heap.size w12 w13 := by rw [← hw_]; exact below_drewN (Below.refl _ _) _
    have hz_13 := hb_13.size
    rw [hw_]
    clear hw_
    replace bkA := Blk.below bkA (w' := w13) (by repeat (first | exact Below.refl _ _ | assumption | refine Below.next_ ?_ ?_ (by assumption) | refine Below.drew ?_ | refine below_drewN ?_ _ | refine Below.alloc ?_ ?_ _ | refine Below.setCell ?_ ?_ _ | omega | (dsimp only; omega) | (simp <;> omega) | (simp at * <;> omega)))
    replace bk8 := Blk.below bk8 (w' := w13) (by repeat (first | exact Below.refl _ _ | assumption | refine Below.next_ ?_ ?_ (by assumption) | refine Below.drew ?_ | refine below_drewN ?_ _ | refine Below.alloc ?_ ?_ _ | refine Below.setCell ?_ ?_ _ | omega | (dsimp only; omega) | (simp <;> omega) | (simp at * <;> omega)))
    replace bk11 := Blk.below bk11 (w' := w13) (by repeat (first | exact Below.refl _ _ | assumption | refine Below.next_ ?_ ?_ (by assumption) | refine Below.drew ?_ | refine below_drewN ?_ _ | refine Below.alloc ?_ ?_ _ | refine Below.setCell ?_ ?_ _ | omega | (dsimp only; omega) | (simp <;> omega) | (simp at * <;> omega)))
    replace bk13 := Blk.below bk13 (w' := w13) (by repeat (first | exact Below.refl _ _ | assumption | refine Below.next_ ?_ ?_ (by assumption) | refine Below.drew ?_ | refine below_drewN ?_ _ | refine Below.alloc ?_ ?_ _ | refine Below.setCell ?_ ?_ _ | omega | (dsimp only; omega) | (simp <;> omega) | (simp at * <;> omega)))
    replace R8 := Rows_.below R8 (w' := w13) (by repeat (first | exact Below.refl _ _ | assumption | refine Below.next_ ?_ ?_ (by assumption) | refine Below.drew ?_ | refine below_drewN ?_ _ | refine Below.alloc ?_ ?_ _ | refine Below.setCell ?_ ?_ _ | omega | (dsimp only; omega) | (simp <;> omega) | (simp at * <;> omega)))
    replace R13 := Rows_.below R13 (w' := w13) (by repeat (first | exact Below.refl _ _ | assumption | refine Below.next_ ?_ ?_ (by assumption) | refine Below.drew ?_ | refine below_drewN ?_ _ | refine Below.alloc ?_ ?_ _ | refine Below.setCell ?_ ?_ _ | omega | (dsimp only; omega) | (simp <;> omega) | (simp at * <;> omega)))
    go_wp2_with fail
    refine (markIntS_any (own_below ho3 (by repeat (first | exact Below.refl _ _ | assumption | refine Below.next_ ?_ ?_ (by assumption) | refine Below.drew ?_ | refine below_drewN ?_ _ | refine Below.alloc ?_ ?_ _ | refine Below.setCell ?_ ?_ _ | omega | (dsimp only; omega) | (simp <;> omega) | (simp at * <;> omega)))) (by omega) (by omega) (by omega)).mono ?_
    rintro e w14 ⟨rfl, ho14, hg_14⟩
    have hz_14 := hg_14.size
    have hb_14 : Below w.heap.size w w14 := below_mark (w := w13) (by repeat (first | exact Below.refl _ _ | assumption | refine Below.next_ ?_ ?_ (by assumption) | refine Below.drew ?_ | refine below_drewN ?_ _ | refine Below.alloc ?_ ?_ _ | refine Below.setCell ?_ ?_ _ | omega | (dsimp only; omega) | (simp <;> omega) | (simp at * <;> omega))) (own_below ho3 (by repeat (first | exact Below.refl _ _ | assumption | refine Below.next_ ?_ ?_ (by assumption) | refine Below.drew ?_ | refine below_drewN ?_ _ | refine Below.alloc ?_ ?_ _ | refine Below.setCell ?_ ?_ _ | omega | (dsimp only; omega) | (simp <;> omega) | (simp at * <;> omega)))) (by first | omega | (simp <;> omega) | (simp at * <;> omega)) hg_14
    replace R8 := Rows_.under (w := w13) (Rows_.below R8 (by repeat (first | exact Below.refl _ _ | assumption | refine Below.next_ ?_ ?_ (by assumption) | refine Below.drew ?_ | refine below_drewN ?_ _ | refine Below.alloc ?_ ?_ _ | refine Below.setCell ?_ ?_ _ | omega | (dsimp only; omega) | (simp <;> omega) | (simp at * <;> omega)))) R80 (own_below ho3 (by repeat (first | exact Below.refl _ _ | assumption | refine Below.next_ ?_ ?_ (by assumption) | refine Below.drew ?_ | refine below_drewN ?_ _ | refine Below.alloc ?_ ?_ _ | refine Below.setCell ?_ ?_ _ | omega | (dsimp only; omega) | (simp <;> omega) | (simp at * <;> omega)))) (by first | omega | (simp <;> omega) | (simp at * <;> omega)) hg_14
    replace R13 := Rows_.over (w := w13) (Rows_.below R13 (by repeat (first | exact Below.refl _ _ | assumption | refine Below.next_ ?_ ?_ (by assumption) | refine Below.drew ?_ | refine below_drewN ?_ _ | refine Below.alloc ?_ ?_ _ | refine Below.setCell ?_ ?_ _ | omega | (dsimp only; omega) | (simp <;> omega) | (simp at * <;> omega)))) ho3 (by first | omega | (simp <;> omega) | (simp at * <;> omega)) hg_14
    have hk14_P4 := kept_new (w := w13) (own_below hp4 (by repeat (first | exact Below.refl _ _ | assumption | refine Below.next_ ?_ ?_ (by assumption) | refine Below.drew ?_ | refine below_drewN ?_ _ | refine Below.alloc ?_ ?_ _ | refine Below.setCell ?_ ?_ _ | omega | (dsimp only; omega) | (simp <;> omega) | (simp at * <;> omega)))) ho3 (by first | omega | (simp <;> omega) | (simp at * <;> omega)) hg_14
    have hk14_S4 := kept_new (w := w13) (own_below hs4 (by repeat (first | exact Below.refl _ _ | assumption | refine Below.next_ ?_ ?_ (by assumption) | refine Below.drew ?_ | refine below_drewN ?_ _ | refine Below.alloc ?_ ?_ _ | refine Below.setCell ?_ ?_ _ | omega | (dsimp only; omega) | (simp <;> omega) | (simp at * <;> omega)))) ho3 (by first | omega | (simp <;> omega) | (simp at * <;> omega)) hg_14
    have hk14_Q5 := kept_new (w := w13) (own_below ho5 (by repeat (first | exact Below.refl _ _ | assumption | refine Below.next_ ?_ ?_ (by assumption) | refine Below.drew ?_ | refine below_drewN ?_ _ | refine Below.alloc ?_ ?_ _ | refine Below.setCell ?_ ?_ _ | omega | (dsimp only; omega) | (simp <;> omega) | (simp at * <;> omega)))) ho3 (by first | omega | (simp <;> omega) | (simp at * <;> omega)) hg_14
    replace bkA := bx_old (w := w13) (Blk.below bkA (by repeat (first | exact Below.refl _ _ | assumption | refine Below.next_ ?_ ?_ (by assumption) | refine Below.drew ?_ | refine below_drewN ?_ _ | refine Below.alloc ?_ ?_ _ | refine Below.setCell ?_ ?_ _ | omega | (dsimp only; omega) | (simp <;> omega) | (simp at * <;> omega)))) (own_below ho3 (by repeat (first | exact Below.refl _ _ | assumption | refine Below.next_ ?_ ?_ (by assumption) | refine Below.drew ?_ | refine below_drewN ?_ _ | refine Below.alloc ?_ ?_ _ | refine Below.setCell ?_ ?_ _ | omega | (dsimp only; omega) | (simp <;> omega) | (simp at * <;> omega)))) (by first | omega | (simp <;> omega) | (simp at * <;> omega)) hg_14
    replace bk8 := bx_old (w := w13) (Blk.below bk8 (by repeat (first | exact Below.refl _ _ | assumption | refine Below.next_ ?_ ?_ (by assumption) | refine Below.drew ?_ | refine below_drewN ?_ _ | refine Below.alloc ?_ ?_ _ | refine Below.setCell ?_ ?_ _ | omega | (dsimp only; omega) | (simp <;> omega) | (simp at * <;> omega)))) (own_below ho3 (by repeat (first | exact Below.refl _ _ | assumption | refine Below.next_ ?_ ?_ (by assumption) | refine Below.drew ?_ | refine below_drewN ?_ _ | refine Below.alloc ?_ ?_ _ | refine Below.setCell ?_ ?_ _ | omega | (dsimp only; omega) | (simp <;> omega) | (simp at * <;> omega)))) (by first | omega | (simp <;> omega) | (simp at * <;> omega)) hg_14
    replace bk11 := bx_new (w := w13) (Blk.below bk11 (by repeat (first | exact Below.refl _ _ | assumption | refine Below.next_ ?_ ?_ (by assumption) | refine Below.drew ?_ | refine below_drewN ?_ _ | refine Below.alloc ?_ ?_ _ | refine Below.setCell ?_ ?_ _ | omega | (dsimp only; omega) | (simp <;> omega) | (simp at * <;> omega)))) ho3 (by first | omega | (simp <;> omega) | (simp at * <;> omega)) hg_14
    replace bk13 := bx_new (w := w13) (Blk.below bk13 (by repeat (first | exact Below.refl _ _ | assumption | refine Below.next_ ?_ ?_ (by assumption) | refine Below.drew ?_ | refine below_drewN ?_ _ | refine Below.alloc ?_ ?_ _ | refine Below.setCell ?_ ?_ _ | omega | (dsimp only; omega) | (simp <;> omega) | (simp at * <;> omega)))) ho3 (by first | omega | (simp <;> omega) | (simp at * <;> omega)) hg_14
    obtain ⟨⟨u0, u1, u2⟩, u3, u4, u5⟩ := bk11.three
    go_wp2_with fail
    refine (markDocument_any (own_below hk14_P4 (by repeat (first | exact Below.refl _ _ | assumption | refine Below.next_ ?_ ?_ (by assumption) | refine Below.drew ?_ | refine below_drewN ?_ _ | refine Below.alloc ?_ ?_ _ | refine Below.setCell ?_ ?_ _ | omega | (dsimp only; omega) | (simp <;> omega) | (simp at * <;> omega)))) (own_below hk14_S4 (by repeat (first | exact Below.refl _ _ | assumption | refine Below.next_ ?_ ?_ (by assumption) | refine Below.drew ?_ | refine below_drewN ?_ _ | refine Below.alloc ?_ ?_ _ | refine Below.setCell ?_ ?_ _ | omega | (dsimp only; omega) | (simp <;> omega) | (simp at * <;> omega)))) hx4_ (by omega) (by omega) (by omega) (by omega)).mono ?_
    rintro e w15 ⟨rfl, wb15, wm15, hb_wb15, hg_wm15, hpm15, hsm15, hg_15, hpw15, hsw15⟩
    clear u0 u1 u2 u3 u4 u5
    have hz_wb15 := hb_wb15.size; have hz_wm15 := hg_wm15.size; have hz_15 := hg_15.size
    have hb_wm15 : Below w.heap.size w wm15 := below_mark (w := wb15) (by repeat (first | exact Below.refl _ _ | assumption | refine Below.next_ ?_ ?_ (by assumption) | refine Below.drew ?_ | refine below_drewN ?_ _ | refine Below.alloc ?_ ?_ _ | refine Below.setCell ?_ ?_ _ | omega | (dsimp only; omega) | (simp <;> omega) | (simp at * <;> omega))) (own_below hk14_P4 (by repeat (first | exact Below.refl _ _ | assumption | refine Below.next_ ?_ ?_ (by assumption) | refine Below.drew ?_ | refine below_drewN ?_ _ | refine Below.alloc ?_ ?_ _ | refine Below.setCell ?_ ?_ _ | omega | (dsimp only; omega) | (simp <;> omega) | (simp at * <;> omega)))) (by first | omega | (simp <;> omega) | (simp at * <;> omega)) hg_wm15
    replace R8 := Rows_.under (w := wb15) (Rows_.below R8 (by repeat (first | exact Below.refl _ _ | assumption | refine Below.next_ ?_ ?_ (by assumption) | refine Below.drew ?_ | refine below_drewN ?_ _ | refine Below.alloc ?_ ?_ _ | refine Below.setCell ?_ ?_ _ | omega | (dsimp only; omega) | (simp <;> omega) | (simp at * <;> omega)))) R80 (own_below hk14_P4 (by repeat (first | exact Below.refl _ _ | assumption | refine Below.next_ ?_ ?_ (by assumption) | refine Below.drew ?_ | refine below_drewN ?_ _ | refine Below.alloc ?_ ?_ _ | refine Below.setCell ?_ ?_ _ | omega | (dsimp only; omega) | (simp <;> omega) | (simp at * <;> omega)))) (by first | omega | (simp <;> omega) | (simp at * <;> omega)) hg_wm15
    replace R13 := Rows_.over (w := wb15) (Rows_.below R13 (by repeat (first | exact Below.refl _ _ | assumption | refine Below.next_ ?_ ?_ (by assumption) | refine Below.drew ?_ | refine below_drewN ?_ _ | refine Below.alloc ?_ ?_ _ | refine Below.setCell ?_ ?_ _ | omega | (dsimp only; omega) | (simp <;> omega) | (simp at * <;> omega)))) hp4 (by first | omega | (simp <;> omega) | (simp at * <;> omega)) hg_wm15
    have hkwm15_Q5 := kept_new (w := wb15) (own_below hk14_Q5 (by repeat (first | exact Below.refl _ _ | assumption | refine Below.next_ ?_ ?_ (by assumption) | refine Below.drew ?_ | refine below_drewN ?_ _ | refine Below.alloc ?_ ?_ _ | refine Below.setCell ?_ ?_ _ | omega | (dsimp only; omega) | (simp <;> omega) | (simp at * <;> omega)))) hp4 (by first | omega | (simp <;> omega) | (simp at * <;> omega)) hg_wm15
    replace bkA := bx_old (w := wb15) (Blk.below bkA (by repeat (first | exact Below.refl _ _ | assumption | refine Below.next_ ?_ ?_ (by assumption) | refine Below.drew ?_ | refine below_drewN ?_ _ | refine Below.alloc ?_ ?_ _ | refine Below.setCell ?_ ?_ _ | omega | (dsimp only; omega) | (simp <;> omega) | (simp at * <;> omega)))) (own_below hk14_P4 (by repeat (first | exact Below.refl _ _ | assumption | refine Below.next_ ?_ ?_ (by assumption) | refine Below.drew ?_ | refine below_drewN ?_ _ | refine Below.alloc ?_ ?_ _ | refine Below.setCell ?_ ?_ _ | omega | (dsimp only; omega) | (simp <;> omega) | (simp at * <;> omega)))) (by first | omega | (simp <;> omega) | (simp at * <;> omega)) hg_wm15
    replace bk8 := bx_old (w := wb15) (Blk.below bk8 (by repeat (first | exact Below.refl _ _ | assumption | refine Below.next_ ?_ ?_ (by assumption) | refine Below.drew ?_ | refine below_drewN ?_ _ | refine Below.alloc ?_ ?_ _ | refine Below.setCell ?_ ?_ _ | omega | (dsimp only; omega) | (simp <;> omega) | (simp at * <;> omega)))) (own_below hk14_P4 (by repeat (first | exact Below.refl _ _ | assumption | refine Below.next_ ?_ ?_ (by assumption) | refine Below.drew ?_ | refine below_drewN ?_ _ | refine Below.alloc ?_ ?_ _ | refine Below.setCell ?_ ?_ _ | omega | (dsimp only; omega) | (simp <;> omega) | (simp at * <;> omega)))) (by first | omega | (simp <;> omega) | (simp at * <;> omega)) hg_wm15
    replace bk11 := bx_new (w := wb15) (Blk.below bk11 (by repeat (first | exact Below.refl _ _ | assumption | refine Below.next_ ?_ ?_ (by assumption) | refine Below.drew ?_ | refine below_drewN ?_ _ | refine Below.alloc ?_ ?_ _ | refine Below.setCell ?_ ?_ _ | omega | (dsimp only; omega) | (simp <;> omega) | (simp at * <;> omega)))) hp4 (by first | omega | (simp <;> omega) | (simp at * <;> omega)) hg_wm15
    replace bk13 := bx_new (w := wb15) (Blk.below bk13 (by repeat (first | exact Below.refl _ _ | assumption | refine Below.next_ ?_ ?_ (by assumption) | refine Below.drew ?_ | refine below_drewN ?_ _ | refine Below.alloc ?_ ?_ _ | refine Below.setCell ?_ ?_ _ | omega | (dsimp only; omega) | (simp <;> omega) | (simp at * <;> omega)))) hp4 (by first | omega | (simp <;> omega) | (simp at * <;> omega)) hg_wm15
    have hb_15 : Below w.heap.size w w15 := below_mark (w := wm15) (by repeat (first | exact Below.refl _ _ | assumption | refine Below.next_ ?_ ?_ (by assumption) | refine Below.drew ?_ | refine below_drewN ?_ _ | refine Below.alloc ?_ ?_ _ | refine Below.setCell ?_ ?_ _ | omega | (dsimp only; omega) | (simp <;> omega) | (simp at * <;> omega))) hsm15 (by first | omega | (simp <;> omega) | (simp at * <;> omega)) hg_15
    replace R8 := Rows_.under (w := wm15) (Rows_.below R8 (by repeat (first | exact Below.refl _ _ | assumption | refine Below.next_ ?_ ?_ (by assumption) | refine Below.drew ?_ | refine below_drewN ?_ _ | refine Below.alloc ?_ ?_ _ | refine Below.setCell ?_ ?_ _ | omega | (dsimp only; omega) | (simp <;> omega) | (simp at * <;> omega)))) R80 (own_below hsm15 (by repeat (first | exact Below.refl _ _ | assumption | refine Below.next_ ?_ ?_ (by assumption) | refine Below.drew ?_ | refine below_drewN ?_ _ | refine Below.alloc ?_ ?_ _ | refine Below.setCell ?_ ?_ _ | omega | (dsimp only; omega) | (simp <;> omega) | (simp at * <;> omega)))) (by first | omega | (simp <;> omega) | (simp at * <;> omega)) hg_15
    replace R13 := Rows_.over (w := wm15) (Rows_.below R13 (by repeat (first | exact Below.refl _ _ | assumption | refine Below.next_ ?_ ?_ (by assumption) | refine Below.drew ?_ | refine below_drewN ?_ _ | refine Below.alloc ?_ ?_ _ | refine Below.setCell ?_ ?_ _ | omega | (dsimp only; omega) | (simp <;> omega) | (simp at * <;> omega)))) hs4 (by first | omega | (simp <;> omega) | (simp at * <;> omega)) hg_15
    have hk15_Q5 := kept_new (w := wm15) (own_below hkwm15_Q5 (by repeat (first | exact Below.refl _ _ | assumption | refine Below.next_ ?_ ?_ (by assumption) | refine Below.drew ?_ | refine below_drewN ?_ _ | refine Below.alloc ?_ ?_ _ | refine Below.setCell ?_ ?_ _ | omega | (dsimp only; omega) | (simp <;> omega) | (simp at * <;> omega)))) hs4 (by first | omega | (simp <;> omega) | (simp at * <;> omega)) hg_15
    replace bkA := bx_old (w := wm15) (Blk.below bkA (by repeat (first | exact Below.refl _ _ | assumption | refine Below.next_ ?_ ?_ (by assumption) | refine Below.drew ?_ | refine below_drewN ?_ _ | refine Below.alloc ?_ ?_ _ | refine Below.setCell ?_ ?_ _ | omega | (dsimp only; omega) | (simp <;> omega) | (simp at * <;> omega)))) (own_below hsm15 (by repeat (first | exact Below.refl _ _ | assumption | refine Below.next_ ?_ ?_ (by assumption) | refine Below.drew ?_ | refine below_drewN ?_ _ | refine Below.alloc ?_ ?_ _ | refine Below.setCell ?_ ?_ _ | omega | (dsimp only; omega) | (simp <;> omega) | (simp at * <;> omega)))) (by first | omega | (simp <;> omega) | (simp at * <;> omega)) hg_15
    replace bk8 := bx_old (w := wm15) (Blk.below bk8 (by repeat (first | exact Below.refl _ _ | assumption | refine Below.next_ ?_ ?_ (by assumption) | refine Below.drew ?_ | refine below_drewN ?_ _ | refine Below.alloc ?_ ?_ _ | refine Below.setCell ?_ ?_ _ | omega | (dsimp only; omega) | (simp <;> omega) | (simp at * <;> omega)))) (own_below hsm15 (by repeat (first | exact Below.refl _ _ | assumption | refine Below.next_ ?_ ?_ (by assumption) | refine Below.drew ?_ | refine below_drewN ?_ _ | refine Below.alloc ?_ ?_ _ | refine Below.setCell ?_ ?_ _ | omega | (dsimp only; omega) | (simp <;> omega) | (simp at * <;> omega)))) (by first | omega | (simp <;> omega) | (simp at * <;> omega)) hg_15
    replace bk11 := bx_new (w := wm15) (Blk.below bk11 (by repeat (first | exact Below.refl _ _ | assumption | refine Below.next_ ?_ ?_ (by assumption) | refine Below.drew ?_ | refine below_drewN ?_ _ | refine Below.alloc ?_ ?_ _ | refine Below.setCell ?_ ?_ _ | omega | (dsimp only; omega) | (simp <;> omega) | (simp at * <;> omega)))) hs4 (by first | omega | (simp <;> omega) | (simp at * <;> omega)) hg_15
    replace bk13 := bx_new (w := wm15) (Blk.below bk13 (by repeat (first | exact Below.refl _ _ | assumption | refine Below.next_ ?_ ?_ (by assumption) | refine Below.drew ?_ | refine below_drewN ?_ _ | refine Below.alloc ?_ ?_ _ | refine Below.setCell ?_ ?_ _ | omega | (dsimp only; omega) | (simp <;> omega) | (simp at * <;> omega)))) hs4 (by first | omega | (simp <;> omega) | (simp at * <;> omega)) hg_15
    go_wp2_with fail
    refine (markIntS_any (own_below hk15_Q5 (by repeat (first | exact Below.refl _ _ | assumption | refine Below.next_ ?_ ?_ (by assumption) | refine Below.drew ?_ | refine below_drewN ?_ _ | refine Below.alloc ?_ ?_ _ | refine Below.setCell ?_ ?_ _ | omega | (dsimp only; omega) | (simp <;> omega) | (simp at * <;> omega)))) (by omega) (by omega) (by omega)).mono ?_
    rintro e w16 ⟨rfl, ho16, hg_16⟩
    have hz_16 := hg_16.size
    have hb_16 : Below w.heap.size w w16 := below_mark (w := w15) (by repeat (first | exact Below.refl _ _ | assumption | refine Below.next_ ?_ ?_ (by assumption) | refine Below.drew ?_ | refine below_drewN ?_ _ | refine Below.alloc ?_ ?_ _ | refine Below.setCell ?_ ?_ _ | omega | (dsimp only; omega) | (simp <;> omega) | (simp at * <;> omega))) (own_below hk15_Q5 (by repeat (first | exact Below.refl _ _ | assumption | refine Below.next_ ?_ ?_ (by assumption) | refine Below.drew ?_ | refine below_drewN ?_ _ | refine Below.alloc ?_ ?_ _ | refine Below.setCell ?_ ?_ _ | omega | (dsimp only; omega) | (simp <;> omega) | (simp at * <;> omega)))) (by first | omega | (simp <;> omega) | (simp at * <;> omega)) hg_16
    replace R8 := Rows_.under (w := w15) (Rows_.below R8 (by repeat (first | exact Below.refl _ _ | assumption | refine Below.next_ ?_ ?_ (by assumption) | refine Below.drew ?_ | refine below_drewN ?_ _ | refine Below.alloc ?_ ?_ _ | refine Below.setCell ?_ ?_ _ | omega | (dsimp only; omega) | (simp <;> omega) | (simp at * <;> omega)))) R80 (own_below hk15_Q5 (by repeat (first | exact Below.refl _ _ | assumption | refine Below.next_ ?_ ?_ (by assumption) | refine Below.drew ?_ | refine below_drewN ?_ _ | refine Below.alloc ?_ ?_ _ | refine Below.setCell ?_ ?_ _ | omega | (dsimp only; omega) | (simp <;> omega) | (simp at * <;> omega)))) (by first | omega | (simp <;> omega) | (simp at * <;> omega)) hg_16
    replace R13 := Rows_.over (w := w15) (Rows_.below R13 (by repeat (first | exact Below.refl _ _ | assumption | refine Below.next_ ?_ ?_ (by assumption) | refine Below.drew ?_ | refine below_drewN ?_ _ | refine Below.alloc ?_ ?_ _ | refine Below.setCell ?_ ?_ _ | omega | (dsimp only; omega) | (simp <;> omega) | (simp at * <;> omega)))) ho5 (by first | omega | (simp <;> omega) | (simp at * <;> omega)) hg_16
    replace bkA := bx_old (w := w15) (Blk.below bkA (by repeat (first | exact Below.refl _ _ | assumption | refine Below.next_ ?_ ?_ (by assumption) | refine Below.drew ?_ | refine below_drewN ?_ _ | refine Below.alloc ?_ ?_ _ | refine Below.setCell ?_ ?_ _ | omega | (dsimp only; omega) | (simp <;> omega) | (simp at * <;> omega)))) (own_below hk15_Q5 (by repeat (first | exact Below.refl _ _ | assumption | refine Below.next_ ?_ ?_ (by assumption) | refine Below.drew ?_ | refine below_drewN ?_ _ | refine Below.alloc ?_ ?_ _ | refine Below.setCell ?_ ?_ _ | omega | (dsimp only; omega) | (simp <;> omega) | (simp at * <;> omega)))) (by first | omega | (simp <;> omega) | (simp at * <;> omega)) hg_16
    replace bk8 := bx_old (w := w15) (Blk.below bk8 (by repeat (first | exact Below.refl _ _ | assumption | refine Below.next_ ?_ ?_ (by assumption) | refine Below.drew ?_ | refine below_drewN ?_ _ | refine Below.alloc ?_ ?_ _ | refine Below.setCell ?_ ?_ _ | omega | (dsimp only; omega) | (simp <;> omega) | (simp at * <;> omega)))) (own_below hk15_Q5 (by repeat (first | exact Below.refl _ _ | assumption | refine Below.next_ ?_ ?_ (by assumption) | refine Below.drew ?_ | refine below_drewN ?_ _ | refine Below.alloc ?_ ?_ _ | refine Below.setCell ?_ ?_ _ | omega | (dsimp only; omega) | (simp <;> omega) | (simp at * <;> omega)))) (by first | omega | (simp <;> omega) | (simp at * <;> omega)) hg_16
    replace bk13 := bx_new (w := w15) (Blk.below bk13 (by repeat (first | exact Below.refl _ _ | assumption | refine Below.next_ ?_ ?_ (by assumption) | refine Below.drew ?_ | refine below_drewN ?_ _ | refine Below.alloc ?_ ?_ _ | refine Below.setCell ?_ ?_ _ | omega | (dsimp only; omega) | (simp <;> omega) | (simp at * <;> omega)))) ho5 (by first | omega | (simp <;> omega) | (simp at * <;> omega)) hg_16
    have hkk : ¬ (1 + (n0 : Int) + (n1 : Int) + (m1 : Int) + (n2 : Int)) < 0 := by omega
    obtain ⟨⟨r0, r1, r2, r3, r4, r5⟩, r6, r7, r8, r9, r10, r11⟩ := bk8.six
    obtain ⟨⟨s0, s1, s2, s3, s4, s5⟩, s6, s7, s8, s9, s10, s11⟩ := bk13.six
    go_wp2_with fail
    refine (eqRedacted_any (RdR.below (Rows_.rdr R13 hrl6) (by repeat (first | exact Below.refl _ _ | assumption | refine Below.next_ ?_ ?_ (by assumption) | refine Below.drew ?_ | refine below_drewN ?_ _ | refine Below.alloc ?_ ?_ _ | refine Below.setCell ?_ ?_ _ | omega | (dsimp only; omega) | (simp <;> omega) | (simp at * <;> omega)))) (RdR.below (Rows_.rdr R8 hrl3) (by repeat (first | exact Below.refl _ _ | assumption | refine Below.next_ ?_ ?_ (by assumption) | refine Below.drew ?_ | refine below_drewN ?_ _ | refine Below.alloc ?_ ?_ _ | refine Below.setCell ?_ ?_ _ | omega | (dsimp only; omega) | (simp <;> omega) | (simp at * <;> omega)))) bd6 bd8).mono ?_
    rintro e w17 ⟨rfl, hb_17⟩
    have hz_17 := hb_17.size; (try simp at hz_17)
    clear r0 r1 r2 r3 r4 r5 r6 r7 r8 r9 r10 r11
    clear s0 s1 s2 s3 s4 s5 s6 s7 s8 s9 s10 s11
    replace bkA := Blk.below bkA (w' := w17) (by repeat (first | exact Below.refl _ _ | assumption | refine Below.next_ ?_ ?_ (by assumption) | refine Below.drew ?_ | refine below_drewN ?_ _ | refine Below.alloc ?_ ?_ _ | refine Below.setCell ?_ ?_ _ | omega | (dsimp only; omega) | (simp <;> omega) | (simp at * <;> omega)))
    replace bk8 := Blk.below bk8 (w' := w17) (by repeat (first | exact Below.refl _ _ | assumption | refine Below.next_ ?_ ?_ (by assumption) | refine Below.drew ?_ | refine below_drewN ?_ _ | refine Below.alloc ?_ ?_ _ | refine Below.setCell ?_ ?_ _ | omega | (dsimp only; omega) | (simp <;> omega) | (simp at * <;> omega)))
    replace bk13 := Blk.below bk13 (w' := w17) (by repeat (first | exact Below.refl _ _ | assumption | refine Below.next_ ?_ ?_ (by assumption) | refine Below.drew ?_ | refine below_drewN ?_ _ | refine Below.alloc ?_ ?_ _ | refine Below.setCell ?_ ?_ _ | omega | (dsimp only; omega) | (simp <;> omega) | (simp at * <;> omega)))
    replace R8 := Rows_.below R8 (w' := w17) (by repeat (first | exact Below.refl _ _ | assumption | refine Below.next_ ?_ ?_ (by assumption) | refine Below.drew ?_ | refine below_drewN ?_ _ | refine Below.alloc ?_ ?_ _ | refine Below.setCell ?_ ?_ _ | omega | (dsimp only; omega) | (simp <;> omega) | (simp at * <;> omega)))
    replace R13 := Rows_.below R13 (w' := w17) (by repeat (first | exact Below.refl _ _ | assumption | refine Below.next_ ?_ ?_ (by assumption) | refine Below.drew ?_ | refine below_drewN ?_ _ | refine Below.alloc ?_ ?_ _ | refine Below.setCell ?_ ?_ _ | omega | (dsimp only; omega) | (simp <;> omega) | (simp at * <;> omega)))
    have hbw_17 : Below w.heap.size w w17 := by repeat (first | exact Below.refl _ _ | assumption | refine Below.next_ ?_ ?_ (by assumption) | refine Below.drew ?_ | refine below_drewN ?_ _ | refine Below.alloc ?_ ?_ _ | refine Below.setCell ?_ ?_ _ | omega | (dsimp only; omega) | (simp <;> omega) | (simp at * <;> omega))
    obtain ⟨hn1_, hn2_, hn3_, hn4_, hn5_, _⟩ := bd6
    have bd6 : BdR 1099511627776 nm6 nb6 np6 ns6 nd6 X.ds := ⟨hn1_, hn2_, hn3_, hn4_, hn5_, by assumption⟩
    obtain ⟨⟨s0, s1, s2, s3, s4, s5⟩, s6, s7, s8, s9, s10, s11⟩ := bk13.six
    go_wp2_with fail
    refine (markRedacted_any R13 bk13.lt (by omega) hrl6 (by omega) (by omega) (by omega) (by omega) (by omega) (by omega) (by omega) hss6).mono ?_
    rintro e w18 ⟨rfl, R13m, hb_18, hsa⟩
    clear s0 s1 s2 s3 s4 s5 s6 s7 s8 s9 s10 s11
    have hz_18 := hb_18.size
    have hb_w18 : Below w.heap.size w w18 := hbw_17.trans (hb_18.mono (by omega))
    replace R8 := R8.lowb R80 (by omega) hb_18
    replace bk13 := bk13.same hsa
    replace bkA : Blk w18 w.heap.size [.int .i64 t1, .slice P1 n1 c1, .slice S1 m1 d1] := fun i u hu => ⟨(hb_18.cell (p := ⟨w.heap.size, i, none⟩) (by show w.heap.size < w5.heap.size; omega)).trans (bkA i u hu).1, (hb_18.frozen (p := ⟨w.heap.size, i, none⟩) (by show w.heap.size < w5.heap.size; omega)).trans (bkA i u hu).2⟩
    replace bk8 : Blk w18 bx8 [.int .i64 X.t, .slice M3 nm3 cm3, .slice B3 nb3 cb3, .slice P3 np3 cp3, .slice S3 ns3 cs3, .slice D3 nd3 cd3] := fun i u hu => ⟨(hb_18.cell (p := ⟨bx8, i, none⟩) (by show bx8 < w5.heap.size; omega)).trans (bk8 i u hu).1, (hb_18.frozen (p := ⟨bx8, i, none⟩) (by show bx8 < w5.heap.size; omega)).trans (bk8 i u hu).2⟩
    clear R13
    have hrm := Rows_.rdr R13m (by rw [mkSS_len]; simp [lens])
    have hk9 : ¬ (1 + (nm6 : Int) + (nb6 : Int) + (np6 : Int) + (ns6 : Int) + ((lens rs6).sum : Nat)) < 0 := by omega
    obtain ⟨⟨s0, s1, s2, s3, s4, s5⟩, s6, s7, s8, s9, s10, s11⟩ := bk13.six
    go_wp2_with fail
    refine (heldRedacted_any (RdR.below hrm (by repeat (first | exact Below.refl _ _ | assumption | refine Below.next_ ?_ ?_ (by assumption) | refine Below.drew ?_ | refine below_drewN ?_ _ | refine Below.alloc ?_ ?_ _ | refine Below.setCell ?_ ?_ _ | omega | (dsimp only; omega) | (simp <;> omega) | (simp at * <;> omega)))) (by omega) (by omega) (by omega) (by omega) (by omega) (by omega) (by omega) hss6).mono ?_
    rintro e w19 ⟨rfl, hb_19⟩
    have hz_19 := hb_19.size; (try simp at hz_19)
    clear s0 s1 s2 s3 s4 s5 s6 s7 s8 s9 s10 s11
    replace bkA := Blk.below bkA (w' := w19) (by repeat (first | exact Below.refl _ _ | assumption | refine Below.next_ ?_ ?_ (by assumption) | refine Below.drew ?_ | refine below_drewN ?_ _ | refine Below.alloc ?_ ?_ _ | refine Below.setCell ?_ ?_ _ | omega | (dsimp only; omega) | (simp <;> omega) | (simp at * <;> omega)))
    replace bk8 := Blk.below bk8 (w' := w19) (by repeat (first | exact Below.refl _ _ | assumption | refine Below.next_ ?_ ?_ (by assumption) | refine Below.drew ?_ | refine below_drewN ?_ _ | refine Below.alloc ?_ ?_ _ | refine Below.setCell ?_ ?_ _ | omega | (dsimp only; omega) | (simp <;> omega) | (simp at * <;> omega)))
    replace bk13 := Blk.below bk13 (w' := w19) (by repeat (first | exact Below.refl _ _ | assumption | refine Below.next_ ?_ ?_ (by assumption) | refine Below.drew ?_ | refine below_drewN ?_ _ | refine Below.alloc ?_ ?_ _ | refine Below.setCell ?_ ?_ _ | omega | (dsimp only; omega) | (simp <;> omega) | (simp at * <;> omega)))
    replace R8 := Rows_.below R8 (w' := w19) (by repeat (first | exact Below.refl _ _ | assumption | refine Below.next_ ?_ ?_ (by assumption) | refine Below.drew ?_ | refine below_drewN ?_ _ | refine Below.alloc ?_ ?_ _ | refine Below.setCell ?_ ?_ _ | omega | (dsimp only; omega) | (simp <;> omega) | (simp at * <;> omega)))
    have hbw_19 : Below w.heap.size w w19 := by repeat (first | exact Below.refl _ _ | assumption | refine Below.next_ ?_ ?_ (by assumption) | refine Below.drew ?_ | refine below_drewN ?_ _ | refine Below.alloc ?_ ?_ _ | refine Below.setCell ?_ ?_ _ | omega | (dsimp only; omega) | (simp <;> omega) | (simp at * <;> omega))
    obtain ⟨⟨a0, a1, a2⟩, a3, a4, a5⟩ := bkA.three
    go_upto_region 36 with fail
    go_cut [18, 19] from 111 to 120 (fun pv bv wx => ∃ (bx : Nat) (M20 B20 P20 S20 D20 : Option Addr) (nm20 nb20 np20 ns20 nd20 cm20 cb20 cp20 cs20 cd20 : Nat) (rs20 : List Sr), pv = .pointer (some ⟨bx, 0, none⟩) ∧ bv = .bool ok ∧ rs20.length = X.ds.length ∧ Rows_ wx w19.heap.size bx ([⟨3, M20, nm20, cm20, ints X.ms⟩, ⟨4, B20, nb20, cb20, bls X.bs⟩, ⟨9, P20, np20, cp20, sts X.ps⟩, ⟨3, S20, ns20, cs20, ints X.ss⟩, ⟨24, D20, nd20, cd20, srs rs20⟩] ++ inn rs20 X.ds) ∧ Blk wx bx [.int .i64 X.t, .slice M20 nm20 cm20, .slice B20 nb20 cb20, .slice P20 np20 cp20, .slice S20 ns20 cs20, .slice D20 nd20 cd20] ∧ w19.heap.size ≤ bx ∧ Below w19.heap.size w19 wx)
    case first =>
      refine wp_region_upto (S := (fun w' => w'.cell? ⟨w.heap.size, 0, none⟩ = some (.int .i64 t1) ∧ w'.cell? ⟨w.heap.size, 1, none⟩ = some (.slice P1 n1 c1) ∧ w'.cell? ⟨w.heap.size, 2, none⟩ = some (.slice S1 m1 d1))) 12 (by kernel_rfl) ?_ ?_
      · exact keep3 (W := w19) ((Below.refl _ _).drew) a0 a1 a2
      obtain ⟨w36_1, hw_⟩ : ∃ x, w19.drew = x := ⟨_, rfl⟩
      have BB36_1 : Below w19.heap.size w19 w36_1 := by rw [← hw_]; exact (Below.refl _ _).drew
      rw [hw_]
      intro hHeld
      clear hw_
      refine upto_take (i := 0) (v := ?v19) rfl (by kernel_rfl) (by kernel_rfl) (by kernel_rfl) (by kernel_rfl) (fun _ _ _ h => h) hHeld ?hy19 (by rfl) ?rest19
      case hy19 => (intro w' hSw; (try dsimp only at hSw); go_simp; (try with_reducible rfl))
      (try simp only [Act.put, List.setIfInBounds_toArray, List.set_cons_zero, List.set_cons_succ])
      refine upto_take (i := 2) (v := ?v20) rfl (by kernel_rfl) (by kernel_rfl) (by kernel_rfl) (by kernel_rfl) (fun _ _ _ h => h) hHeld ?hy20 (by rfl) ?rest20
      case hy20 => (intro w' hSw; (try dsimp only at hSw); go_simp; (try with_reducible rfl))
      (try simp only [Act.put, List.setIfInBounds_toArray, List.set_cons_zero, List.set_cons_succ])
      refine upto_take (i := 4) (v := ?v21) rfl (by kernel_rfl) (by kernel_rfl) (by kernel_rfl) (by kernel_rfl) (fun _ _ _ h => h) hHeld ?hy21 (by rfl) ?rest21
      case hy21 => (intro w' hSw; (try dsimp only at hSw); go_simp; (try with_reducible rfl))
      (try simp only [Act.put, List.setIfInBounds_toArray, List.set_cons_zero, List.set_cons_succ])
      clear hHeld
      refine upto_step2 (k1 := 1) (k2 := 10) (by kernel_rfl) rfl rfl (fun K hK => ?_) (fun K hK => ?_)
      · go_simp
        (go_at_call 26; refine (toIntS_any (hr0.below (by repeat (first | exact Below.refl _ _ | assumption | refine Below.next_ ?_ ?_ (by assumption) | refine Below.drew ?_ | refine below_drewN ?_ _ | refine Below.alloc ?_ ?_ _ | refine Below.setCell ?_ ?_ _ | omega | (dsimp only; omega) | (simp <;> omega) | (simp at * <;> omega)))) (by omega)).mono ?_; rintro e w36_2 ⟨QA2, qA2, rfl, ho2, hbb2⟩)
        go_wp2_with fail
        have hrA2 := Rd.of_own ho2
        have BB36_2 := Below.next_ BB36_1 BB36_1.size hbb2
        refine hK.out _ _ ?_ ?_
        · (intro _; exact keep3 (W := w19) (BB36_2) a0 a1 a2)
        clear hK K
        (try simp only [Act.put, List.setIfInBounds_toArray, List.set_cons_zero, List.set_cons_succ])
        refine upto_step2 (k1 := 3) (k2 := 10) (by kernel_rfl) rfl rfl (fun K hK => ?_) (fun K hK => ?_)
        · go_simp
          (go_at_call 27; refine (toDocument_any (hP1.below (by repeat (first | exact Below.refl _ _ | assumption | refine Below.next_ ?_ ?_ (by assumption) | refine Below.drew ?_ | refine below_drewN ?_ _ | refine Below.alloc ?_ ?_ _ | refine Below.setCell ?_ ?_ _ | omega | (dsimp only; omega) | (simp <;> omega) | (simp at * <;> omega)))) (hS1.below (by repeat (first | exact Below.refl _ _ | assumption | refine Below.next_ ?_ ?_ (by assumption) | refine Below.drew ?_ | refine below_drewN ?_ _ | refine Below.alloc ?_ ?_ _ | refine Below.setCell ?_ ?_ _ | omega | (dsimp only; omega) | (simp <;> omega) | (simp at * <;> omega)))) (by omega) (by omega)).mono ?_; rintro e w36_3 ⟨QP3, QS3, qP3, qS3, rfl, hp3, hs3, hx3, hbb3⟩)
          go_wp2_with fail
          have hrP3 := Rd.of_own hp3
          have hrS3 := Rd.of_own hs3
          have BB36_3 := Below.next_ BB36_2 BB36_2.size hbb3
          refine hK.out _ _ ?_ ?_
          · (intro _; exact keep3 (W := w19) (BB36_3) a0 a1 a2)
          clear hK K
          (try simp only [Act.put, List.setIfInBounds_toArray, List.set_cons_zero, List.set_cons_succ])
          refine upto_step2 (k1 := 5) (k2 := 10) (by kernel_rfl) rfl rfl (fun K hK => ?_) (fun K hK => ?_)
          · go_simp
            (go_at_call 26; refine (toIntS_any (hr2.below (by repeat (first | exact Below.refl _ _ | assumption | refine Below.next_ ?_ ?_ (by assumption) | refine Below.drew ?_ | refine below_drewN ?_ _ | refine Below.alloc ?_ ?_ _ | refine Below.setCell ?_ ?_ _ | omega | (dsimp only; omega) | (simp <;> omega) | (simp at * <;> omega)))) (by omega)).mono ?_; rintro e w36_4 ⟨QC4, qC4, rfl, ho4, hbb4⟩)
            go_wp2_with fail
            have hrC4 := Rd.of_own ho4
            have BB36_4 := Below.next_ BB36_3 BB36_3.size hbb4
            refine hK.out _ _ ?_ ?_
            · (intro _; exact keep3 (W := w19) (BB36_4) a0 a1 a2)
            clear hK K
            (try simp only [Act.put, List.setIfInBounds_toArray, List.set_cons_zero, List.set_cons_succ])
            refine upto_step2 (k1 := 6) (k2 := 10) (by kernel_rfl) rfl rfl (fun K hK => ?_) (fun K hK => ?_)
            · go_simp
              (go_at_call 15; refine (implRedactDocument_any ((hrA2.below hbb3).below hbb4) (hrP3.below hbb4) (hrS3.below hbb4) hrC4 (by omega) (by omega) (by omega) (by omega) hI0).mono ?_; intro e w36_5 hout; rw [hXe.out, hok.out] at hout; obtain ⟨M5, B5, P5, S5, D5, nm5, nb5, np5, ns5, nd5, cm5, cb5, cp5, cs5, cd5, rs5, kx5, rfl, hrl5, hR5, hbb5⟩ := hout)
              go_wp2_with fail
              have BB36_5 := Below.next_ BB36_4 BB36_4.size hbb5
              refine hK.out _ _ ?_ ?_
              · (intro _; exact keep3 (W := w19) (BB36_5) a0 a1 a2)
              clear hK K
              (try simp only [Act.put, List.setIfInBounds_toArray, List.set_cons_zero, List.set_cons_succ])
              have hHeld : ((fun w' => w'.cell? ⟨w.heap.size, 0, none⟩ = some (.int .i64 t1) ∧ w'.cell? ⟨w.heap.size, 1, none⟩ = some (.slice P1 n1 c1) ∧ w'.cell? ⟨w.heap.size, 2, none⟩ = some (.slice S1 m1 d1))) w36_5 := by exact keep3 (W := w19) (BB36_5) a0 a1 a2
              refine upto_take (i := 7) (v := ?v22) rfl (by kernel_rfl) (by kernel_rfl) (by kernel_rfl) (by kernel_rfl) (fun _ _ _ h => h) hHeld ?hy22 (by rfl) ?rest22
              case hy22 => (intro w' hSw; (try dsimp only at hSw); go_simp; (try with_reducible rfl))
              (try simp only [Act.put, List.setIfInBounds_toArray, List.set_cons_zero, List.set_cons_succ])
              refine upto_take (i := 8) (v := ?v23) rfl (by kernel_rfl) (by kernel_rfl) (by kernel_rfl) (by kernel_rfl) (fun _ _ _ h => h) hHeld ?hy23 (by rfl) ?rest23
              case hy23 => (intro w' hSw; (try dsimp only at hSw); go_simp; (try with_reducible rfl))
              (try simp only [Act.put, List.setIfInBounds_toArray, List.set_cons_zero, List.set_cons_succ])
              refine upto_take (i := 9) (v := ?v24) rfl (by kernel_rfl) (by kernel_rfl) (by kernel_rfl) (by kernel_rfl) (fun _ _ _ h => h) hHeld ?hy24 (by rfl) ?rest24
              case hy24 => (intro w' hSw; (try dsimp only at hSw); go_simp; (try with_reducible rfl))
              (try simp only [Act.put, List.setIfInBounds_toArray, List.set_cons_zero, List.set_cons_succ])
              clear hHeld
              refine upto_step (k := 10) (by kernel_rfl) rfl (fun K hK => ?_)
              go_simp
              obtain ⟨w36_6, hw_⟩ : ∃ x, w36_5.alloc (.cells #[.int .i64 0, .slice none 0 0, .slice none 0 0, .slice none 0 0, .slice none 0 0, .slice none 0 0] 33) = x := ⟨_, rfl⟩
              have hbb6 : Below w36_5.heap.size w36_5 w36_6 := by rw [← hw_]; exact (Below.refl _ _).alloc (Nat.le_refl _) _
              have BX6 : Blk w36_6 w36_5.heap.size [.int .i64 0, .slice none 0 0, .slice none 0 0, .slice none 0 0, .slice none 0 0, .slice none 0 0] := by rw [← hw_]; exact Blk.new _ _ _
              rw [hw_]
              clear hw_
              have hlo6 : w19.heap.size ≤ w36_5.heap.size := BB36_5.size
              have BB36_6 := Below.next_ BB36_5 BB36_5.size hbb6
              have hRn6 := (hR5.rek (Nat.le_refl _)).below hbb6
              refine hK.out _ _ ?_ ?_
              · (intro _; exact keep3 (W := w19) (BB36_6) a0 a1 a2)
              clear hK K
              (try simp only [Act.put, List.setIfInBounds_toArray, List.set_cons_zero, List.set_cons_succ])
              obtain ⟨⟨y0, y1, y2, y3, y4, y5⟩, g0, g1, g2, g3, g4, g5⟩ := BX6.six
              refine upto_step (k := 11) (by kernel_rfl) rfl (fun K hK => ?_)
              go_simp
              have RS := ((((((hRn6).set (j := 0) (.int .i64 X.t)).set (j := 1) (.slice M5 nm5 cm5)).set (j := 2) (.slice B5 nb5 cb5)).set (j := 3) (.slice P5 np5 cp5)).set (j := 4) (.slice S5 ns5 cs5)).set (j := 5) (.slice D5 nd5 cd5)
              have BS : Blk _ w36_5.heap.size [.int .i64 X.t, .slice M5 nm5 cm5, .slice B5 nb5 cb5, .slice P5 np5 cp5, .slice S5 ns5 cs5, .slice D5 nd5 cd5] := ((((((BX6).set 0 (.int .i64 X.t)).set 1 (.slice M5 nm5 cm5)).set 2 (.slice B5 nb5 cb5)).set 3 (.slice P5 np5 cp5)).set 4 (.slice S5 ns5 cs5)).set 5 (.slice D5 nd5 cd5)
              have LS := ((((((BB36_6).setCell (p := ⟨w36_5.heap.size, 0, none⟩) hlo6 (.int .i64 X.t)).setCell (p := ⟨w36_5.heap.size, 1, none⟩) hlo6 (.slice M5 nm5 cm5)).setCell (p := ⟨w36_5.heap.size, 2, none⟩) hlo6 (.slice B5 nb5 cb5)).setCell (p := ⟨w36_5.heap.size, 3, none⟩) hlo6 (.slice P5 np5 cp5)).setCell (p := ⟨w36_5.heap.size, 4, none⟩) hlo6 (.slice S5 ns5 cs5)).setCell (p := ⟨w36_5.heap.size, 5, none⟩) hlo6 (.slice D5 nd5 cd5)
              obtain ⟨w36_7, hw_⟩ : ∃ x, ((((((w36_6).setCell ⟨w36_5.heap.size, 0, none⟩ (.int .i64 X.t)).setCell ⟨w36_5.heap.size, 1, none⟩ (.slice M5 nm5 cm5)).setCell ⟨w36_5.heap.size, 2, none⟩ (.slice B5 nb5 cb5)).setCell ⟨w36_5.heap.size, 3, none⟩ (.slice P5 np5 cp5)).setCell ⟨w36_5.heap.size, 4, none⟩ (.slice S5 ns5 cs5)).setCell ⟨w36_5.heap.size, 5, none⟩ (.slice D5 nd5 cd5) = x := ⟨_, rfl⟩
              rw [hw_] at RS BS LS ⊢
              have BB36_7 := LS
              clear hw_ y0 y1 y2 y3 y4 y5 g0 g1 g2 g3 g4 g5
              refine hK.out _ _ ?_ ?_
              · (intro _; exact keep3 (W := w19) (BB36_7) a0 a1 a2)
              clear hK K
              (try simp only [Act.put, List.setIfInBounds_toArray, List.set_cons_zero, List.set_cons_succ])
              refine upto_step (k := 12) (by kernel_rfl) rfl (fun K hK => ?_)
              go_simp
              refine hK.out _ _ ?_ ?_
              · (intro h; exact absurd rfl h)
              clear hK K
              (try simp only [Act.put, List.setIfInBounds_toArray, List.set_cons_zero, List.set_cons_succ])
              refine upto_done (by kernel_rfl) ?_ _
              go_wp2_with fail
              go_meet
              exact ⟨w36_5.heap.size, M5, B5, P5, S5, D5, nm5, nb5, np5, ns5, nd5, cm5, cb5, cp5, cs5, cd5, rs5, rfl, rfl, hrl5, RS.base BB36_4.size, BS, hlo6, LS⟩
            · go_simp
              obtain ⟨w36_8, hw_⟩ : ∃ x, w36_4.alloc (.cells #[.int .i64 0, .slice none 0 0, .slice none 0 0, .slice none 0 0, .slice none 0 0, .slice none 0 0] 33) = x := ⟨_, rfl⟩
              have hbb8 : Below w36_4.heap.size w36_4 w36_8 := by rw [← hw_]; exact (Below.refl _ _).alloc (Nat.le_refl _) _
              have BX8 : Blk w36_8 w36_4.heap.size [.int .i64 0, .slice none 0 0, .slice none 0 0, .slice none 0 0, .slice none 0 0, .slice none 0 0] := by rw [← hw_]; exact Blk.new _ _ _
              rw [hw_]
              clear hw_
              have hlo8 : w19.heap.size ≤ w36_4.heap.size := BB36_4.size
              have BB36_8 := Below.next_ BB36_4 BB36_4.size hbb8
              refine hK.out _ _ ?_ ?_
              · (intro _; exact keep3 (W := w19) (BB36_8) a0 a1 a2)
              clear hK K
              (try simp only [Act.put, List.setIfInBounds_toArray, List.set_cons_zero, List.set_cons_succ])
              refine upto_step (k := 6) (by kernel_rfl) rfl (fun K hK => ?_)
              go_simp
              (go_at_call 15; refine (implRedactDocument_any (((hrA2.below hbb3).below hbb4).below hbb8) ((hrP3.below hbb4).below hbb8) ((hrS3.below hbb4).below hbb8) (hrC4.below hbb8) (by omega) (by omega) (by omega) (by omega) hI0).mono ?_; intro e w36_9 hout; rw [hXe.out, hok.out] at hout; obtain ⟨M9, B9, P9, S9, D9, nm9, nb9, np9, ns9, nd9, cm9, cb9, cp9, cs9, cd9, rs9, kx9, rfl, hrl9, hR9, hbb9⟩ := hout)
              go_wp2_with fail
              have BB36_9 := Below.next_ BB36_8 BB36_8.size hbb9
              have BX9 := BX8.below hbb9
              have hRn9 := hR9.low (k2 := w36_4.heap.size) BX8.lt
              refine hK.out _ _ ?_ ?_
              · (intro _; exact keep3 (W := w19) (BB36_9) a0 a1 a2)
              clear hK K
              (try simp only [Act.put, List.setIfInBounds_toArray, List.set_cons_zero, List.set_cons_succ])
              have hHeld : ((fun w' => w'.cell? ⟨w.heap.size, 0, none⟩ = some (.int .i64 t1) ∧ w'.cell? ⟨w.heap.size, 1, none⟩ = some (.slice P1 n1 c1) ∧ w'.cell? ⟨w.heap.size, 2, none⟩ = some (.slice S1 m1 d1))) w36_9 := by exact keep3 (W := w19) (BB36_9) a0 a1 a2
              refine upto_take (i := 7) (v := ?v25) rfl (by kernel_rfl) (by kernel_rfl) (by kernel_rfl) (by kernel_rfl) (fun _ _ _ h => h) hHeld ?hy25 (by rfl) ?rest25
              case hy25 => (intro w' hSw; (try dsimp only at hSw); go_simp; (try with_reducible rfl))
              (try simp only [Act.put, List.setIfInBounds_toArray, List.set_cons_zero, List.set_cons_succ])
              refine upto_take (i := 8) (v := ?v26) rfl (by kernel_rfl) (by kernel_rfl) (by kernel_rfl) (by kernel_rfl) (fun _ _ _ h => h) hHeld ?hy26 (by rfl) ?rest26
              case hy26 => (intro w' hSw; (try dsimp only at hSw); go_simp; (try with_reducible rfl))
              (try simp only [Act.put, List.setIfInBounds_toArray, List.set_cons_zero, List.set_cons_succ])
              refine upto_take (i := 9) (v := ?v27) rfl (by kernel_rfl) (by kernel_rfl) (by kernel_rfl) (by kernel_rfl) (fun _ _ _ h => h) hHeld ?hy27 (by rfl) ?rest27
              case hy27 => (intro w' hSw; (try dsimp only at hSw); go_simp; (try with_reducible rfl))
              (try simp only [Act.put, List.setIfInBounds_toArray, List.set_cons_zero, List.set_cons_succ])
              clear hHeld
              obtain ⟨⟨y0, y1, y2, y3, y4, y5⟩, g0, g1, g2, g3, g4, g5⟩ := BX9.six
              refine upto_step (k := 11) (by kernel_rfl) rfl (fun K hK => ?_)
              go_simp
              have RS := ((((((hRn9).set (j := 0) (.int .i64 X.t)).set (j := 1) (.slice M9 nm9 cm9)).set (j := 2) (.slice B9 nb9 cb9)).set (j := 3) (.slice P9 np9 cp9)).set (j := 4) (.slice S9 ns9 cs9)).set (j := 5) (.slice D9 nd9 cd9)
              have BS : Blk _ w36_4.heap.size [.int .i64 X.t, .slice M9 nm9 cm9, .slice B9 nb9 cb9, .slice P9 np9 cp9, .slice S9 ns9 cs9, .slice D9 nd9 cd9] := ((((((BX9).set 0 (.int .i64 X.t)).set 1 (.slice M9 nm9 cm9)).set 2 (.slice B9 nb9 cb9)).set 3 (.slice P9 np9 cp9)).set 4 (.slice S9 ns9 cs9)).set 5 (.slice D9 nd9 cd9)
              have LS := ((((((BB36_9).setCell (p := ⟨w36_4.heap.size, 0, none⟩) hlo8 (.int .i64 X.t)).setCell (p := ⟨w36_4.heap.size, 1, none⟩) hlo8 (.slice M9 nm9 cm9)).setCell (p := ⟨w36_4.heap.size, 2, none⟩) hlo8 (.slice B9 nb9 cb9)).setCell (p := ⟨w36_4.heap.size, 3, none⟩) hlo8 (.slice P9 np9 cp9)).setCell (p := ⟨w36_4.heap.size, 4, none⟩) hlo8 (.slice S9 ns9 cs9)).setCell (p := ⟨w36_4.heap.size, 5, none⟩) hlo8 (.slice D9 nd9 cd9)
              obtain ⟨w36_10, hw_⟩ : ∃ x, ((((((w36_9).setCell ⟨w36_4.heap.size, 0, none⟩ (.int .i64 X.t)).setCell ⟨w36_4.heap.size, 1, none⟩ (.slice M9 nm9 cm9)).setCell ⟨w36_4.heap.size, 2, none⟩ (.slice B9 nb9 cb9)).setCell ⟨w36_4.heap.size, 3, none⟩ (.slice P9 np9 cp9)).setCell ⟨w36_4.heap.size, 4, none⟩ (.slice S9 ns9 cs9)).setCell ⟨w36_4.heap.size, 5, none⟩ (.slice D9 nd9 cd9) = x := ⟨_, rfl⟩
              rw [hw_] at RS BS LS ⊢
              have BB36_10 := LS
              clear hw_ y0 y1 y2 y3 y4 y5 g0 g1 g2 g3 g4 g5
              refine hK.out _ _ ?_ ?_
              · (intro _; exact keep3 (W := w19) (BB36_10) a0 a1 a2)
              clear hK K
              (try simp only [Act.put, List.setIfInBounds_toArray, List.set_cons_zero, List.set_cons_succ])
              refine upto_step (k := 12) (by kernel_rfl) rfl (fun K hK => ?_)
              go_simp
              refine hK.out _ _ ?_ ?_
              · (intro h; exact absurd rfl h)
              clear hK K
              (try simp only [Act.put, List.setIfInBounds_toArray, List.set_cons_zero, List.set_cons_succ])
              refine upto_done (by kernel_rfl) ?_ _
              go_wp2_with fail
              go_meet
              exact ⟨w36_4.heap.size, M9, B9, P9, S9, D9, nm9, nb9, np9, ns9, nd9, cm9, cb9, cp9, cs9, cd9, rs9, rfl, rfl, hrl9, RS.base BB36_8.size, BS, hlo8, LS⟩
          · go_simp
            obtain ⟨w36_11, hw_⟩ : ∃ x, w36_3.alloc (.cells #[.int .i64 0, .slice none 0 0, .slice none 0 0, .slice none 0 0, .slice none 0 0, .slice none 0 0] 33) = x := ⟨_, rfl⟩
            have hbb11 : Below w36_3.heap.size w36_3 w36_11 := by rw [← hw_]; exact (Below.refl _ _).alloc (Nat.le_refl _) _
            have BX11 : Blk w36_11 w36_3.heap.size [.int .i64 0, .slice none 0 0, .slice none 0 0, .slice none 0 0, .slice none 0 0, .slice none 0 0] := by rw [← hw_]; exact Blk.new _ _ _
            rw [hw_]
            clear hw_
            have hlo11 : w19.heap.size ≤ w36_3.heap.size := BB36_3.size
            have BB36_11 := Below.next_ BB36_3 BB36_3.size hbb11
            refine hK.out _ _ ?_ ?_
            · (intro _; exact keep3 (W := w19) (BB36_11) a0 a1 a2)
            clear hK K
            (try simp only [Act.put, List.setIfInBounds_toArray, List.set_cons_zero, List.set_cons_succ])
            refine upto_step (k := 5) (by kernel_rfl) rfl (fun K hK => ?_)
            go_simp
            (go_at_call 26; refine (toIntS_any (hr2.below (by repeat (first | exact Below.refl _ _ | assumption | refine Below.next_ ?_ ?_ (by assumption) | refine Below.drew ?_ | refine below_drewN ?_ _ | refine Below.alloc ?_ ?_ _ | refine Below.setCell ?_ ?_ _ | omega | (dsimp only; omega) | (simp <;> omega) | (simp at * <;> omega)))) (by omega)).mono ?_; rintro e w36_12 ⟨QC12, qC12, rfl, ho12, hbb12⟩)
            go_wp2_with fail
            have hrC12 := Rd.of_own ho12
            have BB36_12 := Below.next_ BB36_11 BB36_11.size hbb12
            have BX12 := BX11.below hbb12
            refine hK.out _ _ ?_ ?_
            · (intro _; exact keep3 (W := w19) (BB36_12) a0 a1 a2)
            clear hK K
            (try simp only [Act.put, List.setIfInBounds_toArray, List.set_cons_zero, List.set_cons_succ])
            refine upto_step (k := 6) (by kernel_rfl) rfl (fun K hK => ?_)
            go_simp
            (go_at_call 15; refine (implRedactDocument_any (((hrA2.below hbb3).below hbb11).below hbb12) ((hrP3.below hbb11).below hbb12) ((hrS3.below hbb11).below hbb12) hrC12 (by omega) (by omega) (by omega) (by omega) hI0).mono ?_; intro e w36_13 hout; rw [hXe.out, hok.out] at hout; obtain ⟨M13, B13, P13, S13, D13, nm13, nb13, np13, ns13, nd13, cm13, cb13, cp13, cs13, cd13, rs13, kx13, rfl, hrl13, hR13, hbb13⟩ := hout)
            go_wp2_with fail
            have BB36_13 := Below.next_ BB36_12 BB36_12.size hbb13
            have BX13 := BX12.below hbb13
            have hRn13 := hR13.low (k2 := w36_3.heap.size) BX12.lt
            refine hK.out _ _ ?_ ?_
            · (intro _; exact keep3 (W := w19) (BB36_13) a0 a1 a2)
            clear hK K
            (try simp only [Act.put, List.setIfInBounds_toArray, List.set_cons_zero, List.set_cons_succ])
            have hHeld : ((fun w' => w'.cell? ⟨w.heap.size, 0, none⟩ = some (.int .i64 t1) ∧ w'.cell? ⟨w.heap.size, 1, none⟩ = some (.slice P1 n1 c1) ∧ w'.cell? ⟨w.heap.size, 2, none⟩ = some (.slice S1 m1 d1))) w36_13 := by exact keep3 (W := w19) (BB36_13) a0 a1 a2
            refine upto_take (i := 7) (v := ?v28) rfl (by kernel_rfl) (by kernel_rfl) (by kernel_rfl) (by kernel_rfl) (fun _ _ _ h => h) hHeld ?hy28 (by rfl) ?rest28
            case hy28 => (intro w' hSw; (try dsimp only at hSw); go_simp; (try with_reducible rfl))
            (try simp only [Act.put, List.setIfInBounds_toArray, List.set_cons_zero, List.set_cons_succ])
            refine upto_take (i := 8) (v := ?v29) rfl (by kernel_rfl) (by kernel_rfl) (by kernel_rfl) (by kernel_rfl) (fun _ _ _ h => h) hHeld ?hy29 (by rfl) ?rest29
            case hy29 => (intro w' hSw; (try dsimp only at hSw); go_simp; (try with_reducible rfl))
            (try simp only [Act.put, List.setIfInBounds_toArray, List.set_cons_zero, List.set_cons_succ])
            refine upto_take (i := 9) (v := ?v30) rfl (by kernel_rfl) (by kernel_rfl) (by kernel_rfl) (by kernel_rfl) (fun _ _ _ h => h) hHeld ?hy30 (by rfl) ?rest30
            case hy30 => (intro w' hSw; (try dsimp only at hSw); go_simp; (try with_reducible rfl))
            (try simp only [Act.put, List.setIfInBounds_toArray, List.set_cons_zero, List.set_cons_succ])
            clear hHeld
            obtain ⟨⟨y0, y1, y2, y3, y4, y5⟩, g0, g1, g2, g3, g4, g5⟩ := BX13.six
            refine upto_step (k := 11) (by kernel_rfl) rfl (fun K hK => ?_)
            go_simp
            have RS := ((((((hRn13).set (j := 0) (.int .i64 X.t)).set (j := 1) (.slice M13 nm13 cm13)).set (j := 2) (.slice B13 nb13 cb13)).set (j := 3) (.slice P13 np13 cp13)).set (j := 4) (.slice S13 ns13 cs13)).set (j := 5) (.slice D13 nd13 cd13)
            have BS : Blk _ w36_3.heap.size [.int .i64 X.t, .slice M13 nm13 cm13, .slice B13 nb13 cb13, .slice P13 np13 cp13, .slice S13 ns13 cs13, .slice D13 nd13 cd13] := ((((((BX13).set 0 (.int .i64 X.t)).set 1 (.slice M13 nm13 cm13)).set 2 (.slice B13 nb13 cb13)).set 3 (.slice P13 np13 cp13)).set 4 (.slice S13 ns13 cs13)).set 5 (.slice D13 nd13 cd13)
            have LS := ((((((BB36_13).setCell (p := ⟨w36_3.heap.size, 0, none⟩) hlo11 (.int .i64 X.t)).setCell (p := ⟨w36_3.heap.size, 1, none⟩) hlo11 (.slice M13 nm13 cm13)).setCell (p := ⟨w36_3.heap.size, 2, none⟩) hlo11 (.slice B13 nb13 cb13)).setCell (p := ⟨w36_3.heap.size, 3, none⟩) hlo11 (.slice P13 np13 cp13)).setCell (p := ⟨w36_3.heap.size, 4, none⟩) hlo11 (.slice S13 ns13 cs13)).setCell (p := ⟨w36_3.heap.size, 5, none⟩) hlo11 (.slice D13 nd13 cd13)
            obtain ⟨w36_14, hw_⟩ : ∃ x, ((((((w36_13).setCell ⟨w36_3.heap.size, 0, none⟩ (.int .i64 X.t)).setCell ⟨w36_3.heap.size, 1, none⟩ (.slice M13 nm13 cm13)).setCell ⟨w36_3.heap.size, 2, none⟩ (.slice B13 nb13 cb13)).setCell ⟨w36_3.heap.size, 3, none⟩ (.slice P13 np13 cp13)).setCell ⟨w36_3.heap.size, 4, none⟩ (.slice S13 ns13 cs13)).setCell ⟨w36_3.heap.size, 5, none⟩ (.slice D13 nd13 cd13) = x := ⟨_, rfl⟩
            rw [hw_] at RS BS LS ⊢
            have BB36_14 := LS
            clear hw_ y0 y1 y2 y3 y4 y5 g0 g1 g2 g3 g4 g5
            refine hK.out _ _ ?_ ?_
            · (intro _; exact keep3 (W := w19) (BB36_14) a0 a1 a2)
            clear hK K
            (try simp only [Act.put, List.setIfInBounds_toArray, List.set_cons_zero, List.set_cons_succ])
            refine upto_step (k := 12) (by kernel_rfl) rfl (fun K hK => ?_)
            go_simp
            refine hK.out _ _ ?_ ?_
            · (intro h; exact absurd rfl h)
            clear hK K
            (try simp only [Act.put, List.setIfInBounds_toArray, List.set_cons_zero, List.set_cons_succ])
            refine upto_done (by kernel_rfl) ?_ _
            go_wp2_with fail
            go_meet
            exact ⟨w36_3.heap.size, M13, B13, P13, S13, D13, nm13, nb13, np13, ns13, nd13, cm13, cb13, cp13, cs13, cd13, rs13, rfl, rfl, hrl13, RS.base BB36_12.size, BS, hlo11, LS⟩
        · go_simp
          obtain ⟨w36_15, hw_⟩ : ∃ x, w36_2.alloc (.cells #[.int .i64 0, .slice none 0 0, .slice none 0 0, .slice none 0 0, .slice none 0 0, .slice none 0 0] 33) = x := ⟨_, rfl⟩
          have hbb15 : Below w36_2.heap.size w36_2 w36_15 := by rw [← hw_]; exact (Below.refl _ _).alloc (Nat.le_refl _) _
          have BX15 : Blk w36_15 w36_2.heap.size [.int .i64 0, .slice none 0 0, .slice none 0 0, .slice none 0 0, .slice none 0 0, .slice none 0 0] := by rw [← hw_]; exact Blk.new _ _ _
          rw [hw_]
          clear hw_
          have hlo15 : w19.heap.size ≤ w36_2.heap.size := BB36_2.size
          have BB36_15 := Below.next_ BB36_2 BB36_2.size hbb15
          refine hK.out _ _ ?_ ?_
          · (intro _; exact keep3 (W := w19) (BB36_15) a0 a1 a2)
          clear hK K
          (try simp only [Act.put, List.setIfInBounds_toArray, List.set_cons_zero, List.set_cons_succ])
          refine upto_step (k := 3) (by kernel_rfl) rfl (fun K hK => ?_)
          go_simp
          (go_at_call 27; refine (toDocument_any (hP1.below (by repeat (first | exact Below.refl _ _ | assumption | refine Below.next_ ?_ ?_ (by assumption) | refine Below.drew ?_ | refine below_drewN ?_ _ | refine Below.alloc ?_ ?_ _ | refine Below.setCell ?_ ?_ _ | omega | (dsimp only; omega) | (simp <;> omega) | (simp at * <;> omega)))) (hS1.below (by repeat (first | exact Below.refl _ _ | assumption | refine Below.next_ ?_ ?_ (by assumption) | refine Below.drew ?_ | refine below_drewN ?_ _ | refine Below.alloc ?_ ?_ _ | refine Below.setCell ?_ ?_ _ | omega | (dsimp only; omega) | (simp <;> omega) | (simp at * <;> omega)))) (by omega) (by omega)).mono ?_; rintro e w36_16 ⟨QP16, QS16, qP16, qS16, rfl, hp16, hs16, hx16, hbb16⟩)
          go_wp2_with fail
          have hrP16 := Rd.of_own hp16
          have hrS16 := Rd.of_own hs16
          have BB36_16 := Below.next_ BB36_15 BB36_15.size hbb16
          have BX16 := BX15.below hbb16
          refine hK.out _ _ ?_ ?_
          · (intro _; exact keep3 (W := w19) (BB36_16) a0 a1 a2)
          clear hK K
          (try simp only [Act.put, List.setIfInBounds_toArray, List.set_cons_zero, List.set_cons_succ])
          refine upto_step (k := 5) (by kernel_rfl) rfl (fun K hK => ?_)
          go_simp
          (go_at_call 26; refine (toIntS_any (hr2.below (by repeat (first | exact Below.refl _ _ | assumption | refine Below.next_ ?_ ?_ (by assumption) | refine Below.drew ?_ | refine below_drewN ?_ _ | refine Below.alloc ?_ ?_ _ | refine Below.setCell ?_ ?_ _ | omega | (dsimp only; omega) | (simp <;> omega) | (simp at * <;> omega)))) (by omega)).mono ?_; rintro e w36_17 ⟨QC17, qC17, rfl, ho17, hbb17⟩)
          go_wp2_with fail
          have hrC17 := Rd.of_own ho17
          have BB36_17 := Below.next_ BB36_16 BB36_16.size hbb17
          have BX17 := BX16.below hbb17
          refine hK.out _ _ ?_ ?_
          · (intro _; exact keep3 (W := w19) (BB36_17) a0 a1 a2)
          clear hK K
          (try simp only [Act.put, List.setIfInBounds_toArray, List.set_cons_zero, List.set_cons_succ])
          refine upto_step (k := 6) (by kernel_rfl) rfl (fun K hK => ?_)
          go_simp
          (go_at_call 15; refine (implRedactDocument_any (((hrA2.below hbb15).below hbb16).below hbb17) (hrP16.below hbb17) (hrS16.below hbb17) hrC17 (by omega) (by omega) (by omega) (by omega) hI0).mono ?_; intro e w36_18 hout; rw [hXe.out, hok.out] at hout; obtain ⟨M18, B18, P18, S18, D18, nm18, nb18, np18, ns18, nd18, cm18, cb18, cp18, cs18, cd18, rs18, kx18, rfl, hrl18, hR18, hbb18⟩ := hout)
          go_wp2_with fail
          have BB36_18 := Below.next_ BB36_17 BB36_17.size hbb18
          have BX18 := BX17.below hbb18
          have hRn18 := hR18.low (k2 := w36_2.heap.size) BX17.lt
          refine hK.out _ _ ?_ ?_
          · (intro _; exact keep3 (W := w19) (BB36_18) a0 a1 a2)
          clear hK K
          (try simp only [Act.put, List.setIfInBounds_toArray, List.set_cons_zero, List.set_cons_succ])
          have hHeld : ((fun w' => w'.cell? ⟨w.heap.size, 0, none⟩ = some (.int .i64 t1) ∧ w'.cell? ⟨w.heap.size, 1, none⟩ = some (.slice P1 n1 c1) ∧ w'.cell? ⟨w.heap.size, 2, none⟩ = some (.slice S1 m1 d1))) w36_18 := by exact keep3 (W := w19) (BB36_18) a0 a1 a2
          refine upto_take (i := 7) (v := ?v31) rfl (by kernel_rfl) (by kernel_rfl) (by kernel_rfl) (by kernel_rfl) (fun _ _ _ h => h) hHeld ?hy31 (by rfl) ?rest31
          case hy31 => (intro w' hSw; (try dsimp only at hSw); go_simp; (try with_reducible rfl))
          (try simp only [Act.put, List.setIfInBounds_toArray, List.set_cons_zero, List.set_cons_succ])
          refine upto_take (i := 8) (v := ?v32) rfl (by kernel_rfl) (by kernel_rfl) (by kernel_rfl) (by kernel_rfl) (fun _ _ _ h => h) hHeld ?hy32 (by rfl) ?rest32
          case hy32 => (intro w' hSw; (try dsimp only at hSw); go_simp; (try with_reducible rfl))
          (try simp only [Act.put, List.setIfInBounds_toArray, List.set_cons_zero, List.set_cons_succ])
          refine upto_take (i := 9) (v := ?v33) rfl (by kernel_rfl) (by kernel_rfl) (by kernel_rfl) (by kernel_rfl) (fun _ _ _ h => h) hHeld ?hy33 (by rfl) ?rest33
          case hy33 => (intro w' hSw; (try dsimp only at hSw); go_simp; (try with_reducible rfl))
          (try simp only [Act.put, List.setIfInBounds_toArray, List.set_cons_zero, List.set_cons_succ])
          clear hHeld
          obtain ⟨⟨y0, y1, y2, y3, y4, y5⟩, g0, g1, g2, g3, g4, g5⟩ := BX18.six
          refine upto_step (k := 11) (by kernel_rfl) rfl (fun K hK => ?_)
          go_simp
          have RS := ((((((hRn18).set (j := 0) (.int .i64 X.t)).set (j := 1) (.slice M18 nm18 cm18)).set (j := 2) (.slice B18 nb18 cb18)).set (j := 3) (.slice P18 np18 cp18)).set (j := 4) (.slice S18 ns18 cs18)).set (j := 5) (.slice D18 nd18 cd18)
          have BS : Blk _ w36_2.heap.size [.int .i64 X.t, .slice M18 nm18 cm18, .slice B18 nb18 cb18, .slice P18 np18 cp18, .slice S18 ns18 cs18, .slice D18 nd18 cd18] := ((((((BX18).set 0 (.int .i64 X.t)).set 1 (.slice M18 nm18 cm18)).set 2 (.slice B18 nb18 cb18)).set 3 (.slice P18 np18 cp18)).set 4 (.slice S18 ns18 cs18)).set 5 (.slice D18 nd18 cd18)
          have LS := ((((((BB36_18).setCell (p := ⟨w36_2.heap.size, 0, none⟩) hlo15 (.int .i64 X.t)).setCell (p := ⟨w36_2.heap.size, 1, none⟩) hlo15 (.slice M18 nm18 cm18)).setCell (p := ⟨w36_2.heap.size, 2, none⟩) hlo15 (.slice B18 nb18 cb18)).setCell (p := ⟨w36_2.heap.size, 3, none⟩) hlo15 (.slice P18 np18 cp18)).setCell (p := ⟨w36_2.heap.size, 4, none⟩) hlo15 (.slice S18 ns18 cs18)).setCell (p := ⟨w36_2.heap.size, 5, none⟩) hlo15 (.slice D18 nd18 cd18)
          obtain ⟨w36_19, hw_⟩ : ∃ x, ((((((w36_18).setCell ⟨w36_2.heap.size, 0, none⟩ (.int .i64 X.t)).setCell ⟨w36_2.heap.size, 1, none⟩ (.slice M18 nm18 cm18)).setCell ⟨w36_2.heap.size, 2, none⟩ (.slice B18 nb18 cb18)).setCell ⟨w36_2.heap.size, 3, none⟩ (.slice P18 np18 cp18)).setCell ⟨w36_2.heap.size, 4, none⟩ (.slice S18 ns18 cs18)).setCell ⟨w36_2.heap.size, 5, none⟩ (.slice D18 nd18 cd18) = x := ⟨_, rfl⟩
          rw [hw_] at RS BS LS ⊢
          have BB36_19 := LS
          clear hw_ y0 y1 y2 y3 y4 y5 g0 g1 g2 g3 g4 g5
          refine hK.out _ _ ?_ ?_
          · (intro _; exact keep3 (W := w19) (BB36_19) a0 a1 a2)
          clear hK K
          (try simp only [Act.put, List.setIfInBounds_toArray, List.set_cons_zero, List.set_cons_succ])
          refine upto_step (k := 12) (by kernel_rfl) rfl (fun K hK => ?_)
          go_simp
          refine hK.out _ _ ?_ ?_
          · (intro h; exact absurd rfl h)
          clear hK K
          (try simp only [Act.put, List.setIfInBounds_toArray, List.set_cons_zero, List.set_cons_succ])
          refine upto_done (by kernel_rfl) ?_ _
          go_wp2_with fail
          go_meet
          exact ⟨w36_2.heap.size, M18, B18, P18, S18, D18, nm18, nb18, np18, ns18, nd18, cm18, cb18, cp18, cs18, cd18, rs18, rfl, rfl, hrl18, RS.base BB36_17.size, BS, hlo15, LS⟩
      · go_simp
        obtain ⟨w36_20, hw_⟩ : ∃ x, w36_1.alloc (.cells #[.int .i64 0, .slice none 0 0, .slice none 0 0, .slice none 0 0, .slice none 0 0, .slice none 0 0] 33) = x := ⟨_, rfl⟩
        have hbb20 : Below w36_1.heap.size w36_1 w36_20 := by rw [← hw_]; exact (Below.refl _ _).alloc (Nat.le_refl _) _
        have BX20 : Blk w36_20 w36_1.heap.size [.int .i64 0, .slice none 0 0, .slice none 0 0, .slice none 0 0, .slice none 0 0, .slice none 0 0] := by rw [← hw_]; exact Blk.new _ _ _
        rw [hw_]
        clear hw_
        have hlo20 : w19.heap.size ≤ w36_1.heap.size := BB36_1.size
        have BB36_20 := Below.next_ BB36_1 BB36_1.size hbb20
        refine hK.out _ _ ?_ ?_
        · (intro _; exact keep3 (W := w19) (BB36_20) a0 a1 a2)
        clear hK K
        (try simp only [Act.put, List.setIfInBounds_toArray, List.set_cons_zero, List.set_cons_succ])
        refine upto_step (k := 1) (by kernel_rfl) rfl (fun K hK => ?_)
        go_simp
        (go_at_call 26; refine (toIntS_any (hr0.below (by repeat (first | exact Below.refl _ _ | assumption | refine Below.next_ ?_ ?_ (by assumption) | refine Below.drew ?_ | refine below_drewN ?_ _ | refine Below.alloc ?_ ?_ _ | refine Below.setCell ?_ ?_ _ | omega | (dsimp only; omega) | (simp <;> omega) | (simp at * <;> omega)))) (by omega)).mono ?_; rintro e w36_21 ⟨QA21, qA21, rfl, ho21, hbb21⟩)
        go_wp2_with fail
        have hrA21 := Rd.of_own ho21
        have BB36_21 := Below.next_ BB36_20 BB36_20.size hbb21
        have BX21 := BX20.below hbb21
        refine hK.out _ _ ?_ ?_
        · (intro _; exact keep3 (W := w19) (BB36_21) a0 a1 a2)
        clear hK K
        (try simp only [Act.put, List.setIfInBounds_toArray, List.set_cons_zero, List.set_cons_succ])
        refine upto_step (k := 3) (by kernel_rfl) rfl (fun K hK => ?_)
        go_simp
        (go_at_call 27; refine (toDocument_any (hP1.below (by repeat (first | exact Below.refl _ _ | assumption | refine Below.next_ ?_ ?_ (by assumption) | refine Below.drew ?_ | refine below_drewN ?_ _ | refine Below.alloc ?_ ?_ _ | refine Below.setCell ?_ ?_ _ | omega | (dsimp only; omega) | (simp <;> omega) | (simp at * <;> omega)))) (hS1.below (by repeat (first | exact Below.refl _ _ | assumption | refine Below.next_ ?_ ?_ (by assumption) | refine Below.drew ?_ | refine below_drewN ?_ _ | refine Below.alloc ?_ ?_ _ | refine Below.setCell ?_ ?_ _ | omega | (dsimp only; omega) | (simp <;> omega) | (simp at * <;> omega)))) (by omega) (by omega)).mono ?_; rintro e w36_22 ⟨QP22, QS22, qP22, qS22, rfl, hp22, hs22, hx22, hbb22⟩)
        go_wp2_with fail
        have hrP22 := Rd.of_own hp22
        have hrS22 := Rd.of_own hs22
        have BB36_22 := Below.next_ BB36_21 BB36_21.size hbb22
        have BX22 := BX21.below hbb22
        refine hK.out _ _ ?_ ?_
        · (intro _; exact keep3 (W := w19) (BB36_22) a0 a1 a2)
        clear hK K
        (try simp only [Act.put, List.setIfInBounds_toArray, List.set_cons_zero, List.set_cons_succ])
        refine upto_step (k := 5) (by kernel_rfl) rfl (fun K hK => ?_)
        go_simp
        (go_at_call 26; refine (toIntS_any (hr2.below (by repeat (first | exact Below.refl _ _ | assumption | refine Below.next_ ?_ ?_ (by assumption) | refine Below.drew ?_ | refine below_drewN ?_ _ | refine Below.alloc ?_ ?_ _ | refine Below.setCell ?_ ?_ _ | omega | (dsimp only; omega) | (simp <;> omega) | (simp at * <;> omega)))) (by omega)).mono ?_; rintro e w36_23 ⟨QC23, qC23, rfl, ho23, hbb23⟩)
        go_wp2_with fail
        have hrC23 := Rd.of_own ho23
        have BB36_23 := Below.next_ BB36_22 BB36_22.size hbb23
        have BX23 := BX22.below hbb23
        refine hK.out _ _ ?_ ?_
        · (intro _; exact keep3 (W := w19) (BB36_23) a0 a1 a2)
        clear hK K
        (try simp only [Act.put, List.setIfInBounds_toArray, List.set_cons_zero, List.set_cons_succ])
        refine upto_step (k := 6) (by kernel_rfl) rfl (fun K hK => ?_)
        go_simp
        (go_at_call 15; refine (implRedactDocument_any ((hrA21.below hbb22).below hbb23) (hrP22.below hbb23) (hrS22.below hbb23) hrC23 (by omega) (by omega) (by omega) (by omega) hI0).mono ?_; intro e w36_24 hout; rw [hXe.out, hok.out] at hout; obtain ⟨M24, B24, P24, S24, D24, nm24, nb24, np24, ns24, nd24, cm24, cb24, cp24, cs24, cd24, rs24, kx24, rfl, hrl24, hR24, hbb24⟩ := hout)
        go_wp2_with fail
        have BB36_24 := Below.next_ BB36_23 BB36_23.size hbb24
        have BX24 := BX23.below hbb24
        have hRn24 := hR24.low (k2 := w36_1.heap.size) BX23.lt
        refine hK.out _ _ ?_ ?_
        · (intro _; exact keep3 (W := w19) (BB36_24) a0 a1 a2)
        clear hK K
        (try simp only [Act.put, List.setIfInBounds_toArray, List.set_cons_zero, List.set_cons_succ])
        have hHeld : ((fun w' => w'.cell? ⟨w.heap.size, 0, none⟩ = some (.int .i64 t1) ∧ w'.cell? ⟨w.heap.size, 1, none⟩ = some (.slice P1 n1 c1) ∧ w'.cell? ⟨w.heap.size, 2, none⟩ = some (.slice S1 m1 d1))) w36_24 := by exact keep3 (W := w19) (BB36_24) a0 a1 a2
        refine upto_take (i := 7) (v := ?v34) rfl (by kernel_rfl) (by kernel_rfl) (by kernel_rfl) (by kernel_rfl) (fun _ _ _ h => h) hHeld ?hy34 (by rfl) ?rest34
        case hy34 => (intro w' hSw; (try dsimp only at hSw); go_simp; (try with_reducible rfl))
        (try simp only [Act.put, List.setIfInBounds_toArray, List.set_cons_zero, List.set_cons_succ])
        refine upto_take (i := 8) (v := ?v35) rfl (by kernel_rfl) (by kernel_rfl) (by kernel_rfl) (by kernel_rfl) (fun _ _ _ h => h) hHeld ?hy35 (by rfl) ?rest35
        case hy35 => (intro w' hSw; (try dsimp only at hSw); go_simp; (try with_reducible rfl))
        (try simp only [Act.put, List.setIfInBounds_toArray, List.set_cons_zero, List.set_cons_succ])
        refine upto_take (i := 9) (v := ?v36) rfl (by kernel_rfl) (by kernel_rfl) (by kernel_rfl) (by kernel_rfl) (fun _ _ _ h => h) hHeld ?hy36 (by rfl) ?rest36
        case hy36 => (intro w' hSw; (try dsimp only at hSw); go_simp; (try with_reducible rfl))
        (try simp only [Act.put, List.setIfInBounds_toArray, List.set_cons_zero, List.set_cons_succ])
        clear hHeld
        obtain ⟨⟨y0, y1, y2, y3, y4, y5⟩, g0, g1, g2, g3, g4, g5⟩ := BX24.six
        refine upto_step (k := 11) (by kernel_rfl) rfl (fun K hK => ?_)
        go_simp
        have RS := ((((((hRn24).set (j := 0) (.int .i64 X.t)).set (j := 1) (.slice M24 nm24 cm24)).set (j := 2) (.slice B24 nb24 cb24)).set (j := 3) (.slice P24 np24 cp24)).set (j := 4) (.slice S24 ns24 cs24)).set (j := 5) (.slice D24 nd24 cd24)
        have BS : Blk _ w36_1.heap.size [.int .i64 X.t, .slice M24 nm24 cm24, .slice B24 nb24 cb24, .slice P24 np24 cp24, .slice S24 ns24 cs24, .slice D24 nd24 cd24] := ((((((BX24).set 0 (.int .i64 X.t)).set 1 (.slice M24 nm24 cm24)).set 2 (.slice B24 nb24 cb24)).set 3 (.slice P24 np24 cp24)).set 4 (.slice S24 ns24 cs24)).set 5 (.slice D24 nd24 cd24)
        have LS := ((((((BB36_24).setCell (p := ⟨w36_1.heap.size, 0, none⟩) hlo20 (.int .i64 X.t)).setCell (p := ⟨w36_1.heap.size, 1, none⟩) hlo20 (.slice M24 nm24 cm24)).setCell (p := ⟨w36_1.heap.size, 2, none⟩) hlo20 (.slice B24 nb24 cb24)).setCell (p := ⟨w36_1.heap.size, 3, none⟩) hlo20 (.slice P24 np24 cp24)).setCell (p := ⟨w36_1.heap.size, 4, none⟩) hlo20 (.slice S24 ns24 cs24)).setCell (p := ⟨w36_1.heap.size, 5, none⟩) hlo20 (.slice D24 nd24 cd24)
        obtain ⟨w36_25, hw_⟩ : ∃ x, ((((((w36_24).setCell ⟨w36_1.heap.size, 0, none⟩ (.int .i64 X.t)).setCell ⟨w36_1.heap.size, 1, none⟩ (.slice M24 nm24 cm24)).setCell ⟨w36_1.heap.size, 2, none⟩ (.slice B24 nb24 cb24)).setCell ⟨w36_1.heap.size, 3, none⟩ (.slice P24 np24 cp24)).setCell ⟨w36_1.heap.size, 4, none⟩ (.slice S24 ns24 cs24)).setCell ⟨w36_1.heap.size, 5, none⟩ (.slice D24 nd24 cd24) = x := ⟨_, rfl⟩
        rw [hw_] at RS BS LS ⊢
        have BB36_25 := LS
        clear hw_ y0 y1 y2 y3 y4 y5 g0 g1 g2 g3 g4 g5
        refine hK.out _ _ ?_ ?_
        · (intro _; exact keep3 (W := w19) (BB36_25) a0 a1 a2)
        clear hK K
        (try simp only [Act.put, List.setIfInBounds_toArray, List.set_cons_zero, List.set_cons_succ])
        refine upto_step (k := 12) (by kernel_rfl) rfl (fun K hK => ?_)
        go_simp
        refine hK.out _ _ ?_ ?_
        · (intro h; exact absurd rfl h)
        clear hK K
        (try simp only [Act.put, List.setIfInBounds_toArray, List.set_cons_zero, List.set_cons_succ])
        refine upto_done (by kernel_rfl) ?_ _
        go_wp2_with fail
        go_meet
        exact ⟨w36_1.heap.size, M24, B24, P24, S24, D24, nm24, nb24, np24, ns24, nd24, cm24, cb24, cp24, cs24, cd24, rs24, rfl, rfl, hrl24, RS.base BB36_23.size, BS, hlo20, LS⟩
    case rest =>
      obtain ⟨bx18, M20, B20, P20, S20, D20, nm20, nb20, np20, ns20, nd20, cm20, cb20, cp20, cs20, cd20, rs20, rfl, rfl, hrl20, R18, bk18, hlo18, hb_20⟩ := hcut
      obtain ⟨w20, rfl⟩ : ∃ x, x = wc := ⟨wc, rfl⟩
      have hz_20 := hb_20.size
      obtain ⟨bd20, _⟩ := small_of R18 hrl20 hsm (by omega)
      clear a0 a1 a2 a3 a4 a5
      replace bkA := Blk.below bkA (w' := w20) (by repeat (first | exact Below.refl _ _ | assumption | refine Below.next_ ?_ ?_ (by assumption) | refine Below.drew ?_ | refine below_drewN ?_ _ | refine Below.alloc ?_ ?_ _ | refine Below.setCell ?_ ?_ _ | omega | (dsimp only; omega) | (simp <;> omega) | (simp at * <;> omega)))
      replace bk8 := Blk.below bk8 (w' := w20) (by repeat (first | exact Below.refl _ _ | assumption | refine Below.next_ ?_ ?_ (by assumption) | refine Below.drew ?_ | refine below_drewN ?_ _ | refine Below.alloc ?_ ?_ _ | refine Below.setCell ?_ ?_ _ | omega | (dsimp only; omega) | (simp <;> omega) | (simp at * <;> omega)))
      replace bk13 := Blk.below bk13 (w' := w20) (by repeat (first | exact Below.refl _ _ | assumption | refine Below.next_ ?_ ?_ (by assumption) | refine Below.drew ?_ | refine below_drewN ?_ _ | refine Below.alloc ?_ ?_ _ | refine Below.setCell ?_ ?_ _ | omega | (dsimp only; omega) | (simp <;> omega) | (simp at * <;> omega)))
      replace R8 := Rows_.below R8 (w' := w20) (by repeat (first | exact Below.refl _ _ | assumption | refine Below.next_ ?_ ?_ (by assumption) | refine Below.drew ?_ | refine below_drewN ?_ _ | refine Below.alloc ?_ ?_ _ | refine Below.setCell ?_ ?_ _ | omega | (dsimp only; omega) | (simp <;> omega) | (simp at * <;> omega)))
      obtain ⟨⟨r0, r1, r2, r3, r4, r5⟩, r6, r7, r8, r9, r10, r11⟩ := bk8.six
      obtain ⟨⟨v0, v1, v2, v3, v4, v5⟩, v6, v7, v8, v9, v10, v11⟩ := bk18.six
      go_wp2_with fail
      refine (eqRedacted_any (RdR.below (Rows_.rdr R18 hrl20) (by repeat (first | exact Below.refl _ _ | assumption | refine Below.next_ ?_ ?_ (by assumption) | refine Below.drew ?_ | refine below_drewN ?_ _ | refine Below.alloc ?_ ?_ _ | refine Below.setCell ?_ ?_ _ | omega | (dsimp only; omega) | (simp <;> omega) | (simp at * <;> omega)))) (RdR.below (Rows_.rdr R8 hrl3) (by repeat (first | exact Below.refl _ _ | assumption | refine Below.next_ ?_ ?_ (by assumption) | refine Below.drew ?_ | refine below_drewN ?_ _ | refine Below.alloc ?_ ?_ _ | refine Below.setCell ?_ ?_ _ | omega | (dsimp only; omega) | (simp <;> omega) | (simp at * <;> omega)))) bd20 bd8).mono ?_
      rintro e w21 ⟨rfl, hb_21⟩
      have hz_21 := hb_21.size; (try simp at hz_21)
      clear r0 r1 r2 r3 r4 r5 r6 r7 r8 r9 r10 r11
      clear v0 v1 v2 v3 v4 v5 v6 v7 v8 v9 v10 v11
      replace bkA := Blk.below bkA (w' := w21) (by repeat (first | exact Below.refl _ _ | assumption | refine Below.next_ ?_ ?_ (by assumption) | refine Below.drew ?_ | refine below_drewN ?_ _ | refine Below.alloc ?_ ?_ _ | refine Below.setCell ?_ ?_ _ | omega | (dsimp only; omega) | (simp <;> omega) | (simp at * <;> omega)))
      replace bk8 := Blk.below bk8 (w' := w21) (by repeat (first | exact Below.refl _ _ | assumption | refine Below.next_ ?_ ?_ (by assumption) | refine Below.drew ?_ | refine below_drewN ?_ _ | refine Below.alloc ?_ ?_ _ | refine Below.setCell ?_ ?_ _ | omega | (dsimp only; omega) | (simp <;> omega) | (simp at * <;> omega)))
      replace bk13 := Blk.below bk13 (w' := w21) (by repeat (first | exact Below.refl _ _ | assumption | refine Below.next_ ?_ ?_ (by assumption) | refine Below.drew ?_ | refine below_drewN ?_ _ | refine Below.alloc ?_ ?_ _ | refine Below.setCell ?_ ?_ _ | omega | (dsimp only; omega) | (simp <;> omega) | (simp at * <;> omega)))
      replace bk18 := Blk.below bk18 (w' := w21) (by repeat (first | exact Below.refl _ _ | assumption | refine Below.next_ ?_ ?_ (by assumption) | refine Below.drew ?_ | refine below_drewN ?_ _ | refine Below.alloc ?_ ?_ _ | refine Below.setCell ?_ ?_ _ | omega | (dsimp only; omega) | (simp <;> omega) | (simp at * <;> omega)))
      replace R8 := Rows_.below R8 (w' := w21) (by repeat (first | exact Below.refl _ _ | assumption | refine Below.next_ ?_ ?_ (by assumption) | refine Below.drew ?_ | refine below_drewN ?_ _ | refine Below.alloc ?_ ?_ _ | refine Below.setCell ?_ ?_ _ | omega | (dsimp only; omega) | (simp <;> omega) | (simp at * <;> omega)))
      obtain ⟨⟨s0, s1, s2, s3, s4, s5⟩, s6, s7, s8, s9, s10, s11⟩ := bk13.six
      go_wp2_with fail
      refine (heldRedacted_any (RdR.below hrm (by repeat (first | exact Below.refl _ _ | assumption | refine Below.next_ ?_ ?_ (by assumption) | refine Below.drew ?_ | refine below_drewN ?_ _ | refine Below.alloc ?_ ?_ _ | refine Below.setCell ?_ ?_ _ | omega | (dsimp only; omega) | (simp <;> omega) | (simp at * <;> omega)))) (by omega) (by omega) (by omega) (by omega) (by omega) (by omega) (by omega) hss6).mono ?_
      rintro e w22 ⟨rfl, hb_22⟩
      have hz_22 := hb_22.size; (try simp at hz_22)
      clear s0 s1 s2 s3 s4 s5 s6 s7 s8 s9 s10 s11
      replace bkA := Blk.below bkA (w' := w22) (by repeat (first | exact Below.refl _ _ | assumption | refine Below.next_ ?_ ?_ (by assumption) | refine Below.drew ?_ | refine below_drewN ?_ _ | refine Below.alloc ?_ ?_ _ | refine Below.setCell ?_ ?_ _ | omega | (dsimp only; omega) | (simp <;> omega) | (simp at * <;> omega)))
      replace bk8 := Blk.below bk8 (w' := w22) (by repeat (first | exact Below.refl _ _ | assumption | refine Below.next_ ?_ ?_ (by assumption) | refine Below.drew ?_ | refine below_drewN ?_ _ | refine Below.alloc ?_ ?_ _ | refine Below.setCell ?_ ?_ _ | omega | (dsimp only; omega) | (simp <;> omega) | (simp at * <;> omega)))
      replace bk13 := Blk.below bk13 (w' := w22) (by repeat (first | exact Below.refl _ _ | assumption | refine Below.next_ ?_ ?_ (by assumption) | refine Below.drew ?_ | refine below_drewN ?_ _ | refine Below.alloc ?_ ?_ _ | refine Below.setCell ?_ ?_ _ | omega | (dsimp only; omega) | (simp <;> omega) | (simp at * <;> omega)))
      replace bk18 := Blk.below bk18 (w' := w22) (by repeat (first | exact Below.refl _ _ | assumption | refine Below.next_ ?_ ?_ (by assumption) | refine Below.drew ?_ | refine below_drewN ?_ _ | refine Below.alloc ?_ ?_ _ | refine Below.setCell ?_ ?_ _ | omega | (dsimp only; omega) | (simp <;> omega) | (simp at * <;> omega)))
      replace R8 := Rows_.below R8 (w' := w22) (by repeat (first | exact Below.refl _ _ | assumption | refine Below.next_ ?_ ?_ (by assumption) | refine Below.drew ?_ | refine below_drewN ?_ _ | refine Below.alloc ?_ ?_ _ | refine Below.setCell ?_ ?_ _ | omega | (dsimp only; omega) | (simp <;> omega) | (simp at * <;> omega)))
      go_wp2_with fail
      go_ret
      exact ⟨rfl, by repeat (first | exact Below.refl _ _ | assumption | refine Below.next_ ?_ ?_ (by assumption) | refine Below.drew ?_ | refine below_drewN ?_ _ | refine Below.alloc ?_ ?_ _ | refine Below.setCell ?_ ?_ _ | omega | (dsimp only; omega) | (simp <;> omega) | (simp at * <;> omega))⟩
theorem lifted (os : Os) (started : os.Started) (H : Type) (enc : TypeId × Value → H) :
    ReturnsInHanded {} Try.checked os 4 .any (Rows.fnExactRedactDocumentSpec.pre6 enc Try.prog Try.f4 Rows.fnExactRedactDocumentRow.domain false) (Rows.fnExactRedactDocumentSpec.post enc Try.prog Try.f4 false true false false) := by
  refine returnsInHanded_of_change (C := Try.checked) own started (by kernel_rfl) Try.func4
    (ChangeSpec.witness6 (enc := enc) (C := Try.checked) false ⟨#[], #[.slice none 0 0, .agg #[.int .i64 0, .slice none 0 0, .slice none 0 0], .slice none 0 0], []⟩ 8 (by kernel_rfl) (by kernel_rfl) (by kernel_rfl) (by kernel_rfl)) ?_
  intro W base args ds gs before hval0 hW _ _
  have hval : ∀ (j : Nat) t v, Try.f4.params[j]? = some t → args[j]? = some v → Value.okWide Try.prog W .any base t v := hval0
  have hW' := hW
  obtain ⟨p, q, hA0, hV, rfl, _, _⟩ := hW
  have hA : DataW.TrodAll enc Try.prog W 0 (fun _ => true) true Try.f4.params.toList args.toList ds p := hA0
  have hlt : ∀ x ∈ p, x.block < W.heap.size := fun x hx => hW'.lt x (by simp [hx])
  have hkeep : ∀ W' : World, Below W.heap.size W W' → ∀ sp : Nat → Bool, (∀ x ∈ p ++ q, sp x.block = true) → DataW.TrodAll enc Try.prog W' 0 sp true Try.f4.params.toList args.toList ds p :=
    fun W' hb sp hsp => trodAll_stays laid hb _ _ _ _ (by kernel_rfl) hlt (fun x hx => hsp x (by simp [hx])) hA
  rw [Try.params4] at hA hval
  obtain ⟨v0, vs0, d0, ds0, p0, q0, hargs, rfl, rfl, h0, r0⟩ := trodAll_cons hA
  obtain ⟨v1, vs1, d1, ds1, p1, q1, rfl, rfl, rfl, h1, r1⟩ := trodAll_cons r0
  obtain ⟨v2, vs2, d2, ds2, p2, q2, rfl, rfl, rfl, h2, r2⟩ := trodAll_cons r1
  obtain ⟨rfl, rfl, rfl⟩ := trodAll_nil r2
  obtain rfl : args = #[v0, v1, v2] := by cases args; simp_all
  obtain ⟨rfl, rfl⟩ := trodVars_none hV
  have i0 : InInts W v0 := InInts.of (hval 0 24 v0 rfl rfl) h0
  have i1 : InDoc W v1 := InDoc.of (hval 1 45 v1 rfl rfl) h1
  have i2 : InInts W v2 := InInts.of (hval 2 24 v2 rfl rfl) h2
  refine (law_any i0 i1 i2 W rfl).mono fun e W' ⟨he, hb⟩ => ?_
  subst he
  exact ⟨_, rfl, post_of_below (pv := []) hW' (fun _ _ _ => (trodAll_cons_mk (shut_bool Try.underlying4 _) trodAll_mk0)) (hkeep W' hb) (fun _ _ => rfl) rfl
    hb (ok_one (by kernel_rfl) rfl (okWide_bool_mk Try.underlying4 _))⟩

theorem over : Rows.fnExactRedactDocumentRow.holds Try.pinned (OpenSpec.ofChange Rows.fnExactRedactDocumentSpec) :=
  OpenClaim.holds_of_wide 4 Try.f4 rfl rfl rfl rfl rfl rfl rfl ⟨rfl, rfl, rfl, rfl, rfl⟩ rfl rfl rfl rfl rfl (by kernel_rfl) Try.func4 (by kernel_rfl)
    (of_decide_eq_true (by kernel_rfl)) (by unfold Func.isWrapper; first | (rw [if_pos (by decide +kernel)]; kernel_rfl) | (rw [if_neg (by decide +kernel)]; exact ⟨rfl, rfl⟩))
    (fun os started H enc _ => lifted os started H enc)

theorem proved : Rows.FnExactRedactDocumentSaid :=
  over
#print axioms proved
end Go.Proofs.Ytgeffaohdoeclaa.lawFnExactRedactDocument
