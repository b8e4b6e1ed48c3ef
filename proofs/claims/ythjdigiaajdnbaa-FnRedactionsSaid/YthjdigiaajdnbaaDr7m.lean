/- The contract of l7Draw. For codes of at most 2^20 bytes. The contract of l7Any. For codes of at most 2^20 bytes. Contracts of DrawIsRedactionOf and DrawRedactDocument. For codes of at most 2^20 bytes. Plain law of redactions: hiding parts changes no digest by the methods for which it was made, and leaves nothing of what is hidden. No program. -/
import Derived.Test.YthjdigiaajdnbaaDr6m
import Derived.Test.YthjdigiaajdnbaaRdl
import Derived.Test.YthjdigiaajdnbaaRdts
import Derived.Test.YthjdigiaajdnbaaRo
import Derived.Test.YthjdigiaajdnbaaTail
import Derived.Deep.Cut
import Derived.Test.YthjdigiaajdnbaaRDg
import Derived.Test.YthjdigiaajdnbaaIsR
namespace Go.Proofs.Ythjdigiaajdnbaa
open Go.RowKit Go.WideShapes Go.ChangeShapes Go.Deep
set_option linter.unusedSimpArgs false
set_option linter.unusedVariables false
set_option maxRecDepth 1000000
theorem Rows_.cur {w w' : World} {b k p : Nat} {fs : List Fld} (h : Rows_ w b k fs) (hg : w.grownBy w' (some p)) (hp : p < b) : Rows_ w' b k fs :=
  h.grown hg fun i f hi q hq he => by
    have := ((h.own i f hi).lt q (by rw [blk_own]; exact hq)).1
    injection he with he
    omega
/-- what l7Draw hands back -/
def D7Out (w w' : World) (e : Ending) : Prop :=
  ∃ (td : Int) (Pd Sd : Option Addr) (n c d : Nat) (pd : List ByteArray) (sd hd : List Int) (z : Nat) (M B P S D : Option Addr) (nm nb np ns nd cm cb cp cs cd : Nat) (rs : List Sr) (kx : Nat) (X : RedD),
    X = redX [1, 2, 4] td pd sd hd ∧ isDoc td pd sd = true ∧ 1 ≤ n ∧ n ≤ 3 ∧ e = .returned (.tuple #[reV X.t M B P S D nm nb np ns nd cm cb cp cs cd, doV td Pd Sd n n c d]) ∧ rs.length = X.ds.length ∧ w.heap.size + 1 < z ∧ Rows_ w' z kx ([⟨3, M, nm, cm, ints X.ms⟩, ⟨4, B, nb, cb, bls X.bs⟩, ⟨9, P, np, cp, sts X.ps⟩, ⟨3, S, ns, cs, ints X.ss⟩, ⟨24, D, nd, cd, srs rs⟩] ++ inn rs X.ds) ∧
    w'.ownsRow (w.heap.size + 2) 9 1 (.slice Pd n c) n (sts pd) ∧ w'.ownsRow (w.heap.size + 2) 3 1 (.slice Sd n d) n (ints sd) ∧ (∀ g, blk Pd = some g → g < z) ∧ (∀ g, blk Sd = some g → g < z)
set_option maxHeartbeats 16000000 in
theorem l7Draw_any {p : Nat} {w : World} (hC : Cur w p) :
    Calls Try.prog 70 #[curV p] w fun e w' => D7Out w w' e ∧ Drawn w w' p := by
  obtain ⟨iInt, hiInt, hzInt0, hzInt1, hzInt2⟩ := info_parts Int_info
  have hp := hC.lt
  obtain ⟨W1, hW1⟩ : ∃ W1, (w.alloc (.cells #[.int .i64 0, .slice none 0 0, .slice none 0 0, .slice none 0 0, .slice none 0 0, .slice none 0 0] 33)).alloc (.cells #[.int .i64 0, .slice none 0 0, .slice none 0 0] 27) = W1 := ⟨_, rfl⟩
  have ZR : Blk W1 w.heap.size [.int .i64 0, .slice none 0 0, .slice none 0 0, .slice none 0 0, .slice none 0 0, .slice none 0 0] := by rw [← hW1]; exact (Blk.new _ _ _).alloc _
  have ZD : Blk W1 (w.heap.size + 1) [.int .i64 0, .slice none 0 0, .slice none 0 0] := by rw [← hW1]; exact Blk.new_ _ _ _ (by simp)
  have hb1 : Below w.heap.size w W1 := by rw [← hW1]; repeat (first | exact Below.refl _ _ | assumption | refine Below.next_ ?_ ?_ (by assumption) | refine Below.drew ?_ | refine below_drewN ?_ _ | refine Below.alloc ?_ ?_ _ | refine Below.setCell ?_ ?_ _ | omega | (simp <;> omega) | (simp at * <;> omega))
  have HW1 := hide hW1
  clear hW1
  have hz1 : w.heap.size + 1 < W1.heap.size := ZD.lt
  have hC1 := hC.below hb1
  have hp1 : p < W1.heap.size := by omega
  have hne : w.heap.size ≠ p := by omega
  have hne2 : w.heap.size + 1 ≠ p := by omega
  go_enter Try.func70, Try.ntmps70
  go_wp2_with fail
  rw [HW1.out]
  clear HW1
  refine (l6Draw_any hC1).mono ?_
  rintro e w1 ⟨td, pd, sd, Pd, Sd, n, c, d, rfl, hdoc, htx, hn1, hn3, hoP, hoS, hap, hd1⟩
  have HDOC := hide hdoc
  have hz2 := hd1.2.size
  obtain ⟨q, hq⟩ : ∃ q, w1.heap.size = q := ⟨_, rfl⟩
  have HQ := hide hq
  have hltP := hide (show ∀ g, blk Pd = some g → W1.heap.size ≤ g ∧ g < q from fun g hg => by have := hoP.lt g (by rw [blk_own]; exact hg); omega)
  have hltS := hide (show ∀ g, blk Sd = some g → W1.heap.size ≤ g ∧ g < q from fun g hg => by have := hoS.lt g (by rw [blk_own]; exact hg); omega)
  obtain ⟨W2, hW2⟩ : ∃ W2, w1.alloc (.cells #[.int .i64 td, .slice Pd n c, .slice Sd n d] 27) = W2 := ⟨_, rfl⟩
  have DB : Blk W2 q [.int .i64 td, .slice Pd n c, .slice Sd n d] := by rw [← hW2, ← hq]; exact Blk.new _ _ _
  have hbW2 : Below w1.heap.size w1 W2 := by rw [← hW2]; exact (Below.refl w1.heap.size w1).alloc (Nat.le_refl _) _
  replace ZR := (ZR.cur hd1.2 hne).below hbW2
  replace ZD := (ZD.cur hd1.2 hne2).below hbW2
  replace hoP := own_below hoP hbW2
  replace hoS := own_below hoS hbW2
  have hD := (Drawn.of hb1 hd1).below hbW2
  have hqp : q ≠ p := by omega
  have hqz1 : W1.heap.size ≤ q := by omega
  have hqz : q < W2.heap.size := DB.lt
  have hp2 : p < W2.heap.size := by omega
  have HW2 := hide hW2
  clear hW2 hbW2 hb1 hd1 hq hdoc htx hap
  go_upto_region 2 with fail
  rw [HW2.out, HQ.out]
  clear HW2
  have ho0 := World.ownsRow_lit (base := W2.heap.size) (e := 3) (size := 1) W2 #[] 0 (Nat.le_refl _) (by unfold maxLen; omega) rfl
  have hb0 := (Below.refl W2.heap.size W2).alloc (Nat.le_refl _) (.cells #[] 3)
  have hD0 : Drawn W2 (W2.alloc (.cells #[] 3)) p := ⟨hD.1.below hb0, below_grown hb0⟩
  go_wp2_with fail
  go_loopw [5, 6] (fun hv i wr => ∃ (k j : Nat) (l : List Int) (A5 : Option Addr) (d5 : Nat), k ≤ 3 ∧ j ≤ k ∧ i = .int .i64 k ∧ hv = .slice A5 j d5 ∧ wr.ownsRow W2.heap.size 3 1 (.slice A5 j d5) j (ints l) ∧ Drawn W2 wr p) (fun _ i _ => 3 - (intOf i).toNat)
  case atStart => exact ⟨0, 0, [], _, _, by omega, by omega, rfl, rfl, ho0, hD0⟩
  case round =>
    clear ho0 hb0 hD0
    obtain ⟨k, j, l, A5, d5, hk, hjk, rfl, rfl, ho, hd⟩ := hrel
    have hz : W2.heap.size ≤ wr.heap.size := hd.2.size
    have hk0 : (0 : Int) ≤ (k : Int) := by omega
    by_cases h0 : k < 3
    · have hk3 : (k : Int) < 3 := by omega
      go_wp2_with fail
      refine (l1Once_any hd.1 (by omega)).mono ?_
      rintro e w4 ⟨b, rfl, hd4⟩
      have ho4 := own_cur ho hd4.2 hp2
      have hz4 := hd4.2.size
      have hzz : W2.heap.size ≤ w4.heap.size := by omega
      have hdd := hd.next hd4
      clear ho hd hd4
      cases b with
      | true =>
        go_wp2_with (at_builtin; refine wpList_app2 _ rfl (.tmp 18) (.tmp 20) 24 rfl 3 iInt (.int .i64 0) 1 8 Try.underlying24 hiInt hzInt0 hzInt1 hzInt2 rfl (by omega) rfl (ho4.alloc _) rfl (Rd.one _ _ _) (ints_one [_]) (by unfold maxLen; omega) (by omega) rfl rfl ((Below.refl W2.heap.size w4).alloc hzz _) (by simp; omega) (Nat.le_refl _) (by simp; omega) ?_; intro A7 c7 w7 ho7 hb7 hg7 hat7)
        go_roundw
        case rel => exact ⟨k + 1, j + 1, l ++ [(k : Int)], A7, c7, by omega, by omega, by go_num, rfl, by rw [ints_snoc]; exact ho7, hdd.belowB hp2 hb7⟩
        case measure => simp [intOf]; omega
      | false =>
        go_wp2_with fail
        go_roundw
        case rel => exact ⟨k + 1, j, l, A5, d5, by omega, by omega, by go_num, rfl, ho4, hdd⟩
        case measure => simp [intOf]; omega
    · obtain rfl : k = 3 := by omega
      have hlit : Below wr.heap.size wr (wr.alloc (.cells #[.int .i64 1, .int .i64 2, .int .i64 4] 3)) := (Below.refl _ _).alloc (Nat.le_refl _) _
      have hM := World.ownsRow_lit (base := wr.heap.size) (e := 3) (size := 1) wr #[.int .i64 1, .int .i64 2, .int .i64 4] 3 (Nat.le_refl _) (by unfold maxLen; omega) rfl
      replace ZR := (ZR.cur hd.2 hne).below hlit
      replace ZD := (ZD.cur hd.2 hne2).below hlit
      replace DB := (DB.cur hd.2 hqp).below hlit
      replace hoP := own_below (own_cur hoP hd.2 hp1) hlit
      replace hoS := own_below (own_cur hoS hd.2 hp1) hlit
      replace hD := (hD.next hd).below hlit
      replace ho := own_below ho hlit
      have hz5 := hlit.size
      clear hd
      obtain ⟨⟨v0, v1, v2⟩, v3, v4, v5⟩ := DB.three
      go_wp2_with fail
      refine (specRedactDocument_any (ms := [1, 2, 4]) (Rd.of_own hM) (Rd.of_own hoP) (Rd.of_own hoS) (Rd.of_own ho) (by omega) (by omega) (by omega) (by omega) (by intro x hx; simp at hx; unfold I64; omega)).mono ?_
      intro e w5 hout
      obtain ⟨X, hX⟩ : ∃ X, redX [1, 2, 4] td pd sd l = X := ⟨_, rfl⟩
      have HX := hide hX
      unfold RrOut at hout
      rw [HDOC.out, hX] at hout
      obtain ⟨M, B, P, S, D, nm, nb, np, ns, nd, cm, cb, cp, cs, cd, rs, kx, rfl, hrl, hR, hb5⟩ := hout
      have HRL := hide hrl
      replace hR := hR.base (b2 := wr.heap.size) hz5
      have hz6 := hb5.size
      replace ZR := ZR.below hb5
      replace ZD := ZD.below hb5
      replace DB := DB.below hb5
      replace hoP := own_below hoP hb5
      replace hoS := own_below hoS hb5
      replace hD := hD.below hb5
      clear hX hrl hb5 ho hM hlit v0 v1 v2 v3 v4 v5
      obtain ⟨V, hV⟩ : ∃ V, w5.alloc (.cells #[.int .i64 X.t, .slice M nm cm, .slice B nb cb, .slice P np cp, .slice S ns cs, .slice D nd cd] 33) = V := ⟨_, rfl⟩
      have hbV : Below w5.heap.size w5 V := by rw [← hV]; exact (Below.refl _ _).alloc (Nat.le_refl _) _
      have RB : Blk V w5.heap.size [.int .i64 X.t, .slice M nm cm, .slice B nb cb, .slice P np cp, .slice S ns cs, .slice D nd cd] := by rw [← hV]; exact Blk.new _ _ _
      replace ZR := ZR.below hbV
      replace ZD := ZD.below hbV
      replace DB := DB.below hbV
      replace hoP := own_below hoP hbV
      replace hoS := own_below hoS hbV
      replace hR := hR.below hbV
      replace hD := hD.below hbV
      have HV := hide hV
      clear hV hbV
      go_upto_region 9 with fail
      rw [HV.out]
      clear HV
      obtain ⟨qr, hqr⟩ : ∃ x, w5.heap.size = x := ⟨_, rfl⟩
      rw [hqr] at RB ⊢
      have hqr1 : w.heap.size + 1 < qr := by omega
      have hq1 : w.heap.size + 1 < q := by omega
      have hwr1 : w.heap.size + 1 < wr.heap.size := by omega
      clear hqr
      obtain ⟨⟨r0, r1, r2, r3, r4, r5⟩, r6, r7, r8, r9, r10, r11⟩ := RB.six
      obtain ⟨⟨v0, v1, v2⟩, v3, v4, v5⟩ := DB.three
      refine wp_region_upto (S := (fun w' => (w'.cell? ⟨qr, 0, none⟩ = some (.int .i64 X.t) ∧ w'.cell? ⟨qr, 1, none⟩ = some (.slice M nm cm) ∧ w'.cell? ⟨qr, 2, none⟩ = some (.slice B nb cb) ∧ w'.cell? ⟨qr, 3, none⟩ = some (.slice P np cp) ∧ w'.cell? ⟨qr, 4, none⟩ = some (.slice S ns cs) ∧ w'.cell? ⟨qr, 5, none⟩ = some (.slice D nd cd)) ∧ w'.cell? ⟨q, 0, none⟩ = some (.int .i64 td) ∧ w'.cell? ⟨q, 1, none⟩ = some (.slice Pd n c) ∧ w'.cell? ⟨q, 2, none⟩ = some (.slice Sd n d))) 3 (by kernel_rfl) ?_ ?_
      · exact ⟨⟨r0, r1, r2, r3, r4, r5⟩, v0, v1, v2⟩
      obtain ⟨WA, hWA⟩ : ∃ x, (V).drew = x := ⟨_, rfl⟩
      have hbd : Below (V).heap.size (V) WA := by rw [← hWA]; exact (Below.refl _ _).drew
      replace ZR := ZR.below hbd
      replace ZD := ZD.below hbd
      replace RB := RB.below hbd
      replace DB := DB.below hbd
      replace hR := Rows_.below hR hbd
      replace hoP := own_below hoP hbd
      replace hoS := own_below hoS hbd
      replace hD := hD.below hbd
      rw [hWA]
      intro hHeld
      clear hbd hWA
      clear r0 r1 r2 r3 r4 r5 r6 r7 r8 r9 r10 r11 v0 v1 v2 v3 v4 v5
      obtain ⟨⟨r0, r1, r2, r3, r4, r5⟩, r6, r7, r8, r9, r10, r11⟩ := RB.six
      obtain ⟨⟨v0, v1, v2⟩, v3, v4, v5⟩ := DB.three
      obtain ⟨⟨a0, a1, a2, a3, a4, a5⟩, a6, a7, a8, a9, a10, a11⟩ := ZR.six
      obtain ⟨⟨b0, b1, b2⟩, b3, b4, b5⟩ := ZD.three
      refine upto_take (i := 0) (v := ?v1) rfl (by kernel_rfl) (by kernel_rfl) (by kernel_rfl) (by kernel_rfl) (fun _ _ _ h => h) hHeld ?hy1 (by rfl) ?rest1
      case hy1 => (intro w' hSw; (try dsimp only at hSw); go_simp; (try with_reducible rfl))
      (try simp only [Act.put, List.setIfInBounds_toArray, List.set_cons_zero, List.set_cons_succ])
      refine upto_take (i := 1) (v := ?v2) rfl (by kernel_rfl) (by kernel_rfl) (by kernel_rfl) (by kernel_rfl) (fun _ _ _ h => h) hHeld ?hy2 (by rfl) ?rest2
      case hy2 => (intro w' hSw; (try dsimp only at hSw); go_simp; (try with_reducible rfl))
      (try simp only [Act.put, List.setIfInBounds_toArray, List.set_cons_zero, List.set_cons_succ])
      clear hHeld
      refine upto_step (k := 2) (by kernel_rfl) rfl (fun K hK => ?_)
      go_simp
      have NZR : Blk _ w.heap.size [.int .i64 X.t, .slice M nm cm, .slice B nb cb, .slice P np cp, .slice S ns cs, .slice D nd cd] := ((((((ZR.set 0 (.int .i64 X.t)).set 1 (.slice M nm cm)).set 2 (.slice B nb cb)).set 3 (.slice P np cp)).set 4 (.slice S ns cs)).set 5 (.slice D nd cd))
      have NZD := ((((((ZD.other (g := w.heap.size) (j := 0) (u := .int .i64 X.t) (by omega)).other (g := w.heap.size) (j := 1) (u := .slice M nm cm) (by omega)).other (g := w.heap.size) (j := 2) (u := .slice B nb cb) (by omega)).other (g := w.heap.size) (j := 3) (u := .slice P np cp) (by omega)).other (g := w.heap.size) (j := 4) (u := .slice S ns cs) (by omega)).other (g := w.heap.size) (j := 5) (u := .slice D nd cd) (by omega))
      have NRB := ((((((RB.other (g := w.heap.size) (j := 0) (u := .int .i64 X.t) (by omega)).other (g := w.heap.size) (j := 1) (u := .slice M nm cm) (by omega)).other (g := w.heap.size) (j := 2) (u := .slice B nb cb) (by omega)).other (g := w.heap.size) (j := 3) (u := .slice P np cp) (by omega)).other (g := w.heap.size) (j := 4) (u := .slice S ns cs) (by omega)).other (g := w.heap.size) (j := 5) (u := .slice D nd cd) (by omega))
      have NDB := ((((((DB.other (g := w.heap.size) (j := 0) (u := .int .i64 X.t) (by omega)).other (g := w.heap.size) (j := 1) (u := .slice M nm cm) (by omega)).other (g := w.heap.size) (j := 2) (u := .slice B nb cb) (by omega)).other (g := w.heap.size) (j := 3) (u := .slice P np cp) (by omega)).other (g := w.heap.size) (j := 4) (u := .slice S ns cs) (by omega)).other (g := w.heap.size) (j := 5) (u := .slice D nd cd) (by omega))
      have NhR := (Rows_.old (j := 5) (g := w.heap.size) (Rows_.old (j := 4) (g := w.heap.size) (Rows_.old (j := 3) (g := w.heap.size) (Rows_.old (j := 2) (g := w.heap.size) (Rows_.old (j := 1) (g := w.heap.size) (Rows_.old (j := 0) (g := w.heap.size) hR (by omega) (.int .i64 X.t)) (by omega) (.slice M nm cm)) (by omega) (.slice B nb cb)) (by omega) (.slice P np cp)) (by omega) (.slice S ns cs)) (by omega) (.slice D nd cd))
      have NhoP := (own_old (g := w.heap.size) (j := 5) (own_old (g := w.heap.size) (j := 4) (own_old (g := w.heap.size) (j := 3) (own_old (g := w.heap.size) (j := 2) (own_old (g := w.heap.size) (j := 1) (own_old (g := w.heap.size) (j := 0) hoP (by omega) (.int .i64 X.t)) (by omega) (.slice M nm cm)) (by omega) (.slice B nb cb)) (by omega) (.slice P np cp)) (by omega) (.slice S ns cs)) (by omega) (.slice D nd cd))
      have NhoS := (own_old (g := w.heap.size) (j := 5) (own_old (g := w.heap.size) (j := 4) (own_old (g := w.heap.size) (j := 3) (own_old (g := w.heap.size) (j := 2) (own_old (g := w.heap.size) (j := 1) (own_old (g := w.heap.size) (j := 0) hoS (by omega) (.int .i64 X.t)) (by omega) (.slice M nm cm)) (by omega) (.slice B nb cb)) (by omega) (.slice P np cp)) (by omega) (.slice S ns cs)) (by omega) (.slice D nd cd))
      have NB := (((((((Below.refl w.heap.size WA).setCell (p := ⟨w.heap.size, 0, none⟩) (Nat.le_refl _) (.int .i64 X.t)).setCell (p := ⟨w.heap.size, 1, none⟩) (Nat.le_refl _) (.slice M nm cm)).setCell (p := ⟨w.heap.size, 2, none⟩) (Nat.le_refl _) (.slice B nb cb)).setCell (p := ⟨w.heap.size, 3, none⟩) (Nat.le_refl _) (.slice P np cp)).setCell (p := ⟨w.heap.size, 4, none⟩) (Nat.le_refl _) (.slice S ns cs)).setCell (p := ⟨w.heap.size, 5, none⟩) (Nat.le_refl _) (.slice D nd cd))
      obtain ⟨WB, hWB⟩ : ∃ y_, ((((((WA).setCell ⟨w.heap.size, 0, none⟩ (.int .i64 X.t)).setCell ⟨w.heap.size, 1, none⟩ (.slice M nm cm)).setCell ⟨w.heap.size, 2, none⟩ (.slice B nb cb)).setCell ⟨w.heap.size, 3, none⟩ (.slice P np cp)).setCell ⟨w.heap.size, 4, none⟩ (.slice S ns cs)).setCell ⟨w.heap.size, 5, none⟩ (.slice D nd cd) = y_ := ⟨_, rfl⟩
      rw [hWB] at NZR NZD NRB NDB NB NhR NhoP NhoS ⊢
      clear r0 r1 r2 r3 r4 r5 r6 r7 r8 r9 r10 r11 v0 v1 v2 v3 v4 v5 a0 a1 a2 a3 a4 a5 a6 a7 a8 a9 a10 a11 b0 b1 b2 b3 b4 b5 hWB ZR ZD RB DB hR hoP hoS
      obtain ⟨⟨r0, r1, r2, r3, r4, r5⟩, r6, r7, r8, r9, r10, r11⟩ := NRB.six
      obtain ⟨⟨v0, v1, v2⟩, v3, v4, v5⟩ := NDB.three
      obtain ⟨⟨b0, b1, b2⟩, b3, b4, b5⟩ := NZD.three
      refine hK.out _ _ ?_ ?_
      · (intro _; exact ⟨⟨r0, r1, r2, r3, r4, r5⟩, v0, v1, v2⟩)
      clear hK K
      (try simp only [Act.put, List.setIfInBounds_toArray, List.set_cons_zero, List.set_cons_succ])
      refine upto_step (k := 3) (by kernel_rfl) rfl (fun K hK => ?_)
      go_simp
      have ZR := (((NZR.other (g := w.heap.size + 1) (j := 0) (u := .int .i64 td) (by omega)).other (g := w.heap.size + 1) (j := 1) (u := .slice Pd n c) (by omega)).other (g := w.heap.size + 1) (j := 2) (u := .slice Sd n d) (by omega))
      have ZD : Blk _ (w.heap.size + 1) [.int .i64 td, .slice Pd n c, .slice Sd n d] := (((NZD.set 0 (.int .i64 td)).set 1 (.slice Pd n c)).set 2 (.slice Sd n d))
      have hR := (Rows_.old (j := 2) (g := w.heap.size + 1) (Rows_.old (j := 1) (g := w.heap.size + 1) (Rows_.old (j := 0) (g := w.heap.size + 1) NhR (by omega) (.int .i64 td)) (by omega) (.slice Pd n c)) (by omega) (.slice Sd n d))
      have hoP := (own_old (g := w.heap.size + 1) (j := 2) (own_old (g := w.heap.size + 1) (j := 1) (own_old (g := w.heap.size + 1) (j := 0) NhoP (by omega) (.int .i64 td)) (by omega) (.slice Pd n c)) (by omega) (.slice Sd n d))
      have hoS := (own_old (g := w.heap.size + 1) (j := 2) (own_old (g := w.heap.size + 1) (j := 1) (own_old (g := w.heap.size + 1) (j := 0) NhoS (by omega) (.int .i64 td)) (by omega) (.slice Pd n c)) (by omega) (.slice Sd n d))
      have bb := (((NB.setCell (p := ⟨w.heap.size + 1, 0, none⟩) (by show w.heap.size ≤ w.heap.size + 1; omega) (.int .i64 td)).setCell (p := ⟨w.heap.size + 1, 1, none⟩) (by show w.heap.size ≤ w.heap.size + 1; omega) (.slice Pd n c)).setCell (p := ⟨w.heap.size + 1, 2, none⟩) (by show w.heap.size ≤ w.heap.size + 1; omega) (.slice Sd n d))
      obtain ⟨WF, hWF⟩ : ∃ y_, (((WB).setCell ⟨w.heap.size + 1, 0, none⟩ (.int .i64 td)).setCell ⟨w.heap.size + 1, 1, none⟩ (.slice Pd n c)).setCell ⟨w.heap.size + 1, 2, none⟩ (.slice Sd n d) = y_ := ⟨_, rfl⟩
      rw [hWF] at ZR ZD bb hR hoP hoS ⊢
      clear r0 r1 r2 r3 r4 r5 r6 r7 r8 r9 r10 r11 v0 v1 v2 v3 v4 v5 b0 b1 b2 b3 b4 b5 hWF NZR NZD NRB NDB NB NhR NhoP NhoS
      replace hD := hD.belowB hp bb
      refine hK.out _ _ ?_ ?_
      · (intro h; exact absurd rfl h)
      clear hK K
      (try simp only [Act.put, List.setIfInBounds_toArray, List.set_cons_zero, List.set_cons_succ])
      refine upto_done (by kernel_rfl) ?_ _
      obtain ⟨⟨a0, a1, a2, a3, a4, a5⟩, a6, a7, a8, a9, a10, a11⟩ := ZR.six
      obtain ⟨⟨b0, b1, b2⟩, b3, b4, b5⟩ := ZD.three
      clear bb ZR ZD
      go_wp2_with fail
      exact bodyPost_ret (v := .tuple #[reV X.t M B P S D nm nb np ns nd cm cb cp cs cd, doV td Pd Sd n n c d]) (by simp [results, Try.results70, go_sem, *]) rfl ⟨⟨td, Pd, Sd, n, c, d, pd, sd, l, wr.heap.size, M, B, P, S, D, nm, nb, np, ns, nd, cm, cb, cp, cs, cd, rs, kx, X, HX.out.symm, HDOC.out, hn1, hn3, rfl, HRL.out, hwr1, hR, own_base hoP (by omega), own_base hoS (by omega), fun g hg => by have := hltP.out g hg; omega, fun g hg => by have := hltS.out g hg; omega⟩, hD⟩
theorem Rows_.upd {w w' : World} {b k i : Nat} {fs : List Fld} {f f' : Fld} (h : Rows_ w b k fs) (hi : fs[i]? = some f) (hA : f'.A = f.A) (ho : w'.ownsRow b f'.e 1 (.slice f'.A f'.n f'.c) f'.n f'.xs)
    (hoth : ∀ (j : Nat) (g : Fld), i ≠ j → fs[j]? = some g → w'.ownsRow b g.e 1 (.slice g.A g.n g.c) g.n g.xs) : Rows_ w' b k (fs.set i f') := by
  have hil := get_lt hi
  have key : ∀ (j : Nat) (g : Fld), (fs.set i f')[j]? = some g → (j = i ∧ g = f') ∨ (i ≠ j ∧ fs[j]? = some g) := by
    intro j g hg
    rw [List.getElem?_set] at hg
    by_cases hij : i = j
    · subst hij
      rw [if_pos rfl, if_pos hil] at hg
      injection hg with hg
      exact .inl ⟨rfl, hg.symm⟩
    · rw [if_neg hij] at hg
      exact .inr ⟨hij, hg⟩
  refine ⟨?_, ?_, ?_⟩
  · intro j g hg
    rcases key j g hg with ⟨rfl, rfl⟩ | ⟨h1, h2⟩
    · exact ho
    · exact hoth j g h1 h2
  · intro j g hg
    rcases key j g hg with ⟨rfl, rfl⟩ | ⟨h1, h2⟩
    · rw [hA]; exact h.off j f hi
    · exact h.off j g h2
  · intro j1 j2 g1 g2 hne hg1 hg2 q hq
    rcases key j1 g1 hg1 with ⟨rfl, rfl⟩ | ⟨a1, a2⟩ <;> rcases key j2 g2 hg2 with ⟨e2, rfl⟩ | ⟨b1, b2⟩
    · omega
    · rw [hA] at hq; exact h.ap j1 j2 f g2 hne hi b2 q hq
    · subst e2; rw [hA]; exact h.ap j1 j2 g1 f hne a2 hi q hq
    · exact h.ap j1 j2 g1 g2 hne a2 b2 q hq
theorem Rows_.put {w : World} {b k i g : Nat} {fs : List Fld} {f : Fld} (h : Rows_ w b k fs) (hi : fs[i]? = some f) (hA : f.A = some ⟨g, 0, none⟩) (j : Nat) (u : Value) : Rows_ (w.setCell ⟨g, j, none⟩ u) b k (fs.set i ⟨f.e, f.A, f.n, f.c, f.xs.set j u⟩) := by
  refine h.upd hi rfl ?_ ?_
  · have ho := h.own i f hi
    rw [hA] at ho
    have := (own_set ho j u).1
    rw [← hA] at this
    exact this
  · intro i' f' hne hf'
    exact own_off (h.own i' f' hf') (fun he => h.ap i i' f f' hne hi hf' g (by rw [hA]; rfl) he) u
theorem own_cap {w : World} {b g : Nat} {e : TypeId} {s n c : Nat} {xs : List Value} (h : w.ownsRow b e s (.slice (some ⟨g, 0, none⟩) n c) n xs) : n ≤ c := by
  rcases h.2 with ⟨h1, _⟩ | ⟨g', cap, cur, hv, hb, hc, hn, hcap, hsz, ht⟩
  · cases h1
  · injection hv with h1 h2 h3
    omega
theorem own_take1 {w : World} {b g : Nat} {e : TypeId} {l : List Value} {n c k : Nat} (h : w.ownsRow b e 1 (.slice (some ⟨g, 0, none⟩) n c) n l) (hk : k ≤ n) : w.ownsRow b e 1 (.slice (some ⟨g, 0, none⟩) k c) k (l.take k) := by
  rcases h.2 with ⟨h1, _⟩ | ⟨g', cap, cur, hv, hb, hc, hn, hcap, hsz, ht⟩
  · cases h1
  · injection hv with h1 h2 h3
    have hl : l.length = n * 1 := h.1
    refine ⟨by rw [List.length_take]; omega, .inr ⟨g', cap, cur, by rw [h1, h3], hb, hc, by omega, hcap, hsz, ?_⟩⟩
    rw [← ht, List.take_take]
    congr 1
    omega
theorem bls_set (l : List Bool) (j : Nat) (x : Bool) : (bls l).set j (.bool x) = bls (l.set j x) := by simp [bls, List.map_set]
theorem redX_ps {ms hd : List Int} {t : Int} {ps : List ByteArray} {ss : List Int} : ∀ p ∈ (redX ms t ps ss hd).ps, p.size ≤ 40 := by
  unfold redX
  split
  · rename_i h
    obtain ⟨_, _, _, h4, _⟩ := isDoc_all h
    intro p hp
    simp only [rP, List.mem_map] at hp
    obtain ⟨i, _, rfl⟩ := hp
    split
    · decide
    · rw [List.getD_eq_getElem?_getD]
      cases hi : ps[i]? with
      | none => decide
      | some q => exact h4 q (List.mem_of_getElem? hi)
  · intro p hp; cases hp
/-- what l7Any hands back -/
def A7Out (w w' : World) (e : Ending) : Prop :=
  ∃ (t : Int) (M B P S D : Option Addr) (nm nb np ns nd cm cb cp cs cd : Nat) (ms : List Int) (bs : List Bool) (ps : List ByteArray) (ss : List Int) (ds : List (List Int)) (rs : List Sr) (kx : Nat) (td : Int) (Pd Sd : Option Addr) (n c d : Nat) (pd : List ByteArray) (sd : List Int),
    e = .returned (.tuple #[reV t M B P S D nm nb np ns nd cm cb cp cs cd, doV td Pd Sd n n c d]) ∧ rs.length = ds.length ∧ Rows_ w' w.heap.size kx ([⟨3, M, nm, cm, ints ms⟩, ⟨4, B, nb, cb, bls bs⟩, ⟨9, P, np, cp, sts ps⟩, ⟨3, S, ns, cs, ints ss⟩, ⟨24, D, nd, cd, srs rs⟩] ++ inn rs ds) ∧ BdR 1048576 nm nb np ns nd ds ∧ (∀ x ∈ ps, x.size ≤ 1048576) ∧ (∀ x ∈ ms, I64 x) ∧ n ≤ 3 ∧
    w'.ownsRow w.heap.size 9 1 (.slice Pd n c) n (sts pd) ∧ w'.ownsRow w.heap.size 3 1 (.slice Sd n d) n (ints sd)
set_option maxHeartbeats 16000000 in
theorem l7Any_any {p : Nat} {w : World} (hC : Cur w p) :
    Calls Try.prog 42 #[curV p] w fun e w' => A7Out w w' e ∧ Drawn w w' p := by
  obtain ⟨iInt, hiInt, hzInt0, hzInt1, hzInt2⟩ := info_parts Int_info
  have hp := hC.lt
  obtain ⟨W1, hW1⟩ : ∃ W1, (w.alloc (.cells #[.int .i64 0, .slice none 0 0, .slice none 0 0, .slice none 0 0, .slice none 0 0, .slice none 0 0] 33)).alloc (.cells #[.int .i64 0, .slice none 0 0, .slice none 0 0] 27) = W1 := ⟨_, rfl⟩
  have ZR : Blk W1 w.heap.size [.int .i64 0, .slice none 0 0, .slice none 0 0, .slice none 0 0, .slice none 0 0, .slice none 0 0] := by rw [← hW1]; exact (Blk.new _ _ _).alloc _
  have ZD : Blk W1 (w.heap.size + 1) [.int .i64 0, .slice none 0 0, .slice none 0 0] := by rw [← hW1]; exact Blk.new_ _ _ _ (by simp)
  have hb1 : Below w.heap.size w W1 := by rw [← hW1]; repeat (first | exact Below.refl _ _ | assumption | refine Below.next_ ?_ ?_ (by assumption) | refine Below.drew ?_ | refine below_drewN ?_ _ | refine Below.alloc ?_ ?_ _ | refine Below.setCell ?_ ?_ _ | omega | (simp <;> omega) | (simp at * <;> omega))
  have HW1 := hide hW1
  clear hW1
  have hz1 : w.heap.size + 1 < W1.heap.size := ZD.lt
  have hC1 := hC.below hb1
  have hp1 : p < W1.heap.size := by omega
  have hne : w.heap.size ≠ p := by omega
  have hne2 : w.heap.size + 1 ≠ p := by omega
  go_enter Try.func42, Try.ntmps42
  go_wp2_with fail
  rw [HW1.out]
  clear HW1
  refine (l7Draw_any hC1).mono ?_
  rintro e w1 ⟨⟨td, Pd, Sd, n, c, d, pd, sd, hd, z, M, B, P, S, D, nm, nb, np, ns, nd, cm, cb, cp, cs, cd, rs, kx, X, hX, hdoc, hn1, hn3, rfl, hrl, hz0, hR, hoP, hoS, hPz, hSz⟩, hd1⟩
  obtain ⟨k1, k2, k3, k4, k5⟩ := redX_ok (ms := [1, 2, 4]) (hd := hd) hdoc
  have k6 := redX_ps (ms := [1, 2, 4]) (t := td) (ps := pd) (ss := sd) (hd := hd)
  have k7 := (redX_small [1, 2, 4] td pd sd hd).l
  rw [← hX] at k1 k2 k3 k4 k5 k6 k7
  have k0 := (Rd.of_own hoP).maplen
  obtain ⟨t, ms, bs, ps, ss, ds⟩ := X
  dsimp only at k1 k2 k3 k4 k5 k6 k7 hrl hR ⊢
  have hrr := hR.rdr hrl
  obtain rfl : nm = 3 := by have h := hrr.m.len; rw [k1] at h; exact h.symm
  obtain rfl : n = nb := by have h := hrr.b.maplen; omega
  obtain rfl : n = np := by have h := hrr.p.maplen; omega
  obtain rfl : n = ns := by have h := hrr.s.len; omega
  obtain rfl : n = nd := by have h := hrr.d.len; omega
  have hRL := hide hrl
  have hMS := hide k1
  have hPS := hide k6
  have hDS := hide (show ∀ x ∈ ds, x.length ≤ 3 from k7)
  have hDL := hide (show ds.length = n by omega)
  clear hX hdoc k0 k1 k2 k3 k4 k5 k6 k7 hrr hrl
  have hz2 := hd1.2.size
  obtain ⟨qr, hqr⟩ : ∃ q, w1.heap.size = q := ⟨_, rfl⟩
  replace hR := hR.rek (k2 := qr) (by omega)
  have HLR := hide (show ∀ (i : Nat) (f : Fld), ([⟨3, M, 3, cm, ints ms⟩, ⟨4, B, n, cb, bls bs⟩, ⟨9, P, n, cp, sts ps⟩, ⟨3, S, n, cs, ints ss⟩, ⟨24, D, n, cd, srs rs⟩] ++ inn rs ds)[i]? = some f → ∀ g, blk f.A = some g → z ≤ g ∧ g < qr from fun i f hi g hg => by have := (hR.own i f hi).lt g (by rw [blk_own]; exact hg); omega)
  have hltP := hide hPz
  have hltS := hide hSz
  have HQ := hide hqr
  obtain ⟨W2, hW2⟩ : ∃ W2, (w1.alloc (.cells #[.int .i64 t, .slice M 3 cm, .slice B n cb, .slice P n cp, .slice S n cs, .slice D n cd] 33)).alloc (.cells #[.int .i64 td, .slice Pd n c, .slice Sd n d] 27) = W2 := ⟨_, rfl⟩
  have hbW2 : Below w1.heap.size w1 W2 := by rw [← hW2]; repeat (first | exact Below.refl _ _ | assumption | refine Below.next_ ?_ ?_ (by assumption) | refine Below.drew ?_ | refine below_drewN ?_ _ | refine Below.alloc ?_ ?_ _ | refine Below.setCell ?_ ?_ _ | omega | (simp <;> omega) | (simp at * <;> omega))
  have RB : Blk W2 qr [.int .i64 t, .slice M 3 cm, .slice B n cb, .slice P n cp, .slice S n cs, .slice D n cd] := by rw [← hW2, ← hqr]; exact (Blk.new _ _ _).alloc _
  have DB : Blk W2 (qr + 1) [.int .i64 td, .slice Pd n c, .slice Sd n d] := by rw [← hW2, ← hqr]; exact Blk.new_ _ _ _ (by simp)
  replace ZR := (ZR.cur hd1.2 hne).below hbW2
  replace ZD := (ZD.cur hd1.2 hne2).below hbW2
  replace hoP := own_below hoP hbW2
  replace hoS := own_below hoS hbW2
  replace hR := hR.below hbW2
  have hD := (Drawn.of hb1 hd1).below hbW2
  have hqz1 : W1.heap.size ≤ qr := by omega
  have hzq : z ≤ qr := by
    have ho : W2.ownsRow z 3 1 (.slice M 3 cm) 3 (ints ms) := hR.own 0 _ rfl
    obtain ⟨g, u, hg, hgz, _⟩ := own_at ho (j := 0) (by omega)
    have := HLR.out 0 _ rfl g (by rw [hg]; rfl)
    omega
  have hqp : qr ≠ p := by omega
  have hqp2 : qr + 1 ≠ p := by omega
  have hpz : p < z := by omega
  have hwz : w.heap.size + 1 < z := by omega
  have HW2 := hide hW2
  clear hW2 hbW2 hb1 hd1 hqr hPz hSz
  go_wp2_with fail
  rw [HW2.out, HQ.out]
  clear HW2
  refine (l1Below_any hD.1 (by omega)).mono ?_
  rintro e w3 ⟨s, rfl, hs, hsI, hd3⟩
  obtain ⟨hs0, hs1⟩ := hs.2 (by omega)
  replace ZR := ZR.cur hd3.2 hne
  replace ZD := ZD.cur hd3.2 hne2
  replace RB := RB.cur hd3.2 hqp
  replace DB := DB.cur hd3.2 hqp2
  replace hoP := own_cur hoP hd3.2 (by omega)
  replace hoS := own_cur hoS hd3.2 (by omega)
  replace hR := hR.cur hd3.2 hpz
  replace hD := hD.next hd3
  have hq3 : qr + 1 < w3.heap.size := DB.lt
  have hMI : ∀ x ∈ ms, I64 x := by rw [hMS.out]; intro x hx; simp at hx; unfold I64; omega
  have HMI := hide hMI
  clear hs hsI hd3 hMI
  by_cases h0 : s = 0
  · subst h0
    have ho5 : w3.ownsRow z 9 1 (.slice P n cp) n (sts ps) := hR.own 2 _ rfl
    obtain ⟨gP, u, rfl, hgP, hu, hcu, hfu⟩ := own_at ho5 (j := 0) (by omega)
    clear ho5
    obtain ⟨⟨r0, r1, r2, r3, r4, r5⟩, r6, r7, r8, r9, r10, r11⟩ := RB.six
    go_upto_region 16 with fail
    have hgq := HLR.out 2 _ rfl gP rfl
    have hZR := ZR.other (g := gP) (j := 0) (u := .string ⟨#[122]⟩) (by omega)
    have hZD := ZD.other (g := gP) (j := 0) (u := .string ⟨#[122]⟩) (by omega)
    have hRB := RB.other (g := gP) (j := 0) (u := .string ⟨#[122]⟩) (by omega)
    have hDB := DB.other (g := gP) (j := 0) (u := .string ⟨#[122]⟩) (by omega)
    have hRR := Rows_.put (i := 2) hR rfl rfl 0 (.string ⟨#[122]⟩)
    have hPP := own_notin (g := gP) hoP (fun h => by have := hltP.out gP h; omega) 0 (.string ⟨#[122]⟩)
    have hSS := own_notin (g := gP) hoS (fun h => by have := hltS.out gP h; omega) 0 (.string ⟨#[122]⟩)
    have hDD := hD.belowB hp ((Below.refl w.heap.size w3).setCell (p := ⟨gP, 0, none⟩) (by show w.heap.size ≤ gP; omega) (.string ⟨#[122]⟩))
    obtain ⟨V, hV⟩ : ∃ V, w3.setCell ⟨gP, 0, none⟩ (.string ⟨#[122]⟩) = V := ⟨_, rfl⟩
    rw [hV] at hZR hZD hRB hDB hRR hPP hSS hDD ⊢
    simp only [List.cons_append, List.set_cons_succ, List.set_cons_zero, List.nil_append, sts_set_] at hRR
    clear r0 r1 r2 r3 r4 r5 r6 r7 r8 r9 r10 r11 hcu hfu hu
    clear ZR ZD RB DB hR hoP hoS hD hV
    have ZR := hZR
    have ZD := hZD
    have RB := hRB
    have DB := hDB
    have hR : Rows_ V z qr ([⟨3, M, 3, cm, ints ms⟩, ⟨4, B, n, cb, bls bs⟩, ⟨9, (some ⟨gP, 0, none⟩), n, cp, sts (ps.set 0 ⟨#[122]⟩)⟩, ⟨3, S, n, cs, ints ss⟩, ⟨24, D, n, cd, srs rs⟩] ++ inn rs ds) := hRR
    have hoP := hPP
    have hoS := hSS
    have hD := hDD
    clear hZR hZD hRB hDB hRR hPP hSS hDD
    have hPS2 := hide (show ∀ x ∈ ps.set 0 ⟨#[122]⟩, x.size ≤ 1048576 from fun x hx => by
      rcases List.mem_or_eq_of_mem_set hx with h1 | rfl
      · have := hPS.out x h1; omega
      · decide)
    obtain ⟨⟨r0, r1, r2, r3, r4, r5⟩, r6, r7, r8, r9, r10, r11⟩ := RB.six
    obtain ⟨⟨v0, v1, v2⟩, v3, v4, v5⟩ := DB.three
    refine wp_region_upto (S := (fun w' => (w'.cell? ⟨qr, 0, none⟩ = some (.int .i64 t) ∧ w'.cell? ⟨qr, 1, none⟩ = some (.slice M 3 cm) ∧ w'.cell? ⟨qr, 2, none⟩ = some (.slice B n cb) ∧ w'.cell? ⟨qr, 3, none⟩ = some (.slice (some ⟨gP, 0, none⟩) n cp) ∧ w'.cell? ⟨qr, 4, none⟩ = some (.slice S n cs) ∧ w'.cell? ⟨qr, 5, none⟩ = some (.slice D n cd)) ∧ w'.cell? ⟨qr + 1, 0, none⟩ = some (.int .i64 td) ∧ w'.cell? ⟨qr + 1, 1, none⟩ = some (.slice Pd n c) ∧ w'.cell? ⟨qr + 1, 2, none⟩ = some (.slice Sd n d))) 3 (by kernel_rfl) ?_ ?_
    · exact ⟨⟨r0, r1, r2, r3, r4, r5⟩, v0, v1, v2⟩
    obtain ⟨WA, hWA⟩ : ∃ x, (V).drew = x := ⟨_, rfl⟩
    have hbd : Below (V).heap.size (V) WA := by rw [← hWA]; exact (Below.refl _ _).drew
    replace ZR := ZR.below hbd
    replace ZD := ZD.below hbd
    replace RB := RB.below hbd
    replace DB := DB.below hbd
    replace hR := Rows_.below hR hbd
    replace hoP := own_below hoP hbd
    replace hoS := own_below hoS hbd
    replace hD := hD.below hbd
    rw [hWA]
    intro hHeld
    clear hbd hWA
    clear r0 r1 r2 r3 r4 r5 r6 r7 r8 r9 r10 r11 v0 v1 v2 v3 v4 v5
    obtain ⟨⟨r0, r1, r2, r3, r4, r5⟩, r6, r7, r8, r9, r10, r11⟩ := RB.six
    obtain ⟨⟨v0, v1, v2⟩, v3, v4, v5⟩ := DB.three
    obtain ⟨⟨a0, a1, a2, a3, a4, a5⟩, a6, a7, a8, a9, a10, a11⟩ := ZR.six
    obtain ⟨⟨b0, b1, b2⟩, b3, b4, b5⟩ := ZD.three
    refine upto_take (i := 0) (v := ?v3) rfl (by kernel_rfl) (by kernel_rfl) (by kernel_rfl) (by kernel_rfl) (fun _ _ _ h => h) hHeld ?hy3 (by rfl) ?rest3
    case hy3 => (intro w' hSw; (try dsimp only at hSw); go_simp; (try with_reducible rfl))
    (try simp only [Act.put, List.setIfInBounds_toArray, List.set_cons_zero, List.set_cons_succ])
    refine upto_take (i := 1) (v := ?v4) rfl (by kernel_rfl) (by kernel_rfl) (by kernel_rfl) (by kernel_rfl) (fun _ _ _ h => h) hHeld ?hy4 (by rfl) ?rest4
    case hy4 => (intro w' hSw; (try dsimp only at hSw); go_simp; (try with_reducible rfl))
    (try simp only [Act.put, List.setIfInBounds_toArray, List.set_cons_zero, List.set_cons_succ])
    clear hHeld
    refine upto_step (k := 2) (by kernel_rfl) rfl (fun K hK => ?_)
    go_simp
    have NZR : Blk _ w.heap.size [.int .i64 t, .slice M 3 cm, .slice B n cb, .slice (some ⟨gP, 0, none⟩) n cp, .slice S n cs, .slice D n cd] := ((((((ZR.set 0 (.int .i64 t)).set 1 (.slice M 3 cm)).set 2 (.slice B n cb)).set 3 (.slice (some ⟨gP, 0, none⟩) n cp)).set 4 (.slice S n cs)).set 5 (.slice D n cd))
    have NZD := ((((((ZD.other (g := w.heap.size) (j := 0) (u := .int .i64 t) (by omega)).other (g := w.heap.size) (j := 1) (u := .slice M 3 cm) (by omega)).other (g := w.heap.size) (j := 2) (u := .slice B n cb) (by omega)).other (g := w.heap.size) (j := 3) (u := .slice (some ⟨gP, 0, none⟩) n cp) (by omega)).other (g := w.heap.size) (j := 4) (u := .slice S n cs) (by omega)).other (g := w.heap.size) (j := 5) (u := .slice D n cd) (by omega))
    have NRB := ((((((RB.other (g := w.heap.size) (j := 0) (u := .int .i64 t) (by omega)).other (g := w.heap.size) (j := 1) (u := .slice M 3 cm) (by omega)).other (g := w.heap.size) (j := 2) (u := .slice B n cb) (by omega)).other (g := w.heap.size) (j := 3) (u := .slice (some ⟨gP, 0, none⟩) n cp) (by omega)).other (g := w.heap.size) (j := 4) (u := .slice S n cs) (by omega)).other (g := w.heap.size) (j := 5) (u := .slice D n cd) (by omega))
    have NDB := ((((((DB.other (g := w.heap.size) (j := 0) (u := .int .i64 t) (by omega)).other (g := w.heap.size) (j := 1) (u := .slice M 3 cm) (by omega)).other (g := w.heap.size) (j := 2) (u := .slice B n cb) (by omega)).other (g := w.heap.size) (j := 3) (u := .slice (some ⟨gP, 0, none⟩) n cp) (by omega)).other (g := w.heap.size) (j := 4) (u := .slice S n cs) (by omega)).other (g := w.heap.size) (j := 5) (u := .slice D n cd) (by omega))
    have NhR := (Rows_.old (j := 5) (g := w.heap.size) (Rows_.old (j := 4) (g := w.heap.size) (Rows_.old (j := 3) (g := w.heap.size) (Rows_.old (j := 2) (g := w.heap.size) (Rows_.old (j := 1) (g := w.heap.size) (Rows_.old (j := 0) (g := w.heap.size) hR (by omega) (.int .i64 t)) (by omega) (.slice M 3 cm)) (by omega) (.slice B n cb)) (by omega) (.slice (some ⟨gP, 0, none⟩) n cp)) (by omega) (.slice S n cs)) (by omega) (.slice D n cd))
    have NhoP := (own_old (g := w.heap.size) (j := 5) (own_old (g := w.heap.size) (j := 4) (own_old (g := w.heap.size) (j := 3) (own_old (g := w.heap.size) (j := 2) (own_old (g := w.heap.size) (j := 1) (own_old (g := w.heap.size) (j := 0) hoP (by omega) (.int .i64 t)) (by omega) (.slice M 3 cm)) (by omega) (.slice B n cb)) (by omega) (.slice (some ⟨gP, 0, none⟩) n cp)) (by omega) (.slice S n cs)) (by omega) (.slice D n cd))
    have NhoS := (own_old (g := w.heap.size) (j := 5) (own_old (g := w.heap.size) (j := 4) (own_old (g := w.heap.size) (j := 3) (own_old (g := w.heap.size) (j := 2) (own_old (g := w.heap.size) (j := 1) (own_old (g := w.heap.size) (j := 0) hoS (by omega) (.int .i64 t)) (by omega) (.slice M 3 cm)) (by omega) (.slice B n cb)) (by omega) (.slice (some ⟨gP, 0, none⟩) n cp)) (by omega) (.slice S n cs)) (by omega) (.slice D n cd))
    have NB := (((((((Below.refl w.heap.size WA).setCell (p := ⟨w.heap.size, 0, none⟩) (Nat.le_refl _) (.int .i64 t)).setCell (p := ⟨w.heap.size, 1, none⟩) (Nat.le_refl _) (.slice M 3 cm)).setCell (p := ⟨w.heap.size, 2, none⟩) (Nat.le_refl _) (.slice B n cb)).setCell (p := ⟨w.heap.size, 3, none⟩) (Nat.le_refl _) (.slice (some ⟨gP, 0, none⟩) n cp)).setCell (p := ⟨w.heap.size, 4, none⟩) (Nat.le_refl _) (.slice S n cs)).setCell (p := ⟨w.heap.size, 5, none⟩) (Nat.le_refl _) (.slice D n cd))
    obtain ⟨WB, hWB⟩ : ∃ y_, ((((((WA).setCell ⟨w.heap.size, 0, none⟩ (.int .i64 t)).setCell ⟨w.heap.size, 1, none⟩ (.slice M 3 cm)).setCell ⟨w.heap.size, 2, none⟩ (.slice B n cb)).setCell ⟨w.heap.size, 3, none⟩ (.slice (some ⟨gP, 0, none⟩) n cp)).setCell ⟨w.heap.size, 4, none⟩ (.slice S n cs)).setCell ⟨w.heap.size, 5, none⟩ (.slice D n cd) = y_ := ⟨_, rfl⟩
    rw [hWB] at NZR NZD NRB NDB NB NhR NhoP NhoS ⊢
    clear r0 r1 r2 r3 r4 r5 r6 r7 r8 r9 r10 r11 v0 v1 v2 v3 v4 v5 a0 a1 a2 a3 a4 a5 a6 a7 a8 a9 a10 a11 b0 b1 b2 b3 b4 b5 hWB ZR ZD RB DB hR hoP hoS
    obtain ⟨⟨r0, r1, r2, r3, r4, r5⟩, r6, r7, r8, r9, r10, r11⟩ := NRB.six
    obtain ⟨⟨v0, v1, v2⟩, v3, v4, v5⟩ := NDB.three
    obtain ⟨⟨b0, b1, b2⟩, b3, b4, b5⟩ := NZD.three
    refine hK.out _ _ ?_ ?_
    · (intro _; exact ⟨⟨r0, r1, r2, r3, r4, r5⟩, v0, v1, v2⟩)
    clear hK K
    (try simp only [Act.put, List.setIfInBounds_toArray, List.set_cons_zero, List.set_cons_succ])
    refine upto_step (k := 3) (by kernel_rfl) rfl (fun K hK => ?_)
    go_simp
    have ZR := (((NZR.other (g := w.heap.size + 1) (j := 0) (u := .int .i64 td) (by omega)).other (g := w.heap.size + 1) (j := 1) (u := .slice Pd n c) (by omega)).other (g := w.heap.size + 1) (j := 2) (u := .slice Sd n d) (by omega))
    have ZD : Blk _ (w.heap.size + 1) [.int .i64 td, .slice Pd n c, .slice Sd n d] := (((NZD.set 0 (.int .i64 td)).set 1 (.slice Pd n c)).set 2 (.slice Sd n d))
    have hR := (Rows_.old (j := 2) (g := w.heap.size + 1) (Rows_.old (j := 1) (g := w.heap.size + 1) (Rows_.old (j := 0) (g := w.heap.size + 1) NhR (by omega) (.int .i64 td)) (by omega) (.slice Pd n c)) (by omega) (.slice Sd n d))
    have hoP := (own_old (g := w.heap.size + 1) (j := 2) (own_old (g := w.heap.size + 1) (j := 1) (own_old (g := w.heap.size + 1) (j := 0) NhoP (by omega) (.int .i64 td)) (by omega) (.slice Pd n c)) (by omega) (.slice Sd n d))
    have hoS := (own_old (g := w.heap.size + 1) (j := 2) (own_old (g := w.heap.size + 1) (j := 1) (own_old (g := w.heap.size + 1) (j := 0) NhoS (by omega) (.int .i64 td)) (by omega) (.slice Pd n c)) (by omega) (.slice Sd n d))
    have bb := (((NB.setCell (p := ⟨w.heap.size + 1, 0, none⟩) (by show w.heap.size ≤ w.heap.size + 1; omega) (.int .i64 td)).setCell (p := ⟨w.heap.size + 1, 1, none⟩) (by show w.heap.size ≤ w.heap.size + 1; omega) (.slice Pd n c)).setCell (p := ⟨w.heap.size + 1, 2, none⟩) (by show w.heap.size ≤ w.heap.size + 1; omega) (.slice Sd n d))
    obtain ⟨WF, hWF⟩ : ∃ y_, (((WB).setCell ⟨w.heap.size + 1, 0, none⟩ (.int .i64 td)).setCell ⟨w.heap.size + 1, 1, none⟩ (.slice Pd n c)).setCell ⟨w.heap.size + 1, 2, none⟩ (.slice Sd n d) = y_ := ⟨_, rfl⟩
    rw [hWF] at ZR ZD bb hR hoP hoS ⊢
    clear r0 r1 r2 r3 r4 r5 r6 r7 r8 r9 r10 r11 v0 v1 v2 v3 v4 v5 b0 b1 b2 b3 b4 b5 hWF NZR NZD NRB NDB NB NhR NhoP NhoS
    replace hD := hD.belowB hp bb
    refine hK.out _ _ ?_ ?_
    · (intro h; exact absurd rfl h)
    clear hK K
    (try simp only [Act.put, List.setIfInBounds_toArray, List.set_cons_zero, List.set_cons_succ])
    refine upto_done (by kernel_rfl) ?_ _
    obtain ⟨⟨a0, a1, a2, a3, a4, a5⟩, a6, a7, a8, a9, a10, a11⟩ := ZR.six
    obtain ⟨⟨b0, b1, b2⟩, b3, b4, b5⟩ := ZD.three
    clear bb ZR ZD
    go_wp2_with fail
    exact bodyPost_ret (v := .tuple #[reV t M B (some ⟨gP, 0, none⟩) S D 3 n n n n cm cb cp cs cd, doV td Pd Sd n n c d]) (by simp [results, Try.results42, go_sem, *]) rfl ⟨⟨t, M, B, (some ⟨gP, 0, none⟩), S, D, 3, n, n, n, n, cm, cb, cp, cs, cd, ms, bs, (ps.set 0 ⟨#[122]⟩), ss, ds, rs, qr, td, Pd, Sd, n, c, d, pd, sd, rfl, hRL.out, hR.base (by omega), ⟨by omega, by omega, by omega, by omega, by omega, fun x hx => by have := hDS.out x hx; omega⟩, hPS2.out, HMI.out, hn3, own_base hoP (by omega), own_base hoS (by omega)⟩, hD⟩
  have b0 : (s == 0) = false := by simpa using h0
  by_cases h1 : s = 1
  · subst h1
    clear b0 h0
    have ho5 : w3.ownsRow z 4 1 (.slice B n cb) n (bls bs) := hR.own 1 _ rfl
    obtain ⟨gB, u, rfl, hgB, hu, hcu, hfu⟩ := own_at ho5 (j := 0) (by omega)
    clear ho5 hcu hfu hu
    have hn0n : 0 < n := by omega
    go_upto_region 6 with fail
    obtain ⟨⟨r0, r1, r2, r3, r4, r5⟩, r6, r7, r8, r9, r10, r11⟩ := RB.six
    refine wp_region_upto (S := (fun w' => w'.cell? ⟨qr, 2, none⟩ = some (.slice (some ⟨gB, 0, none⟩) n cb))) 8 (by kernel_rfl) ?_ ?_
    · exact r2
    obtain ⟨w4, hw4⟩ : ∃ x, w3.drew = x := ⟨_, rfl⟩
    have hbd : Below w3.heap.size w3 w4 := by rw [← hw4]; exact (Below.refl _ _).drew
    replace ZR := ZR.below hbd
    replace ZD := ZD.below hbd
    replace RB := RB.below hbd
    replace DB := DB.below hbd
    replace hR := hR.below hbd
    replace hoP := own_below hoP hbd
    replace hoS := own_below hoS hbd
    replace hD := hD.below hbd
    rw [hw4]
    intro hHeld
    clear hbd hw4
    clear r0 r1 r2 r3 r4 r5 r6 r7 r8 r9 r10 r11
    obtain ⟨⟨r0, r1, r2, r3, r4, r5⟩, r6, r7, r8, r9, r10, r11⟩ := RB.six
    have ho5 : w4.ownsRow z 4 1 (.slice (some ⟨gB, 0, none⟩) n cb) n (bls bs) := hR.own 1 _ rfl
    obtain ⟨u, hu, hcu, hfu⟩ := own_at_ ho5 (j := 0) (by omega)
    obtain ⟨bv, hbv, rfl⟩ := map_at hu
    clear ho5 hu hbv
    refine upto_take (i := 0) (v := ?v7) rfl (by kernel_rfl) (by kernel_rfl) (by kernel_rfl) (by kernel_rfl) (fun _ _ _ h => h) hHeld ?hy7 (by rfl) ?rest7
    case hy7 => (intro w' hSw; (try dsimp only at hSw); go_simp; (try with_reducible rfl))
    (try simp only [Act.put, List.setIfInBounds_toArray, List.set_cons_zero, List.set_cons_succ])
    refine upto_take (i := 1) (v := ?v8) rfl (by kernel_rfl) (by kernel_rfl) (by kernel_rfl) (by kernel_rfl) (fun _ _ _ h => h) hHeld ?hy8 (by rfl) ?rest8
    case hy8 => (intro w' hSw; (try dsimp only at hSw); go_simp; (try with_reducible rfl))
    (try simp only [Act.put, List.setIfInBounds_toArray, List.set_cons_zero, List.set_cons_succ])
    refine upto_take (i := 2) (v := ?v9) rfl (by kernel_rfl) (by kernel_rfl) (by kernel_rfl) (by kernel_rfl) (fun _ _ _ h => h) hHeld ?hy9 (by rfl) ?rest9
    case hy9 => (intro w' hSw; (try dsimp only at hSw); go_simp; (try with_reducible rfl))
    (try simp only [Act.put, List.setIfInBounds_toArray, List.set_cons_zero, List.set_cons_succ])
    refine upto_take (i := 3) (v := ?v10) rfl (by kernel_rfl) (by kernel_rfl) (by kernel_rfl) (by kernel_rfl) (fun _ _ _ h => h) hHeld ?hy10 (by rfl) ?rest10
    case hy10 => (intro w' hSw; (try dsimp only at hSw); go_simp; (try with_reducible rfl))
    (try simp only [Act.put, List.setIfInBounds_toArray, List.set_cons_zero, List.set_cons_succ])
    clear hHeld
    refine upto_step (k := 4) (by kernel_rfl) rfl (fun K hK => ?_)
    go_simp
    (try rw [if_pos hn0n])
    (try go_simp)
    refine hK.out _ _ ?_ ?_
    · (intro _; exact r2)
    clear hK K
    (try simp only [Act.put, List.setIfInBounds_toArray, List.set_cons_zero, List.set_cons_succ])
    refine upto_step (k := 5) (by kernel_rfl) rfl (fun K hK => ?_)
    go_simp
    refine hK.out _ _ ?_ ?_
    · (intro _; exact r2)
    clear hK K
    (try simp only [Act.put, List.setIfInBounds_toArray, List.set_cons_zero, List.set_cons_succ])
    refine upto_step (k := 6) (by kernel_rfl) rfl (fun K hK => ?_)
    go_simp
    refine hK.out _ _ ?_ ?_
    · (intro _; exact r2)
    clear hK K
    (try simp only [Act.put, List.setIfInBounds_toArray, List.set_cons_zero, List.set_cons_succ])
    refine upto_step (k := 7) (by kernel_rfl) rfl (fun K hK => ?_)
    go_simp
    (try rw [if_pos hn0n])
    (try go_simp)
    refine hK.out _ _ ?_ ?_
    · (intro _; exact r2)
    clear hK K
    (try simp only [Act.put, List.setIfInBounds_toArray, List.set_cons_zero, List.set_cons_succ])
    refine upto_step (k := 8) (by kernel_rfl) rfl (fun K hK => ?_)
    go_simp
    refine hK.out _ _ ?_ ?_
    · (intro h; exact absurd rfl h)
    clear hK K
    (try simp only [Act.put, List.setIfInBounds_toArray, List.set_cons_zero, List.set_cons_succ])
    refine upto_done (by kernel_rfl) ?_ _
    go_upto_region 16 with fail
    have hgq := HLR.out 1 _ rfl gB rfl
    have hZR := ZR.other (g := gB) (j := 0) (u := .bool (!bv)) (by omega)
    have hZD := ZD.other (g := gB) (j := 0) (u := .bool (!bv)) (by omega)
    have hRB := RB.other (g := gB) (j := 0) (u := .bool (!bv)) (by omega)
    have hDB := DB.other (g := gB) (j := 0) (u := .bool (!bv)) (by omega)
    have hRR := Rows_.put (i := 1) hR rfl rfl 0 (.bool (!bv))
    have hPP := own_notin (g := gB) hoP (fun h => by have := hltP.out gB h; omega) 0 (.bool (!bv))
    have hSS := own_notin (g := gB) hoS (fun h => by have := hltS.out gB h; omega) 0 (.bool (!bv))
    have hDD := hD.belowB hp ((Below.refl w.heap.size w4).setCell (p := ⟨gB, 0, none⟩) (by show w.heap.size ≤ gB; omega) (.bool (!bv)))
    obtain ⟨V, hV⟩ : ∃ V, w4.setCell ⟨gB, 0, none⟩ (.bool (!bv)) = V := ⟨_, rfl⟩
    rw [hV] at hZR hZD hRB hDB hRR hPP hSS hDD ⊢
    simp only [List.cons_append, List.set_cons_succ, List.set_cons_zero, List.nil_append, bls_set] at hRR
    clear r0 r1 r2 r3 r4 r5 r6 r7 r8 r9 r10 r11 hcu hfu
    clear ZR ZD RB DB hR hoP hoS hD hV
    have ZR := hZR
    have ZD := hZD
    have RB := hRB
    have DB := hDB
    have hR : Rows_ V z qr ([⟨3, M, 3, cm, ints ms⟩, ⟨4, (some ⟨gB, 0, none⟩), n, cb, bls (bs.set 0 (!bv))⟩, ⟨9, P, n, cp, sts ps⟩, ⟨3, S, n, cs, ints ss⟩, ⟨24, D, n, cd, srs rs⟩] ++ inn rs ds) := hRR
    have hoP := hPP
    have hoS := hSS
    have hD := hDD
    clear hZR hZD hRB hDB hRR hPP hSS hDD
    obtain ⟨⟨r0, r1, r2, r3, r4, r5⟩, r6, r7, r8, r9, r10, r11⟩ := RB.six
    obtain ⟨⟨v0, v1, v2⟩, v3, v4, v5⟩ := DB.three
    refine wp_region_upto (S := (fun w' => (w'.cell? ⟨qr, 0, none⟩ = some (.int .i64 t) ∧ w'.cell? ⟨qr, 1, none⟩ = some (.slice M 3 cm) ∧ w'.cell? ⟨qr, 2, none⟩ = some (.slice (some ⟨gB, 0, none⟩) n cb) ∧ w'.cell? ⟨qr, 3, none⟩ = some (.slice P n cp) ∧ w'.cell? ⟨qr, 4, none⟩ = some (.slice S n cs) ∧ w'.cell? ⟨qr, 5, none⟩ = some (.slice D n cd)) ∧ w'.cell? ⟨qr + 1, 0, none⟩ = some (.int .i64 td) ∧ w'.cell? ⟨qr + 1, 1, none⟩ = some (.slice Pd n c) ∧ w'.cell? ⟨qr + 1, 2, none⟩ = some (.slice Sd n d))) 3 (by kernel_rfl) ?_ ?_
    · exact ⟨⟨r0, r1, r2, r3, r4, r5⟩, v0, v1, v2⟩
    obtain ⟨WA, hWA⟩ : ∃ x, (V).drew = x := ⟨_, rfl⟩
    have hbd : Below (V).heap.size (V) WA := by rw [← hWA]; exact (Below.refl _ _).drew
    replace ZR := ZR.below hbd
    replace ZD := ZD.below hbd
    replace RB := RB.below hbd
    replace DB := DB.below hbd
    replace hR := Rows_.below hR hbd
    replace hoP := own_below hoP hbd
    replace hoS := own_below hoS hbd
    replace hD := hD.below hbd
    rw [hWA]
    intro hHeld
    clear hbd hWA
    clear r0 r1 r2 r3 r4 r5 r6 r7 r8 r9 r10 r11 v0 v1 v2 v3 v4 v5
    obtain ⟨⟨r0, r1, r2, r3, r4, r5⟩, r6, r7, r8, r9, r10, r11⟩ := RB.six
    obtain ⟨⟨v0, v1, v2⟩, v3, v4, v5⟩ := DB.three
    obtain ⟨⟨a0, a1, a2, a3, a4, a5⟩, a6, a7, a8, a9, a10, a11⟩ := ZR.six
    obtain ⟨⟨b0, b1, b2⟩, b3, b4, b5⟩ := ZD.three
    refine upto_take (i := 0) (v := ?v11) rfl (by kernel_rfl) (by kernel_rfl) (by kernel_rfl) (by kernel_rfl) (fun _ _ _ h => h) hHeld ?hy11 (by rfl) ?rest11
    case hy11 => (intro w' hSw; (try dsimp only at hSw); go_simp; (try with_reducible rfl))
    (try simp only [Act.put, List.setIfInBounds_toArray, List.set_cons_zero, List.set_cons_succ])
    refine upto_take (i := 1) (v := ?v12) rfl (by kernel_rfl) (by kernel_rfl) (by kernel_rfl) (by kernel_rfl) (fun _ _ _ h => h) hHeld ?hy12 (by rfl) ?rest12
    case hy12 => (intro w' hSw; (try dsimp only at hSw); go_simp; (try with_reducible rfl))
    (try simp only [Act.put, List.setIfInBounds_toArray, List.set_cons_zero, List.set_cons_succ])
    clear hHeld
    refine upto_step (k := 2) (by kernel_rfl) rfl (fun K hK => ?_)
    go_simp
    have NZR : Blk _ w.heap.size [.int .i64 t, .slice M 3 cm, .slice (some ⟨gB, 0, none⟩) n cb, .slice P n cp, .slice S n cs, .slice D n cd] := ((((((ZR.set 0 (.int .i64 t)).set 1 (.slice M 3 cm)).set 2 (.slice (some ⟨gB, 0, none⟩) n cb)).set 3 (.slice P n cp)).set 4 (.slice S n cs)).set 5 (.slice D n cd))
    have NZD := ((((((ZD.other (g := w.heap.size) (j := 0) (u := .int .i64 t) (by omega)).other (g := w.heap.size) (j := 1) (u := .slice M 3 cm) (by omega)).other (g := w.heap.size) (j := 2) (u := .slice (some ⟨gB, 0, none⟩) n cb) (by omega)).other (g := w.heap.size) (j := 3) (u := .slice P n cp) (by omega)).other (g := w.heap.size) (j := 4) (u := .slice S n cs) (by omega)).other (g := w.heap.size) (j := 5) (u := .slice D n cd) (by omega))
    have NRB := ((((((RB.other (g := w.heap.size) (j := 0) (u := .int .i64 t) (by omega)).other (g := w.heap.size) (j := 1) (u := .slice M 3 cm) (by omega)).other (g := w.heap.size) (j := 2) (u := .slice (some ⟨gB, 0, none⟩) n cb) (by omega)).other (g := w.heap.size) (j := 3) (u := .slice P n cp) (by omega)).other (g := w.heap.size) (j := 4) (u := .slice S n cs) (by omega)).other (g := w.heap.size) (j := 5) (u := .slice D n cd) (by omega))
    have NDB := ((((((DB.other (g := w.heap.size) (j := 0) (u := .int .i64 t) (by omega)).other (g := w.heap.size) (j := 1) (u := .slice M 3 cm) (by omega)).other (g := w.heap.size) (j := 2) (u := .slice (some ⟨gB, 0, none⟩) n cb) (by omega)).other (g := w.heap.size) (j := 3) (u := .slice P n cp) (by omega)).other (g := w.heap.size) (j := 4) (u := .slice S n cs) (by omega)).other (g := w.heap.size) (j := 5) (u := .slice D n cd) (by omega))
    have NhR := (Rows_.old (j := 5) (g := w.heap.size) (Rows_.old (j := 4) (g := w.heap.size) (Rows_.old (j := 3) (g := w.heap.size) (Rows_.old (j := 2) (g := w.heap.size) (Rows_.old (j := 1) (g := w.heap.size) (Rows_.old (j := 0) (g := w.heap.size) hR (by omega) (.int .i64 t)) (by omega) (.slice M 3 cm)) (by omega) (.slice (some ⟨gB, 0, none⟩) n cb)) (by omega) (.slice P n cp)) (by omega) (.slice S n cs)) (by omega) (.slice D n cd))
    have NhoP := (own_old (g := w.heap.size) (j := 5) (own_old (g := w.heap.size) (j := 4) (own_old (g := w.heap.size) (j := 3) (own_old (g := w.heap.size) (j := 2) (own_old (g := w.heap.size) (j := 1) (own_old (g := w.heap.size) (j := 0) hoP (by omega) (.int .i64 t)) (by omega) (.slice M 3 cm)) (by omega) (.slice (some ⟨gB, 0, none⟩) n cb)) (by omega) (.slice P n cp)) (by omega) (.slice S n cs)) (by omega) (.slice D n cd))
    have NhoS := (own_old (g := w.heap.size) (j := 5) (own_old (g := w.heap.size) (j := 4) (own_old (g := w.heap.size) (j := 3) (own_old (g := w.heap.size) (j := 2) (own_old (g := w.heap.size) (j := 1) (own_old (g := w.heap.size) (j := 0) hoS (by omega) (.int .i64 t)) (by omega) (.slice M 3 cm)) (by omega) (.slice (some ⟨gB, 0, none⟩) n cb)) (by omega) (.slice P n cp)) (by omega) (.slice S n cs)) (by omega) (.slice D n cd))
    have NB := (((((((Below.refl w.heap.size WA).setCell (p := ⟨w.heap.size, 0, none⟩) (Nat.le_refl _) (.int .i64 t)).setCell (p := ⟨w.heap.size, 1, none⟩) (Nat.le_refl _) (.slice M 3 cm)).setCell (p := ⟨w.heap.size, 2, none⟩) (Nat.le_refl _) (.slice (some ⟨gB, 0, none⟩) n cb)).setCell (p := ⟨w.heap.size, 3, none⟩) (Nat.le_refl _) (.slice P n cp)).setCell (p := ⟨w.heap.size, 4, none⟩) (Nat.le_refl _) (.slice S n cs)).setCell (p := ⟨w.heap.size, 5, none⟩) (Nat.le_refl _) (.slice D n cd))
    obtain ⟨WB, hWB⟩ : ∃ y_, ((((((WA).setCell ⟨w.heap.size, 0, none⟩ (.int .i64 t)).setCell ⟨w.heap.size, 1, none⟩ (.slice M 3 cm)).setCell ⟨w.heap.size, 2, none⟩ (.slice (some ⟨gB, 0, none⟩) n cb)).setCell ⟨w.heap.size, 3, none⟩ (.slice P n cp)).setCell ⟨w.heap.size, 4, none⟩ (.slice S n cs)).setCell ⟨w.heap.size, 5, none⟩ (.slice D n cd) = y_ := ⟨_, rfl⟩
    rw [hWB] at NZR NZD NRB NDB NB NhR NhoP NhoS ⊢
    clear r0 r1 r2 r3 r4 r5 r6 r7 r8 r9 r10 r11 v0 v1 v2 v3 v4 v5 a0 a1 a2 a3 a4 a5 a6 a7 a8 a9 a10 a11 b0 b1 b2 b3 b4 b5 hWB ZR ZD RB DB hR hoP hoS
    obtain ⟨⟨r0, r1, r2, r3, r4, r5⟩, r6, r7, r8, r9, r10, r11⟩ := NRB.six
    obtain ⟨⟨v0, v1, v2⟩, v3, v4, v5⟩ := NDB.three
    obtain ⟨⟨b0, b1, b2⟩, b3, b4, b5⟩ := NZD.three
    refine hK.out _ _ ?_ ?_
    · (intro _; exact ⟨⟨r0, r1, r2, r3, r4, r5⟩, v0, v1, v2⟩)
    clear hK K
    (try simp only [Act.put, List.setIfInBounds_toArray, List.set_cons_zero, List.set_cons_succ])
    refine upto_step (k := 3) (by kernel_rfl) rfl (fun K hK => ?_)
    go_simp
    have ZR := (((NZR.other (g := w.heap.size + 1) (j := 0) (u := .int .i64 td) (by omega)).other (g := w.heap.size + 1) (j := 1) (u := .slice Pd n c) (by omega)).other (g := w.heap.size + 1) (j := 2) (u := .slice Sd n d) (by omega))
    have ZD : Blk _ (w.heap.size + 1) [.int .i64 td, .slice Pd n c, .slice Sd n d] := (((NZD.set 0 (.int .i64 td)).set 1 (.slice Pd n c)).set 2 (.slice Sd n d))
    have hR := (Rows_.old (j := 2) (g := w.heap.size + 1) (Rows_.old (j := 1) (g := w.heap.size + 1) (Rows_.old (j := 0) (g := w.heap.size + 1) NhR (by omega) (.int .i64 td)) (by omega) (.slice Pd n c)) (by omega) (.slice Sd n d))
    have hoP := (own_old (g := w.heap.size + 1) (j := 2) (own_old (g := w.heap.size + 1) (j := 1) (own_old (g := w.heap.size + 1) (j := 0) NhoP (by omega) (.int .i64 td)) (by omega) (.slice Pd n c)) (by omega) (.slice Sd n d))
    have hoS := (own_old (g := w.heap.size + 1) (j := 2) (own_old (g := w.heap.size + 1) (j := 1) (own_old (g := w.heap.size + 1) (j := 0) NhoS (by omega) (.int .i64 td)) (by omega) (.slice Pd n c)) (by omega) (.slice Sd n d))
    have bb := (((NB.setCell (p := ⟨w.heap.size + 1, 0, none⟩) (by show w.heap.size ≤ w.heap.size + 1; omega) (.int .i64 td)).setCell (p := ⟨w.heap.size + 1, 1, none⟩) (by show w.heap.size ≤ w.heap.size + 1; omega) (.slice Pd n c)).setCell (p := ⟨w.heap.size + 1, 2, none⟩) (by show w.heap.size ≤ w.heap.size + 1; omega) (.slice Sd n d))
    obtain ⟨WF, hWF⟩ : ∃ y_, (((WB).setCell ⟨w.heap.size + 1, 0, none⟩ (.int .i64 td)).setCell ⟨w.heap.size + 1, 1, none⟩ (.slice Pd n c)).setCell ⟨w.heap.size + 1, 2, none⟩ (.slice Sd n d) = y_ := ⟨_, rfl⟩
    rw [hWF] at ZR ZD bb hR hoP hoS ⊢
    clear r0 r1 r2 r3 r4 r5 r6 r7 r8 r9 r10 r11 v0 v1 v2 v3 v4 v5 b0 b1 b2 b3 b4 b5 hWF NZR NZD NRB NDB NB NhR NhoP NhoS
    replace hD := hD.belowB hp bb
    refine hK.out _ _ ?_ ?_
    · (intro h; exact absurd rfl h)
    clear hK K
    (try simp only [Act.put, List.setIfInBounds_toArray, List.set_cons_zero, List.set_cons_succ])
    refine upto_done (by kernel_rfl) ?_ _
    obtain ⟨⟨a0, a1, a2, a3, a4, a5⟩, a6, a7, a8, a9, a10, a11⟩ := ZR.six
    obtain ⟨⟨b0, b1, b2⟩, b3, b4, b5⟩ := ZD.three
    clear bb ZR ZD
    go_wp2_with fail
    exact bodyPost_ret (v := .tuple #[reV t M (some ⟨gB, 0, none⟩) P S D 3 n n n n cm cb cp cs cd, doV td Pd Sd n n c d]) (by simp [results, Try.results42, go_sem, *]) rfl ⟨⟨t, M, (some ⟨gB, 0, none⟩), P, S, D, 3, n, n, n, n, cm, cb, cp, cs, cd, ms, (bs.set 0 (!bv)), ps, ss, ds, rs, qr, td, Pd, Sd, n, c, d, pd, sd, rfl, hRL.out, hR.base (by omega), ⟨by omega, by omega, by omega, by omega, by omega, fun x hx => by have := hDS.out x hx; omega⟩, fun x hx => by have := hPS.out x hx; omega, HMI.out, hn3, own_base hoP (by omega), own_base hoS (by omega)⟩, hD⟩
  have b1 : (s == 1) = false := by simpa using h1
  by_cases h2 : s = 2
  · subst h2
    clear b0 b1 h0 h1
    have ho5 : w3.ownsRow z 3 1 (.slice M 3 cm) 3 (ints ms) := hR.own 0 _ rfl
    obtain ⟨gM, u, rfl, hgM, hu, hcu, hfu⟩ := own_at ho5 (j := 0) (by omega)
    have hcap := own_cap ho5
    clear hcu hfu hu
    have hc2 : (2 : Int) ≤ (cm : Int) := by omega
    have hc2n : 2 ≤ cm := by omega
    obtain ⟨⟨r0, r1, r2, r3, r4, r5⟩, r6, r7, r8, r9, r10, r11⟩ := RB.six
    go_upto_region 16 with fail
    have hR2 : Rows_ w3 z qr ([⟨3, (some ⟨gM, 0, none⟩), 2, cm, ints (ms.take 2)⟩, ⟨4, B, n, cb, bls bs⟩, ⟨9, P, n, cp, sts ps⟩, ⟨3, S, n, cs, ints ss⟩, ⟨24, D, n, cd, srs rs⟩] ++ inn rs ds) := Rows_.upd (i := 0) (f' := ⟨3, (some ⟨gM, 0, none⟩), 2, cm, ints (ms.take 2)⟩) hR rfl rfl (by have h := own_take1 ho5 (k := 2) (by omega); rw [show (ints ms).take 2 = ints (ms.take 2) by simp [ints, List.map_take]] at h; exact h) (fun j g _ hg => hR.own j g hg)
    have hZR := ZR.other (g := qr) (j := 1) (u := .slice (some ⟨gM, 0, none⟩) 2 cm) (by omega)
    have hZD := ZD.other (g := qr) (j := 1) (u := .slice (some ⟨gM, 0, none⟩) 2 cm) (by omega)
    have hDB := DB.other (g := qr) (j := 1) (u := .slice (some ⟨gM, 0, none⟩) 2 cm) (by omega)
    have hRB : Blk _ qr [.int .i64 t, .slice (some ⟨gM, 0, none⟩) 2 cm, .slice B n cb, .slice P n cp, .slice S n cs, .slice D n cd] := RB.set 1 (.slice (some ⟨gM, 0, none⟩) 2 cm)
    have hRR := Rows_.set (j := 1) hR2 (.slice (some ⟨gM, 0, none⟩) 2 cm)
    have hPP := own_notin (g := qr) hoP (fun h => by have := hltP.out qr h; omega) 1 (.slice (some ⟨gM, 0, none⟩) 2 cm)
    have hSS := own_notin (g := qr) hoS (fun h => by have := hltS.out qr h; omega) 1 (.slice (some ⟨gM, 0, none⟩) 2 cm)
    have hDD := hD.belowB hp ((Below.refl w.heap.size w3).setCell (p := ⟨qr, 1, none⟩) (by show w.heap.size ≤ qr; omega) (.slice (some ⟨gM, 0, none⟩) 2 cm))
    obtain ⟨V, hV⟩ : ∃ V, w3.setCell ⟨qr, 1, none⟩ (.slice (some ⟨gM, 0, none⟩) 2 cm) = V := ⟨_, rfl⟩
    rw [hV] at hZR hZD hRB hDB hRR hPP hSS hDD ⊢
    clear r0 r1 r2 r3 r4 r5 r6 r7 r8 r9 r10 r11 ho5 hR2
    clear ZR ZD RB DB hR hoP hoS hD hV
    have ZR := hZR
    have ZD := hZD
    have RB := hRB
    have DB := hDB
    have hR : Rows_ V z qr ([⟨3, (some ⟨gM, 0, none⟩), 2, cm, ints (ms.take 2)⟩, ⟨4, B, n, cb, bls bs⟩, ⟨9, P, n, cp, sts ps⟩, ⟨3, S, n, cs, ints ss⟩, ⟨24, D, n, cd, srs rs⟩] ++ inn rs ds) := hRR
    have hoP := hPP
    have hoS := hSS
    have hD := hDD
    clear hZR hZD hRB hDB hRR hPP hSS hDD
    obtain ⟨⟨r0, r1, r2, r3, r4, r5⟩, r6, r7, r8, r9, r10, r11⟩ := RB.six
    obtain ⟨⟨v0, v1, v2⟩, v3, v4, v5⟩ := DB.three
    refine wp_region_upto (S := (fun w' => (w'.cell? ⟨qr, 0, none⟩ = some (.int .i64 t) ∧ w'.cell? ⟨qr, 1, none⟩ = some (.slice (some ⟨gM, 0, none⟩) 2 cm) ∧ w'.cell? ⟨qr, 2, none⟩ = some (.slice B n cb) ∧ w'.cell? ⟨qr, 3, none⟩ = some (.slice P n cp) ∧ w'.cell? ⟨qr, 4, none⟩ = some (.slice S n cs) ∧ w'.cell? ⟨qr, 5, none⟩ = some (.slice D n cd)) ∧ w'.cell? ⟨qr + 1, 0, none⟩ = some (.int .i64 td) ∧ w'.cell? ⟨qr + 1, 1, none⟩ = some (.slice Pd n c) ∧ w'.cell? ⟨qr + 1, 2, none⟩ = some (.slice Sd n d))) 3 (by kernel_rfl) ?_ ?_
    · exact ⟨⟨r0, r1, r2, r3, r4, r5⟩, v0, v1, v2⟩
    obtain ⟨WA, hWA⟩ : ∃ x, (V).drew = x := ⟨_, rfl⟩
    have hbd : Below (V).heap.size (V) WA := by rw [← hWA]; exact (Below.refl _ _).drew
    replace ZR := ZR.below hbd
    replace ZD := ZD.below hbd
    replace RB := RB.below hbd
    replace DB := DB.below hbd
    replace hR := Rows_.below hR hbd
    replace hoP := own_below hoP hbd
    replace hoS := own_below hoS hbd
    replace hD := hD.below hbd
    rw [hWA]
    intro hHeld
    clear hbd hWA
    clear r0 r1 r2 r3 r4 r5 r6 r7 r8 r9 r10 r11 v0 v1 v2 v3 v4 v5
    obtain ⟨⟨r0, r1, r2, r3, r4, r5⟩, r6, r7, r8, r9, r10, r11⟩ := RB.six
    obtain ⟨⟨v0, v1, v2⟩, v3, v4, v5⟩ := DB.three
    obtain ⟨⟨a0, a1, a2, a3, a4, a5⟩, a6, a7, a8, a9, a10, a11⟩ := ZR.six
    obtain ⟨⟨b0, b1, b2⟩, b3, b4, b5⟩ := ZD.three
    refine upto_take (i := 0) (v := ?v13) rfl (by kernel_rfl) (by kernel_rfl) (by kernel_rfl) (by kernel_rfl) (fun _ _ _ h => h) hHeld ?hy13 (by rfl) ?rest13
    case hy13 => (intro w' hSw; (try dsimp only at hSw); go_simp; (try with_reducible rfl))
    (try simp only [Act.put, List.setIfInBounds_toArray, List.set_cons_zero, List.set_cons_succ])
    refine upto_take (i := 1) (v := ?v14) rfl (by kernel_rfl) (by kernel_rfl) (by kernel_rfl) (by kernel_rfl) (fun _ _ _ h => h) hHeld ?hy14 (by rfl) ?rest14
    case hy14 => (intro w' hSw; (try dsimp only at hSw); go_simp; (try with_reducible rfl))
    (try simp only [Act.put, List.setIfInBounds_toArray, List.set_cons_zero, List.set_cons_succ])
    clear hHeld
    refine upto_step (k := 2) (by kernel_rfl) rfl (fun K hK => ?_)
    go_simp
    have NZR : Blk _ w.heap.size [.int .i64 t, .slice (some ⟨gM, 0, none⟩) 2 cm, .slice B n cb, .slice P n cp, .slice S n cs, .slice D n cd] := ((((((ZR.set 0 (.int .i64 t)).set 1 (.slice (some ⟨gM, 0, none⟩) 2 cm)).set 2 (.slice B n cb)).set 3 (.slice P n cp)).set 4 (.slice S n cs)).set 5 (.slice D n cd))
    have NZD := ((((((ZD.other (g := w.heap.size) (j := 0) (u := .int .i64 t) (by omega)).other (g := w.heap.size) (j := 1) (u := .slice (some ⟨gM, 0, none⟩) 2 cm) (by omega)).other (g := w.heap.size) (j := 2) (u := .slice B n cb) (by omega)).other (g := w.heap.size) (j := 3) (u := .slice P n cp) (by omega)).other (g := w.heap.size) (j := 4) (u := .slice S n cs) (by omega)).other (g := w.heap.size) (j := 5) (u := .slice D n cd) (by omega))
    have NRB := ((((((RB.other (g := w.heap.size) (j := 0) (u := .int .i64 t) (by omega)).other (g := w.heap.size) (j := 1) (u := .slice (some ⟨gM, 0, none⟩) 2 cm) (by omega)).other (g := w.heap.size) (j := 2) (u := .slice B n cb) (by omega)).other (g := w.heap.size) (j := 3) (u := .slice P n cp) (by omega)).other (g := w.heap.size) (j := 4) (u := .slice S n cs) (by omega)).other (g := w.heap.size) (j := 5) (u := .slice D n cd) (by omega))
    have NDB := ((((((DB.other (g := w.heap.size) (j := 0) (u := .int .i64 t) (by omega)).other (g := w.heap.size) (j := 1) (u := .slice (some ⟨gM, 0, none⟩) 2 cm) (by omega)).other (g := w.heap.size) (j := 2) (u := .slice B n cb) (by omega)).other (g := w.heap.size) (j := 3) (u := .slice P n cp) (by omega)).other (g := w.heap.size) (j := 4) (u := .slice S n cs) (by omega)).other (g := w.heap.size) (j := 5) (u := .slice D n cd) (by omega))
    have NhR := (Rows_.old (j := 5) (g := w.heap.size) (Rows_.old (j := 4) (g := w.heap.size) (Rows_.old (j := 3) (g := w.heap.size) (Rows_.old (j := 2) (g := w.heap.size) (Rows_.old (j := 1) (g := w.heap.size) (Rows_.old (j := 0) (g := w.heap.size) hR (by omega) (.int .i64 t)) (by omega) (.slice (some ⟨gM, 0, none⟩) 2 cm)) (by omega) (.slice B n cb)) (by omega) (.slice P n cp)) (by omega) (.slice S n cs)) (by omega) (.slice D n cd))
    have NhoP := (own_old (g := w.heap.size) (j := 5) (own_old (g := w.heap.size) (j := 4) (own_old (g := w.heap.size) (j := 3) (own_old (g := w.heap.size) (j := 2) (own_old (g := w.heap.size) (j := 1) (own_old (g := w.heap.size) (j := 0) hoP (by omega) (.int .i64 t)) (by omega) (.slice (some ⟨gM, 0, none⟩) 2 cm)) (by omega) (.slice B n cb)) (by omega) (.slice P n cp)) (by omega) (.slice S n cs)) (by omega) (.slice D n cd))
    have NhoS := (own_old (g := w.heap.size) (j := 5) (own_old (g := w.heap.size) (j := 4) (own_old (g := w.heap.size) (j := 3) (own_old (g := w.heap.size) (j := 2) (own_old (g := w.heap.size) (j := 1) (own_old (g := w.heap.size) (j := 0) hoS (by omega) (.int .i64 t)) (by omega) (.slice (some ⟨gM, 0, none⟩) 2 cm)) (by omega) (.slice B n cb)) (by omega) (.slice P n cp)) (by omega) (.slice S n cs)) (by omega) (.slice D n cd))
    have NB := (((((((Below.refl w.heap.size WA).setCell (p := ⟨w.heap.size, 0, none⟩) (Nat.le_refl _) (.int .i64 t)).setCell (p := ⟨w.heap.size, 1, none⟩) (Nat.le_refl _) (.slice (some ⟨gM, 0, none⟩) 2 cm)).setCell (p := ⟨w.heap.size, 2, none⟩) (Nat.le_refl _) (.slice B n cb)).setCell (p := ⟨w.heap.size, 3, none⟩) (Nat.le_refl _) (.slice P n cp)).setCell (p := ⟨w.heap.size, 4, none⟩) (Nat.le_refl _) (.slice S n cs)).setCell (p := ⟨w.heap.size, 5, none⟩) (Nat.le_refl _) (.slice D n cd))
    obtain ⟨WB, hWB⟩ : ∃ y_, ((((((WA).setCell ⟨w.heap.size, 0, none⟩ (.int .i64 t)).setCell ⟨w.heap.size, 1, none⟩ (.slice (some ⟨gM, 0, none⟩) 2 cm)).setCell ⟨w.heap.size, 2, none⟩ (.slice B n cb)).setCell ⟨w.heap.size, 3, none⟩ (.slice P n cp)).setCell ⟨w.heap.size, 4, none⟩ (.slice S n cs)).setCell ⟨w.heap.size, 5, none⟩ (.slice D n cd) = y_ := ⟨_, rfl⟩
    rw [hWB] at NZR NZD NRB NDB NB NhR NhoP NhoS ⊢
    clear r0 r1 r2 r3 r4 r5 r6 r7 r8 r9 r10 r11 v0 v1 v2 v3 v4 v5 a0 a1 a2 a3 a4 a5 a6 a7 a8 a9 a10 a11 b0 b1 b2 b3 b4 b5 hWB ZR ZD RB DB hR hoP hoS
    obtain ⟨⟨r0, r1, r2, r3, r4, r5⟩, r6, r7, r8, r9, r10, r11⟩ := NRB.six
    obtain ⟨⟨v0, v1, v2⟩, v3, v4, v5⟩ := NDB.three
    obtain ⟨⟨b0, b1, b2⟩, b3, b4, b5⟩ := NZD.three
    refine hK.out _ _ ?_ ?_
    · (intro _; exact ⟨⟨r0, r1, r2, r3, r4, r5⟩, v0, v1, v2⟩)
    clear hK K
    (try simp only [Act.put, List.setIfInBounds_toArray, List.set_cons_zero, List.set_cons_succ])
    refine upto_step (k := 3) (by kernel_rfl) rfl (fun K hK => ?_)
    go_simp
    have ZR := (((NZR.other (g := w.heap.size + 1) (j := 0) (u := .int .i64 td) (by omega)).other (g := w.heap.size + 1) (j := 1) (u := .slice Pd n c) (by omega)).other (g := w.heap.size + 1) (j := 2) (u := .slice Sd n d) (by omega))
    have ZD : Blk _ (w.heap.size + 1) [.int .i64 td, .slice Pd n c, .slice Sd n d] := (((NZD.set 0 (.int .i64 td)).set 1 (.slice Pd n c)).set 2 (.slice Sd n d))
    have hR := (Rows_.old (j := 2) (g := w.heap.size + 1) (Rows_.old (j := 1) (g := w.heap.size + 1) (Rows_.old (j := 0) (g := w.heap.size + 1) NhR (by omega) (.int .i64 td)) (by omega) (.slice Pd n c)) (by omega) (.slice Sd n d))
    have hoP := (own_old (g := w.heap.size + 1) (j := 2) (own_old (g := w.heap.size + 1) (j := 1) (own_old (g := w.heap.size + 1) (j := 0) NhoP (by omega) (.int .i64 td)) (by omega) (.slice Pd n c)) (by omega) (.slice Sd n d))
    have hoS := (own_old (g := w.heap.size + 1) (j := 2) (own_old (g := w.heap.size + 1) (j := 1) (own_old (g := w.heap.size + 1) (j := 0) NhoS (by omega) (.int .i64 td)) (by omega) (.slice Pd n c)) (by omega) (.slice Sd n d))
    have bb := (((NB.setCell (p := ⟨w.heap.size + 1, 0, none⟩) (by show w.heap.size ≤ w.heap.size + 1; omega) (.int .i64 td)).setCell (p := ⟨w.heap.size + 1, 1, none⟩) (by show w.heap.size ≤ w.heap.size + 1; omega) (.slice Pd n c)).setCell (p := ⟨w.heap.size + 1, 2, none⟩) (by show w.heap.size ≤ w.heap.size + 1; omega) (.slice Sd n d))
    obtain ⟨WF, hWF⟩ : ∃ y_, (((WB).setCell ⟨w.heap.size + 1, 0, none⟩ (.int .i64 td)).setCell ⟨w.heap.size + 1, 1, none⟩ (.slice Pd n c)).setCell ⟨w.heap.size + 1, 2, none⟩ (.slice Sd n d) = y_ := ⟨_, rfl⟩
    rw [hWF] at ZR ZD bb hR hoP hoS ⊢
    clear r0 r1 r2 r3 r4 r5 r6 r7 r8 r9 r10 r11 v0 v1 v2 v3 v4 v5 b0 b1 b2 b3 b4 b5 hWF NZR NZD NRB NDB NB NhR NhoP NhoS
    replace hD := hD.belowB hp bb
    refine hK.out _ _ ?_ ?_
    · (intro h; exact absurd rfl h)
    clear hK K
    (try simp only [Act.put, List.setIfInBounds_toArray, List.set_cons_zero, List.set_cons_succ])
    refine upto_done (by kernel_rfl) ?_ _
    obtain ⟨⟨a0, a1, a2, a3, a4, a5⟩, a6, a7, a8, a9, a10, a11⟩ := ZR.six
    obtain ⟨⟨b0, b1, b2⟩, b3, b4, b5⟩ := ZD.three
    clear bb ZR ZD
    go_wp2_with fail
    exact bodyPost_ret (v := .tuple #[reV t (some ⟨gM, 0, none⟩) B P S D 2 n n n n cm cb cp cs cd, doV td Pd Sd n n c d]) (by simp [results, Try.results42, go_sem, *]) rfl ⟨⟨t, (some ⟨gM, 0, none⟩), B, P, S, D, 2, n, n, n, n, cm, cb, cp, cs, cd, (ms.take 2), bs, ps, ss, ds, rs, qr, td, Pd, Sd, n, c, d, pd, sd, rfl, hRL.out, hR.base (by omega), ⟨by omega, by omega, by omega, by omega, by omega, fun x hx => by have := hDS.out x hx; omega⟩, fun x hx => by have := hPS.out x hx; omega, fun x hx => HMI.out x (List.mem_of_mem_take hx), hn3, own_base hoP (by omega), own_base hoS (by omega)⟩, hD⟩
  have b2 : (s == 2) = false := by simpa using h2
  by_cases h3 : s = 3
  · subst h3
    clear b0 b1 b2 h0 h1 h2
    have ho5 : w3.ownsRow z 3 1 (.slice S n cs) n (ints ss) := hR.own 3 _ rfl
    have hoff : ¬ blk S = some qr := hR.off 3 _ rfl
    have hSz := HLR.out 3 _ rfl
    dsimp only at hSz
    have HSz := hide hSz
    clear hSz
    have hzz : w.heap.size ≤ w3.heap.size := by omega
    have hal := (Below.refl w3.heap.size w3).alloc (Nat.le_refl _) (.cells #[.int .i64 5] 3)
    obtain ⟨⟨r0, r1, r2, r3, r4, r5⟩, r6, r7, r8, r9, r10, r11⟩ := RB.six
    go_upto_region 16 with (at_builtin; refine wpList_app2 _ rfl (.tmp 37) (.tmp 38) 24 rfl 3 iInt (.int .i64 0) 1 8 Try.underlying24 hiInt hzInt0 hzInt1 hzInt2 rfl (by omega) rfl (ho5.alloc _) rfl (Rd.one _ _ _) (ints_one [_]) (by unfold maxLen; omega) (by omega) rfl rfl (B := w.heap.size) (w0 := w3) ((Below.refl w.heap.size w3).alloc hzz _) (by simp; omega) (by omega) (by simp; omega) ?_; intro A4 c4 w4 ho4 hb4 hg4 hat4; have RBq := (RB.alloc _).grown hg4 hoff; obtain ⟨⟨k0, k1, k2, k3, k4, k5⟩, k6, k7, k8, k9, k10, k11⟩ := RBq.six)
    have hR4 : Rows_ w4 z qr ([⟨3, M, 3, cm, ints ms⟩, ⟨4, B, n, cb, bls bs⟩, ⟨9, P, n, cp, sts ps⟩, ⟨3, A4, (n + 1), c4, ints (ss ++ [5])⟩, ⟨24, D, n, cd, srs rs⟩] ++ inn rs ds) := by
      have h := Rows_.app (i := 3) hR (by omega) rfl hal ho4 hg4 hat4
      simp only [List.cons_append, List.set_cons_succ, List.set_cons_zero, List.nil_append] at h
      rw [ints_snoc]
      exact h
    replace ZR := (ZR.alloc _).grown hg4 (fun h => by have := HSz.out w.heap.size h; omega)
    replace ZD := (ZD.alloc _).grown hg4 (fun h => by have := HSz.out _ h; omega)
    replace DB := (DB.alloc _).grown hg4 (fun h => by have := HSz.out _ h; omega)
    replace hoP := own_kept (hoP.alloc _) hg4 (fun g hg he => by have := HSz.out g he; have := hltP.out g hg; omega)
    replace hoS := own_kept (hoS.alloc _) hg4 (fun g hg he => by have := HSz.out g he; have := hltS.out g hg; omega)
    replace hD := hD.belowB hp hb4
    replace RB := RBq
    have hZR := ZR.other (g := qr) (j := 4) (u := .slice A4 (n + 1) c4) (by omega)
    have hZD := ZD.other (g := qr) (j := 4) (u := .slice A4 (n + 1) c4) (by omega)
    have hDB := DB.other (g := qr) (j := 4) (u := .slice A4 (n + 1) c4) (by omega)
    have hRB : Blk _ qr [.int .i64 t, .slice M 3 cm, .slice B n cb, .slice P n cp, .slice A4 (n + 1) c4, .slice D n cd] := RB.set 4 (.slice A4 (n + 1) c4)
    have hRR := Rows_.set (j := 4) hR4 (.slice A4 (n + 1) c4)
    have hPP := own_notin (g := qr) hoP (fun h => by have := hltP.out qr h; omega) 4 (.slice A4 (n + 1) c4)
    have hSS := own_notin (g := qr) hoS (fun h => by have := hltS.out qr h; omega) 4 (.slice A4 (n + 1) c4)
    have hDD := hD.belowB hp ((Below.refl w.heap.size w4).setCell (p := ⟨qr, 4, none⟩) (by show w.heap.size ≤ qr; omega) (.slice A4 (n + 1) c4))
    obtain ⟨V, hV⟩ : ∃ V, w4.setCell ⟨qr, 4, none⟩ (.slice A4 (n + 1) c4) = V := ⟨_, rfl⟩
    rw [hV] at hZR hZD hRB hDB hRR hPP hSS hDD ⊢
    clear r0 r1 r2 r3 r4 r5 r6 r7 r8 r9 r10 r11 k0 k1 k2 k3 k4 k5 k6 k7 k8 k9 k10 k11 ho5 ho4 hb4 hg4 hat4 hal hR4 RBq hoff HSz
    clear ZR ZD RB DB hR hoP hoS hD hV
    have ZR := hZR
    have ZD := hZD
    have RB := hRB
    have DB := hDB
    have hR : Rows_ V z qr ([⟨3, M, 3, cm, ints ms⟩, ⟨4, B, n, cb, bls bs⟩, ⟨9, P, n, cp, sts ps⟩, ⟨3, A4, (n + 1), c4, ints (ss ++ [5])⟩, ⟨24, D, n, cd, srs rs⟩] ++ inn rs ds) := hRR
    have hoP := hPP
    have hoS := hSS
    have hD := hDD
    clear hZR hZD hRB hDB hRR hPP hSS hDD
    obtain ⟨⟨r0, r1, r2, r3, r4, r5⟩, r6, r7, r8, r9, r10, r11⟩ := RB.six
    obtain ⟨⟨v0, v1, v2⟩, v3, v4, v5⟩ := DB.three
    refine wp_region_upto (S := (fun w' => (w'.cell? ⟨qr, 0, none⟩ = some (.int .i64 t) ∧ w'.cell? ⟨qr, 1, none⟩ = some (.slice M 3 cm) ∧ w'.cell? ⟨qr, 2, none⟩ = some (.slice B n cb) ∧ w'.cell? ⟨qr, 3, none⟩ = some (.slice P n cp) ∧ w'.cell? ⟨qr, 4, none⟩ = some (.slice A4 (n + 1) c4) ∧ w'.cell? ⟨qr, 5, none⟩ = some (.slice D n cd)) ∧ w'.cell? ⟨qr + 1, 0, none⟩ = some (.int .i64 td) ∧ w'.cell? ⟨qr + 1, 1, none⟩ = some (.slice Pd n c) ∧ w'.cell? ⟨qr + 1, 2, none⟩ = some (.slice Sd n d))) 3 (by kernel_rfl) ?_ ?_
    · exact ⟨⟨r0, r1, r2, r3, r4, r5⟩, v0, v1, v2⟩
    obtain ⟨WA, hWA⟩ : ∃ x, (V).drew = x := ⟨_, rfl⟩
    have hbd : Below (V).heap.size (V) WA := by rw [← hWA]; exact (Below.refl _ _).drew
    replace ZR := ZR.below hbd
    replace ZD := ZD.below hbd
    replace RB := RB.below hbd
    replace DB := DB.below hbd
    replace hR := Rows_.below hR hbd
    replace hoP := own_below hoP hbd
    replace hoS := own_below hoS hbd
    replace hD := hD.below hbd
    rw [hWA]
    intro hHeld
    clear hbd hWA
    clear r0 r1 r2 r3 r4 r5 r6 r7 r8 r9 r10 r11 v0 v1 v2 v3 v4 v5
    obtain ⟨⟨r0, r1, r2, r3, r4, r5⟩, r6, r7, r8, r9, r10, r11⟩ := RB.six
    obtain ⟨⟨v0, v1, v2⟩, v3, v4, v5⟩ := DB.three
    obtain ⟨⟨a0, a1, a2, a3, a4, a5⟩, a6, a7, a8, a9, a10, a11⟩ := ZR.six
    obtain ⟨⟨b0, b1, b2⟩, b3, b4, b5⟩ := ZD.three
    refine upto_take (i := 0) (v := ?v15) rfl (by kernel_rfl) (by kernel_rfl) (by kernel_rfl) (by kernel_rfl) (fun _ _ _ h => h) hHeld ?hy15 (by rfl) ?rest15
    case hy15 => (intro w' hSw; (try dsimp only at hSw); go_simp; (try with_reducible rfl))
    (try simp only [Act.put, List.setIfInBounds_toArray, List.set_cons_zero, List.set_cons_succ])
    refine upto_take (i := 1) (v := ?v16) rfl (by kernel_rfl) (by kernel_rfl) (by kernel_rfl) (by kernel_rfl) (fun _ _ _ h => h) hHeld ?hy16 (by rfl) ?rest16
    case hy16 => (intro w' hSw; (try dsimp only at hSw); go_simp; (try with_reducible rfl))
    (try simp only [Act.put, List.setIfInBounds_toArray, List.set_cons_zero, List.set_cons_succ])
    clear hHeld
    refine upto_step (k := 2) (by kernel_rfl) rfl (fun K hK => ?_)
    go_simp
    have NZR : Blk _ w.heap.size [.int .i64 t, .slice M 3 cm, .slice B n cb, .slice P n cp, .slice A4 (n + 1) c4, .slice D n cd] := ((((((ZR.set 0 (.int .i64 t)).set 1 (.slice M 3 cm)).set 2 (.slice B n cb)).set 3 (.slice P n cp)).set 4 (.slice A4 (n + 1) c4)).set 5 (.slice D n cd))
    have NZD := ((((((ZD.other (g := w.heap.size) (j := 0) (u := .int .i64 t) (by omega)).other (g := w.heap.size) (j := 1) (u := .slice M 3 cm) (by omega)).other (g := w.heap.size) (j := 2) (u := .slice B n cb) (by omega)).other (g := w.heap.size) (j := 3) (u := .slice P n cp) (by omega)).other (g := w.heap.size) (j := 4) (u := .slice A4 (n + 1) c4) (by omega)).other (g := w.heap.size) (j := 5) (u := .slice D n cd) (by omega))
    have NRB := ((((((RB.other (g := w.heap.size) (j := 0) (u := .int .i64 t) (by omega)).other (g := w.heap.size) (j := 1) (u := .slice M 3 cm) (by omega)).other (g := w.heap.size) (j := 2) (u := .slice B n cb) (by omega)).other (g := w.heap.size) (j := 3) (u := .slice P n cp) (by omega)).other (g := w.heap.size) (j := 4) (u := .slice A4 (n + 1) c4) (by omega)).other (g := w.heap.size) (j := 5) (u := .slice D n cd) (by omega))
    have NDB := ((((((DB.other (g := w.heap.size) (j := 0) (u := .int .i64 t) (by omega)).other (g := w.heap.size) (j := 1) (u := .slice M 3 cm) (by omega)).other (g := w.heap.size) (j := 2) (u := .slice B n cb) (by omega)).other (g := w.heap.size) (j := 3) (u := .slice P n cp) (by omega)).other (g := w.heap.size) (j := 4) (u := .slice A4 (n + 1) c4) (by omega)).other (g := w.heap.size) (j := 5) (u := .slice D n cd) (by omega))
    have NhR := (Rows_.old (j := 5) (g := w.heap.size) (Rows_.old (j := 4) (g := w.heap.size) (Rows_.old (j := 3) (g := w.heap.size) (Rows_.old (j := 2) (g := w.heap.size) (Rows_.old (j := 1) (g := w.heap.size) (Rows_.old (j := 0) (g := w.heap.size) hR (by omega) (.int .i64 t)) (by omega) (.slice M 3 cm)) (by omega) (.slice B n cb)) (by omega) (.slice P n cp)) (by omega) (.slice A4 (n + 1) c4)) (by omega) (.slice D n cd))
    have NhoP := (own_old (g := w.heap.size) (j := 5) (own_old (g := w.heap.size) (j := 4) (own_old (g := w.heap.size) (j := 3) (own_old (g := w.heap.size) (j := 2) (own_old (g := w.heap.size) (j := 1) (own_old (g := w.heap.size) (j := 0) hoP (by omega) (.int .i64 t)) (by omega) (.slice M 3 cm)) (by omega) (.slice B n cb)) (by omega) (.slice P n cp)) (by omega) (.slice A4 (n + 1) c4)) (by omega) (.slice D n cd))
    have NhoS := (own_old (g := w.heap.size) (j := 5) (own_old (g := w.heap.size) (j := 4) (own_old (g := w.heap.size) (j := 3) (own_old (g := w.heap.size) (j := 2) (own_old (g := w.heap.size) (j := 1) (own_old (g := w.heap.size) (j := 0) hoS (by omega) (.int .i64 t)) (by omega) (.slice M 3 cm)) (by omega) (.slice B n cb)) (by omega) (.slice P n cp)) (by omega) (.slice A4 (n + 1) c4)) (by omega) (.slice D n cd))
    have NB := (((((((Below.refl w.heap.size WA).setCell (p := ⟨w.heap.size, 0, none⟩) (Nat.le_refl _) (.int .i64 t)).setCell (p := ⟨w.heap.size, 1, none⟩) (Nat.le_refl _) (.slice M 3 cm)).setCell (p := ⟨w.heap.size, 2, none⟩) (Nat.le_refl _) (.slice B n cb)).setCell (p := ⟨w.heap.size, 3, none⟩) (Nat.le_refl _) (.slice P n cp)).setCell (p := ⟨w.heap.size, 4, none⟩) (Nat.le_refl _) (.slice A4 (n + 1) c4)).setCell (p := ⟨w.heap.size, 5, none⟩) (Nat.le_refl _) (.slice D n cd))
    obtain ⟨WB, hWB⟩ : ∃ y_, ((((((WA).setCell ⟨w.heap.size, 0, none⟩ (.int .i64 t)).setCell ⟨w.heap.size, 1, none⟩ (.slice M 3 cm)).setCell ⟨w.heap.size, 2, none⟩ (.slice B n cb)).setCell ⟨w.heap.size, 3, none⟩ (.slice P n cp)).setCell ⟨w.heap.size, 4, none⟩ (.slice A4 (n + 1) c4)).setCell ⟨w.heap.size, 5, none⟩ (.slice D n cd) = y_ := ⟨_, rfl⟩
    rw [hWB] at NZR NZD NRB NDB NB NhR NhoP NhoS ⊢
    clear r0 r1 r2 r3 r4 r5 r6 r7 r8 r9 r10 r11 v0 v1 v2 v3 v4 v5 a0 a1 a2 a3 a4 a5 a6 a7 a8 a9 a10 a11 b0 b1 b2 b3 b4 b5 hWB ZR ZD RB DB hR hoP hoS
    obtain ⟨⟨r0, r1, r2, r3, r4, r5⟩, r6, r7, r8, r9, r10, r11⟩ := NRB.six
    obtain ⟨⟨v0, v1, v2⟩, v3, v4, v5⟩ := NDB.three
    obtain ⟨⟨b0, b1, b2⟩, b3, b4, b5⟩ := NZD.three
    refine hK.out _ _ ?_ ?_
    · (intro _; exact ⟨⟨r0, r1, r2, r3, r4, r5⟩, v0, v1, v2⟩)
    clear hK K
    (try simp only [Act.put, List.setIfInBounds_toArray, List.set_cons_zero, List.set_cons_succ])
    refine upto_step (k := 3) (by kernel_rfl) rfl (fun K hK => ?_)
    go_simp
    have ZR := (((NZR.other (g := w.heap.size + 1) (j := 0) (u := .int .i64 td) (by omega)).other (g := w.heap.size + 1) (j := 1) (u := .slice Pd n c) (by omega)).other (g := w.heap.size + 1) (j := 2) (u := .slice Sd n d) (by omega))
    have ZD : Blk _ (w.heap.size + 1) [.int .i64 td, .slice Pd n c, .slice Sd n d] := (((NZD.set 0 (.int .i64 td)).set 1 (.slice Pd n c)).set 2 (.slice Sd n d))
    have hR := (Rows_.old (j := 2) (g := w.heap.size + 1) (Rows_.old (j := 1) (g := w.heap.size + 1) (Rows_.old (j := 0) (g := w.heap.size + 1) NhR (by omega) (.int .i64 td)) (by omega) (.slice Pd n c)) (by omega) (.slice Sd n d))
    have hoP := (own_old (g := w.heap.size + 1) (j := 2) (own_old (g := w.heap.size + 1) (j := 1) (own_old (g := w.heap.size + 1) (j := 0) NhoP (by omega) (.int .i64 td)) (by omega) (.slice Pd n c)) (by omega) (.slice Sd n d))
    have hoS := (own_old (g := w.heap.size + 1) (j := 2) (own_old (g := w.heap.size + 1) (j := 1) (own_old (g := w.heap.size + 1) (j := 0) NhoS (by omega) (.int .i64 td)) (by omega) (.slice Pd n c)) (by omega) (.slice Sd n d))
    have bb := (((NB.setCell (p := ⟨w.heap.size + 1, 0, none⟩) (by show w.heap.size ≤ w.heap.size + 1; omega) (.int .i64 td)).setCell (p := ⟨w.heap.size + 1, 1, none⟩) (by show w.heap.size ≤ w.heap.size + 1; omega) (.slice Pd n c)).setCell (p := ⟨w.heap.size + 1, 2, none⟩) (by show w.heap.size ≤ w.heap.size + 1; omega) (.slice Sd n d))
    obtain ⟨WF, hWF⟩ : ∃ y_, (((WB).setCell ⟨w.heap.size + 1, 0, none⟩ (.int .i64 td)).setCell ⟨w.heap.size + 1, 1, none⟩ (.slice Pd n c)).setCell ⟨w.heap.size + 1, 2, none⟩ (.slice Sd n d) = y_ := ⟨_, rfl⟩
    rw [hWF] at ZR ZD bb hR hoP hoS ⊢
    clear r0 r1 r2 r3 r4 r5 r6 r7 r8 r9 r10 r11 v0 v1 v2 v3 v4 v5 b0 b1 b2 b3 b4 b5 hWF NZR NZD NRB NDB NB NhR NhoP NhoS
    replace hD := hD.belowB hp bb
    refine hK.out _ _ ?_ ?_
    · (intro h; exact absurd rfl h)
    clear hK K
    (try simp only [Act.put, List.setIfInBounds_toArray, List.set_cons_zero, List.set_cons_succ])
    refine upto_done (by kernel_rfl) ?_ _
    obtain ⟨⟨a0, a1, a2, a3, a4, a5⟩, a6, a7, a8, a9, a10, a11⟩ := ZR.six
    obtain ⟨⟨b0, b1, b2⟩, b3, b4, b5⟩ := ZD.three
    clear bb ZR ZD
    go_wp2_with fail
    exact bodyPost_ret (v := .tuple #[reV t M B P A4 D 3 n n (n + 1) n cm cb cp c4 cd, doV td Pd Sd n n c d]) (by simp [results, Try.results42, go_sem, *]) rfl ⟨⟨t, M, B, P, A4, D, 3, n, n, (n + 1), n, cm, cb, cp, c4, cd, ms, bs, ps, (ss ++ [5]), ds, rs, qr, td, Pd, Sd, n, c, d, pd, sd, rfl, hRL.out, hR.base (by omega), ⟨by omega, by omega, by omega, by omega, by omega, fun x hx => by have := hDS.out x hx; omega⟩, fun x hx => by have := hPS.out x hx; omega, HMI.out, hn3, own_base hoP (by omega), own_base hoS (by omega)⟩, hD⟩
  have b3 : (s == 3) = false := by simpa using h3
  by_cases h4 : s = 4
  · subst h4
    clear b0 b1 b2 b3 h0 h1 h2 h3
    go_wp2_with fail
    refine (l1Int_any (l := [(-1), (7), (1000)]) (hD.1.below ((Below.refl w3.heap.size w3).alloc (Nat.le_refl _) _)) (Rd.of_own (World.ownsRow_lit (base := w3.heap.size) (e := 3) (size := 1) w3 #[.int .i64 (-1), .int .i64 (7), .int .i64 (1000)] 3 (Nat.le_refl _) (by unfold maxLen; omega) rfl)) (fun a e => by injection e with e; subst e; exact Nat.ne_of_gt (hD.1).lt) (by omega) (by omega)).mono ?_
    rintro e w4 ⟨x, rfl, hx, hd4⟩
    have hal := (Below.refl w3.heap.size w3).alloc (Nat.le_refl _) (.cells #[.int .i64 (-1), .int .i64 7, .int .i64 1000] 3)
    replace ZR := (ZR.below hal).cur hd4.2 hne
    replace ZD := (ZD.below hal).cur hd4.2 hne2
    replace RB := (RB.below hal).cur hd4.2 hqp
    replace DB := (DB.below hal).cur hd4.2 hqp2
    replace hoP := own_cur (own_below hoP hal) hd4.2 (by omega)
    replace hoS := own_cur (own_below hoS hal) hd4.2 (by omega)
    replace hR := (hR.below hal).cur hd4.2 hpz
    replace hD := hD.lit hd4
    clear hx hal hd4
    obtain ⟨⟨r0, r1, r2, r3, r4, r5⟩, r6, r7, r8, r9, r10, r11⟩ := RB.six
    go_upto_region 16 with fail
    have hZR := ZR.other (g := qr) (j := 0) (u := .int .i64 x) (by omega)
    have hZD := ZD.other (g := qr) (j := 0) (u := .int .i64 x) (by omega)
    have hDB := DB.other (g := qr) (j := 0) (u := .int .i64 x) (by omega)
    have hRB : Blk _ qr [.int .i64 x, .slice M 3 cm, .slice B n cb, .slice P n cp, .slice S n cs, .slice D n cd] := RB.set 0 (.int .i64 x)
    have hRR := Rows_.set (j := 0) hR (.int .i64 x)
    have hPP := own_notin (g := qr) hoP (fun h => by have := hltP.out qr h; omega) 0 (.int .i64 x)
    have hSS := own_notin (g := qr) hoS (fun h => by have := hltS.out qr h; omega) 0 (.int .i64 x)
    have hDD := hD.belowB hp ((Below.refl w.heap.size w4).setCell (p := ⟨qr, 0, none⟩) (by show w.heap.size ≤ qr; omega) (.int .i64 x))
    obtain ⟨V, hV⟩ : ∃ V, w4.setCell ⟨qr, 0, none⟩ (.int .i64 x) = V := ⟨_, rfl⟩
    rw [hV] at hZR hZD hRB hDB hRR hPP hSS hDD ⊢
    clear r0 r1 r2 r3 r4 r5 r6 r7 r8 r9 r10 r11
    clear ZR ZD RB DB hR hoP hoS hD hV
    have ZR := hZR
    have ZD := hZD
    have RB := hRB
    have DB := hDB
    have hR : Rows_ V z qr ([⟨3, M, 3, cm, ints ms⟩, ⟨4, B, n, cb, bls bs⟩, ⟨9, P, n, cp, sts ps⟩, ⟨3, S, n, cs, ints ss⟩, ⟨24, D, n, cd, srs rs⟩] ++ inn rs ds) := hRR
    have hoP := hPP
    have hoS := hSS
    have hD := hDD
    clear hZR hZD hRB hDB hRR hPP hSS hDD
    obtain ⟨⟨r0, r1, r2, r3, r4, r5⟩, r6, r7, r8, r9, r10, r11⟩ := RB.six
    obtain ⟨⟨v0, v1, v2⟩, v3, v4, v5⟩ := DB.three
    refine wp_region_upto (S := (fun w' => (w'.cell? ⟨qr, 0, none⟩ = some (.int .i64 x) ∧ w'.cell? ⟨qr, 1, none⟩ = some (.slice M 3 cm) ∧ w'.cell? ⟨qr, 2, none⟩ = some (.slice B n cb) ∧ w'.cell? ⟨qr, 3, none⟩ = some (.slice P n cp) ∧ w'.cell? ⟨qr, 4, none⟩ = some (.slice S n cs) ∧ w'.cell? ⟨qr, 5, none⟩ = some (.slice D n cd)) ∧ w'.cell? ⟨qr + 1, 0, none⟩ = some (.int .i64 td) ∧ w'.cell? ⟨qr + 1, 1, none⟩ = some (.slice Pd n c) ∧ w'.cell? ⟨qr + 1, 2, none⟩ = some (.slice Sd n d))) 3 (by kernel_rfl) ?_ ?_
    · exact ⟨⟨r0, r1, r2, r3, r4, r5⟩, v0, v1, v2⟩
    obtain ⟨WA, hWA⟩ : ∃ x, (V).drew = x := ⟨_, rfl⟩
    have hbd : Below (V).heap.size (V) WA := by rw [← hWA]; exact (Below.refl _ _).drew
    replace ZR := ZR.below hbd
    replace ZD := ZD.below hbd
    replace RB := RB.below hbd
    replace DB := DB.below hbd
    replace hR := Rows_.below hR hbd
    replace hoP := own_below hoP hbd
    replace hoS := own_below hoS hbd
    replace hD := hD.below hbd
    rw [hWA]
    intro hHeld
    clear hbd hWA
    clear r0 r1 r2 r3 r4 r5 r6 r7 r8 r9 r10 r11 v0 v1 v2 v3 v4 v5
    obtain ⟨⟨r0, r1, r2, r3, r4, r5⟩, r6, r7, r8, r9, r10, r11⟩ := RB.six
    obtain ⟨⟨v0, v1, v2⟩, v3, v4, v5⟩ := DB.three
    obtain ⟨⟨a0, a1, a2, a3, a4, a5⟩, a6, a7, a8, a9, a10, a11⟩ := ZR.six
    obtain ⟨⟨b0, b1, b2⟩, b3, b4, b5⟩ := ZD.three
    refine upto_take (i := 0) (v := ?v17) rfl (by kernel_rfl) (by kernel_rfl) (by kernel_rfl) (by kernel_rfl) (fun _ _ _ h => h) hHeld ?hy17 (by rfl) ?rest17
    case hy17 => (intro w' hSw; (try dsimp only at hSw); go_simp; (try with_reducible rfl))
    (try simp only [Act.put, List.setIfInBounds_toArray, List.set_cons_zero, List.set_cons_succ])
    refine upto_take (i := 1) (v := ?v18) rfl (by kernel_rfl) (by kernel_rfl) (by kernel_rfl) (by kernel_rfl) (fun _ _ _ h => h) hHeld ?hy18 (by rfl) ?rest18
    case hy18 => (intro w' hSw; (try dsimp only at hSw); go_simp; (try with_reducible rfl))
    (try simp only [Act.put, List.setIfInBounds_toArray, List.set_cons_zero, List.set_cons_succ])
    clear hHeld
    refine upto_step (k := 2) (by kernel_rfl) rfl (fun K hK => ?_)
    go_simp
    have NZR : Blk _ w.heap.size [.int .i64 x, .slice M 3 cm, .slice B n cb, .slice P n cp, .slice S n cs, .slice D n cd] := ((((((ZR.set 0 (.int .i64 x)).set 1 (.slice M 3 cm)).set 2 (.slice B n cb)).set 3 (.slice P n cp)).set 4 (.slice S n cs)).set 5 (.slice D n cd))
    have NZD := ((((((ZD.other (g := w.heap.size) (j := 0) (u := .int .i64 x) (by omega)).other (g := w.heap.size) (j := 1) (u := .slice M 3 cm) (by omega)).other (g := w.heap.size) (j := 2) (u := .slice B n cb) (by omega)).other (g := w.heap.size) (j := 3) (u := .slice P n cp) (by omega)).other (g := w.heap.size) (j := 4) (u := .slice S n cs) (by omega)).other (g := w.heap.size) (j := 5) (u := .slice D n cd) (by omega))
    have NRB := ((((((RB.other (g := w.heap.size) (j := 0) (u := .int .i64 x) (by omega)).other (g := w.heap.size) (j := 1) (u := .slice M 3 cm) (by omega)).other (g := w.heap.size) (j := 2) (u := .slice B n cb) (by omega)).other (g := w.heap.size) (j := 3) (u := .slice P n cp) (by omega)).other (g := w.heap.size) (j := 4) (u := .slice S n cs) (by omega)).other (g := w.heap.size) (j := 5) (u := .slice D n cd) (by omega))
    have NDB := ((((((DB.other (g := w.heap.size) (j := 0) (u := .int .i64 x) (by omega)).other (g := w.heap.size) (j := 1) (u := .slice M 3 cm) (by omega)).other (g := w.heap.size) (j := 2) (u := .slice B n cb) (by omega)).other (g := w.heap.size) (j := 3) (u := .slice P n cp) (by omega)).other (g := w.heap.size) (j := 4) (u := .slice S n cs) (by omega)).other (g := w.heap.size) (j := 5) (u := .slice D n cd) (by omega))
    have NhR := (Rows_.old (j := 5) (g := w.heap.size) (Rows_.old (j := 4) (g := w.heap.size) (Rows_.old (j := 3) (g := w.heap.size) (Rows_.old (j := 2) (g := w.heap.size) (Rows_.old (j := 1) (g := w.heap.size) (Rows_.old (j := 0) (g := w.heap.size) hR (by omega) (.int .i64 x)) (by omega) (.slice M 3 cm)) (by omega) (.slice B n cb)) (by omega) (.slice P n cp)) (by omega) (.slice S n cs)) (by omega) (.slice D n cd))
    have NhoP := (own_old (g := w.heap.size) (j := 5) (own_old (g := w.heap.size) (j := 4) (own_old (g := w.heap.size) (j := 3) (own_old (g := w.heap.size) (j := 2) (own_old (g := w.heap.size) (j := 1) (own_old (g := w.heap.size) (j := 0) hoP (by omega) (.int .i64 x)) (by omega) (.slice M 3 cm)) (by omega) (.slice B n cb)) (by omega) (.slice P n cp)) (by omega) (.slice S n cs)) (by omega) (.slice D n cd))
    have NhoS := (own_old (g := w.heap.size) (j := 5) (own_old (g := w.heap.size) (j := 4) (own_old (g := w.heap.size) (j := 3) (own_old (g := w.heap.size) (j := 2) (own_old (g := w.heap.size) (j := 1) (own_old (g := w.heap.size) (j := 0) hoS (by omega) (.int .i64 x)) (by omega) (.slice M 3 cm)) (by omega) (.slice B n cb)) (by omega) (.slice P n cp)) (by omega) (.slice S n cs)) (by omega) (.slice D n cd))
    have NB := (((((((Below.refl w.heap.size WA).setCell (p := ⟨w.heap.size, 0, none⟩) (Nat.le_refl _) (.int .i64 x)).setCell (p := ⟨w.heap.size, 1, none⟩) (Nat.le_refl _) (.slice M 3 cm)).setCell (p := ⟨w.heap.size, 2, none⟩) (Nat.le_refl _) (.slice B n cb)).setCell (p := ⟨w.heap.size, 3, none⟩) (Nat.le_refl _) (.slice P n cp)).setCell (p := ⟨w.heap.size, 4, none⟩) (Nat.le_refl _) (.slice S n cs)).setCell (p := ⟨w.heap.size, 5, none⟩) (Nat.le_refl _) (.slice D n cd))
    obtain ⟨WB, hWB⟩ : ∃ y_, ((((((WA).setCell ⟨w.heap.size, 0, none⟩ (.int .i64 x)).setCell ⟨w.heap.size, 1, none⟩ (.slice M 3 cm)).setCell ⟨w.heap.size, 2, none⟩ (.slice B n cb)).setCell ⟨w.heap.size, 3, none⟩ (.slice P n cp)).setCell ⟨w.heap.size, 4, none⟩ (.slice S n cs)).setCell ⟨w.heap.size, 5, none⟩ (.slice D n cd) = y_ := ⟨_, rfl⟩
    rw [hWB] at NZR NZD NRB NDB NB NhR NhoP NhoS ⊢
    clear r0 r1 r2 r3 r4 r5 r6 r7 r8 r9 r10 r11 v0 v1 v2 v3 v4 v5 a0 a1 a2 a3 a4 a5 a6 a7 a8 a9 a10 a11 b0 b1 b2 b3 b4 b5 hWB ZR ZD RB DB hR hoP hoS
    obtain ⟨⟨r0, r1, r2, r3, r4, r5⟩, r6, r7, r8, r9, r10, r11⟩ := NRB.six
    obtain ⟨⟨v0, v1, v2⟩, v3, v4, v5⟩ := NDB.three
    obtain ⟨⟨b0, b1, b2⟩, b3, b4, b5⟩ := NZD.three
    refine hK.out _ _ ?_ ?_
    · (intro _; exact ⟨⟨r0, r1, r2, r3, r4, r5⟩, v0, v1, v2⟩)
    clear hK K
    (try simp only [Act.put, List.setIfInBounds_toArray, List.set_cons_zero, List.set_cons_succ])
    refine upto_step (k := 3) (by kernel_rfl) rfl (fun K hK => ?_)
    go_simp
    have ZR := (((NZR.other (g := w.heap.size + 1) (j := 0) (u := .int .i64 td) (by omega)).other (g := w.heap.size + 1) (j := 1) (u := .slice Pd n c) (by omega)).other (g := w.heap.size + 1) (j := 2) (u := .slice Sd n d) (by omega))
    have ZD : Blk _ (w.heap.size + 1) [.int .i64 td, .slice Pd n c, .slice Sd n d] := (((NZD.set 0 (.int .i64 td)).set 1 (.slice Pd n c)).set 2 (.slice Sd n d))
    have hR := (Rows_.old (j := 2) (g := w.heap.size + 1) (Rows_.old (j := 1) (g := w.heap.size + 1) (Rows_.old (j := 0) (g := w.heap.size + 1) NhR (by omega) (.int .i64 td)) (by omega) (.slice Pd n c)) (by omega) (.slice Sd n d))
    have hoP := (own_old (g := w.heap.size + 1) (j := 2) (own_old (g := w.heap.size + 1) (j := 1) (own_old (g := w.heap.size + 1) (j := 0) NhoP (by omega) (.int .i64 td)) (by omega) (.slice Pd n c)) (by omega) (.slice Sd n d))
    have hoS := (own_old (g := w.heap.size + 1) (j := 2) (own_old (g := w.heap.size + 1) (j := 1) (own_old (g := w.heap.size + 1) (j := 0) NhoS (by omega) (.int .i64 td)) (by omega) (.slice Pd n c)) (by omega) (.slice Sd n d))
    have bb := (((NB.setCell (p := ⟨w.heap.size + 1, 0, none⟩) (by show w.heap.size ≤ w.heap.size + 1; omega) (.int .i64 td)).setCell (p := ⟨w.heap.size + 1, 1, none⟩) (by show w.heap.size ≤ w.heap.size + 1; omega) (.slice Pd n c)).setCell (p := ⟨w.heap.size + 1, 2, none⟩) (by show w.heap.size ≤ w.heap.size + 1; omega) (.slice Sd n d))
    obtain ⟨WF, hWF⟩ : ∃ y_, (((WB).setCell ⟨w.heap.size + 1, 0, none⟩ (.int .i64 td)).setCell ⟨w.heap.size + 1, 1, none⟩ (.slice Pd n c)).setCell ⟨w.heap.size + 1, 2, none⟩ (.slice Sd n d) = y_ := ⟨_, rfl⟩
    rw [hWF] at ZR ZD bb hR hoP hoS ⊢
    clear r0 r1 r2 r3 r4 r5 r6 r7 r8 r9 r10 r11 v0 v1 v2 v3 v4 v5 b0 b1 b2 b3 b4 b5 hWF NZR NZD NRB NDB NB NhR NhoP NhoS
    replace hD := hD.belowB hp bb
    refine hK.out _ _ ?_ ?_
    · (intro h; exact absurd rfl h)
    clear hK K
    (try simp only [Act.put, List.setIfInBounds_toArray, List.set_cons_zero, List.set_cons_succ])
    refine upto_done (by kernel_rfl) ?_ _
    obtain ⟨⟨a0, a1, a2, a3, a4, a5⟩, a6, a7, a8, a9, a10, a11⟩ := ZR.six
    obtain ⟨⟨b0, b1, b2⟩, b3, b4, b5⟩ := ZD.three
    clear bb ZR ZD
    go_wp2_with fail
    exact bodyPost_ret (v := .tuple #[reV x M B P S D 3 n n n n cm cb cp cs cd, doV td Pd Sd n n c d]) (by simp [results, Try.results42, go_sem, *]) rfl ⟨⟨x, M, B, P, S, D, 3, n, n, n, n, cm, cb, cp, cs, cd, ms, bs, ps, ss, ds, rs, qr, td, Pd, Sd, n, c, d, pd, sd, rfl, hRL.out, hR.base (by omega), ⟨by omega, by omega, by omega, by omega, by omega, fun x hx => by have := hDS.out x hx; omega⟩, fun x hx => by have := hPS.out x hx; omega, HMI.out, hn3, own_base hoP (by omega), own_base hoS (by omega)⟩, hD⟩
  have b4 : (s == 4) = false := by simpa using h4
  by_cases h5 : s = 5
  · subst h5
    clear b0 b1 b2 b3 b4 h0 h1 h2 h3 h4
    have ho5 : w3.ownsRow z 24 1 (.slice D n cd) n (srs rs) := hR.own 4 _ rfl
    obtain ⟨gD, u, rfl, hgD, hu, hcu, hfu⟩ := own_at ho5 (j := 0) (by omega)
    obtain ⟨⟨A0, m0, c0⟩, hr0, rfl⟩ := map_at hu
    have h0l : 0 < ds.length := by have := hDL.out; omega
    obtain ⟨l0, hl0⟩ : ∃ l, ds[0]? = some l := ⟨_, List.getElem?_eq_getElem h0l⟩
    have hi5 : ([⟨3, M, 3, cm, ints ms⟩, ⟨4, B, n, cb, bls bs⟩, ⟨9, P, n, cp, sts ps⟩, ⟨3, S, n, cs, ints ss⟩, ⟨24, (some ⟨gD, 0, none⟩), n, cd, srs rs⟩] ++ inn rs ds)[5]? = some ⟨3, A0, m0, c0, ints l0⟩ := by rw [List.getElem?_append_right (by simp)]; simp only [List.length_cons, List.length_nil]; exact inn_at hr0 hl0
    have hoI : w3.ownsRow z 3 1 (.slice A0 m0 c0) m0 (ints l0) := hR.own 5 _ hi5
    have Hi5 := hide hi5
    have Hr0 := hide hr0
    have Hl0 := hide hl0
    have hn0n : 0 < n := by omega
    simp only [srV] at hcu
    clear ho5 hu hi5 hr0 hl0 h0l
    obtain ⟨⟨r0, r1, r2, r3, r4, r5⟩, r6, r7, r8, r9, r10, r11⟩ := RB.six
    by_cases hm0 : 0 < m0
    rotate_left
    · have hm0' : ¬ (m0 : Int) > 0 := by omega
      clear hoI
      go_upto_region 16 with fail
      clear r0 r1 r2 r3 r4 r5 r6 r7 r8 r9 r10 r11 hcu hfu
      obtain ⟨⟨r0, r1, r2, r3, r4, r5⟩, r6, r7, r8, r9, r10, r11⟩ := RB.six
      obtain ⟨⟨v0, v1, v2⟩, v3, v4, v5⟩ := DB.three
      refine wp_region_upto (S := (fun w' => (w'.cell? ⟨qr, 0, none⟩ = some (.int .i64 t) ∧ w'.cell? ⟨qr, 1, none⟩ = some (.slice M 3 cm) ∧ w'.cell? ⟨qr, 2, none⟩ = some (.slice B n cb) ∧ w'.cell? ⟨qr, 3, none⟩ = some (.slice P n cp) ∧ w'.cell? ⟨qr, 4, none⟩ = some (.slice S n cs) ∧ w'.cell? ⟨qr, 5, none⟩ = some (.slice (some ⟨gD, 0, none⟩) n cd)) ∧ w'.cell? ⟨qr + 1, 0, none⟩ = some (.int .i64 td) ∧ w'.cell? ⟨qr + 1, 1, none⟩ = some (.slice Pd n c) ∧ w'.cell? ⟨qr + 1, 2, none⟩ = some (.slice Sd n d))) 3 (by kernel_rfl) ?_ ?_
      · exact ⟨⟨r0, r1, r2, r3, r4, r5⟩, v0, v1, v2⟩
      obtain ⟨WA, hWA⟩ : ∃ x, (w3).drew = x := ⟨_, rfl⟩
      have hbd : Below (w3).heap.size (w3) WA := by rw [← hWA]; exact (Below.refl _ _).drew
      replace ZR := ZR.below hbd
      replace ZD := ZD.below hbd
      replace RB := RB.below hbd
      replace DB := DB.below hbd
      replace hR := Rows_.below hR hbd
      replace hoP := own_below hoP hbd
      replace hoS := own_below hoS hbd
      replace hD := hD.below hbd
      rw [hWA]
      intro hHeld
      clear hbd hWA
      clear r0 r1 r2 r3 r4 r5 r6 r7 r8 r9 r10 r11 v0 v1 v2 v3 v4 v5
      obtain ⟨⟨r0, r1, r2, r3, r4, r5⟩, r6, r7, r8, r9, r10, r11⟩ := RB.six
      obtain ⟨⟨v0, v1, v2⟩, v3, v4, v5⟩ := DB.three
      obtain ⟨⟨a0, a1, a2, a3, a4, a5⟩, a6, a7, a8, a9, a10, a11⟩ := ZR.six
      obtain ⟨⟨b0, b1, b2⟩, b3, b4, b5⟩ := ZD.three
      refine upto_take (i := 0) (v := ?v19) rfl (by kernel_rfl) (by kernel_rfl) (by kernel_rfl) (by kernel_rfl) (fun _ _ _ h => h) hHeld ?hy19 (by rfl) ?rest19
      case hy19 => (intro w' hSw; (try dsimp only at hSw); go_simp; (try with_reducible rfl))
      (try simp only [Act.put, List.setIfInBounds_toArray, List.set_cons_zero, List.set_cons_succ])
      refine upto_take (i := 1) (v := ?v20) rfl (by kernel_rfl) (by kernel_rfl) (by kernel_rfl) (by kernel_rfl) (fun _ _ _ h => h) hHeld ?hy20 (by rfl) ?rest20
      case hy20 => (intro w' hSw; (try dsimp only at hSw); go_simp; (try with_reducible rfl))
      (try simp only [Act.put, List.setIfInBounds_toArray, List.set_cons_zero, List.set_cons_succ])
      clear hHeld
      refine upto_step (k := 2) (by kernel_rfl) rfl (fun K hK => ?_)
      go_simp
      have NZR : Blk _ w.heap.size [.int .i64 t, .slice M 3 cm, .slice B n cb, .slice P n cp, .slice S n cs, .slice (some ⟨gD, 0, none⟩) n cd] := ((((((ZR.set 0 (.int .i64 t)).set 1 (.slice M 3 cm)).set 2 (.slice B n cb)).set 3 (.slice P n cp)).set 4 (.slice S n cs)).set 5 (.slice (some ⟨gD, 0, none⟩) n cd))
      have NZD := ((((((ZD.other (g := w.heap.size) (j := 0) (u := .int .i64 t) (by omega)).other (g := w.heap.size) (j := 1) (u := .slice M 3 cm) (by omega)).other (g := w.heap.size) (j := 2) (u := .slice B n cb) (by omega)).other (g := w.heap.size) (j := 3) (u := .slice P n cp) (by omega)).other (g := w.heap.size) (j := 4) (u := .slice S n cs) (by omega)).other (g := w.heap.size) (j := 5) (u := .slice (some ⟨gD, 0, none⟩) n cd) (by omega))
      have NRB := ((((((RB.other (g := w.heap.size) (j := 0) (u := .int .i64 t) (by omega)).other (g := w.heap.size) (j := 1) (u := .slice M 3 cm) (by omega)).other (g := w.heap.size) (j := 2) (u := .slice B n cb) (by omega)).other (g := w.heap.size) (j := 3) (u := .slice P n cp) (by omega)).other (g := w.heap.size) (j := 4) (u := .slice S n cs) (by omega)).other (g := w.heap.size) (j := 5) (u := .slice (some ⟨gD, 0, none⟩) n cd) (by omega))
      have NDB := ((((((DB.other (g := w.heap.size) (j := 0) (u := .int .i64 t) (by omega)).other (g := w.heap.size) (j := 1) (u := .slice M 3 cm) (by omega)).other (g := w.heap.size) (j := 2) (u := .slice B n cb) (by omega)).other (g := w.heap.size) (j := 3) (u := .slice P n cp) (by omega)).other (g := w.heap.size) (j := 4) (u := .slice S n cs) (by omega)).other (g := w.heap.size) (j := 5) (u := .slice (some ⟨gD, 0, none⟩) n cd) (by omega))
      have NhR := (Rows_.old (j := 5) (g := w.heap.size) (Rows_.old (j := 4) (g := w.heap.size) (Rows_.old (j := 3) (g := w.heap.size) (Rows_.old (j := 2) (g := w.heap.size) (Rows_.old (j := 1) (g := w.heap.size) (Rows_.old (j := 0) (g := w.heap.size) hR (by omega) (.int .i64 t)) (by omega) (.slice M 3 cm)) (by omega) (.slice B n cb)) (by omega) (.slice P n cp)) (by omega) (.slice S n cs)) (by omega) (.slice (some ⟨gD, 0, none⟩) n cd))
      have NhoP := (own_old (g := w.heap.size) (j := 5) (own_old (g := w.heap.size) (j := 4) (own_old (g := w.heap.size) (j := 3) (own_old (g := w.heap.size) (j := 2) (own_old (g := w.heap.size) (j := 1) (own_old (g := w.heap.size) (j := 0) hoP (by omega) (.int .i64 t)) (by omega) (.slice M 3 cm)) (by omega) (.slice B n cb)) (by omega) (.slice P n cp)) (by omega) (.slice S n cs)) (by omega) (.slice (some ⟨gD, 0, none⟩) n cd))
      have NhoS := (own_old (g := w.heap.size) (j := 5) (own_old (g := w.heap.size) (j := 4) (own_old (g := w.heap.size) (j := 3) (own_old (g := w.heap.size) (j := 2) (own_old (g := w.heap.size) (j := 1) (own_old (g := w.heap.size) (j := 0) hoS (by omega) (.int .i64 t)) (by omega) (.slice M 3 cm)) (by omega) (.slice B n cb)) (by omega) (.slice P n cp)) (by omega) (.slice S n cs)) (by omega) (.slice (some ⟨gD, 0, none⟩) n cd))
      have NB := (((((((Below.refl w.heap.size WA).setCell (p := ⟨w.heap.size, 0, none⟩) (Nat.le_refl _) (.int .i64 t)).setCell (p := ⟨w.heap.size, 1, none⟩) (Nat.le_refl _) (.slice M 3 cm)).setCell (p := ⟨w.heap.size, 2, none⟩) (Nat.le_refl _) (.slice B n cb)).setCell (p := ⟨w.heap.size, 3, none⟩) (Nat.le_refl _) (.slice P n cp)).setCell (p := ⟨w.heap.size, 4, none⟩) (Nat.le_refl _) (.slice S n cs)).setCell (p := ⟨w.heap.size, 5, none⟩) (Nat.le_refl _) (.slice (some ⟨gD, 0, none⟩) n cd))
      obtain ⟨WB, hWB⟩ : ∃ y_, ((((((WA).setCell ⟨w.heap.size, 0, none⟩ (.int .i64 t)).setCell ⟨w.heap.size, 1, none⟩ (.slice M 3 cm)).setCell ⟨w.heap.size, 2, none⟩ (.slice B n cb)).setCell ⟨w.heap.size, 3, none⟩ (.slice P n cp)).setCell ⟨w.heap.size, 4, none⟩ (.slice S n cs)).setCell ⟨w.heap.size, 5, none⟩ (.slice (some ⟨gD, 0, none⟩) n cd) = y_ := ⟨_, rfl⟩
      rw [hWB] at NZR NZD NRB NDB NB NhR NhoP NhoS ⊢
      clear r0 r1 r2 r3 r4 r5 r6 r7 r8 r9 r10 r11 v0 v1 v2 v3 v4 v5 a0 a1 a2 a3 a4 a5 a6 a7 a8 a9 a10 a11 b0 b1 b2 b3 b4 b5 hWB ZR ZD RB DB hR hoP hoS
      obtain ⟨⟨r0, r1, r2, r3, r4, r5⟩, r6, r7, r8, r9, r10, r11⟩ := NRB.six
      obtain ⟨⟨v0, v1, v2⟩, v3, v4, v5⟩ := NDB.three
      obtain ⟨⟨b0, b1, b2⟩, b3, b4, b5⟩ := NZD.three
      refine hK.out _ _ ?_ ?_
      · (intro _; exact ⟨⟨r0, r1, r2, r3, r4, r5⟩, v0, v1, v2⟩)
      clear hK K
      (try simp only [Act.put, List.setIfInBounds_toArray, List.set_cons_zero, List.set_cons_succ])
      refine upto_step (k := 3) (by kernel_rfl) rfl (fun K hK => ?_)
      go_simp
      have ZR := (((NZR.other (g := w.heap.size + 1) (j := 0) (u := .int .i64 td) (by omega)).other (g := w.heap.size + 1) (j := 1) (u := .slice Pd n c) (by omega)).other (g := w.heap.size + 1) (j := 2) (u := .slice Sd n d) (by omega))
      have ZD : Blk _ (w.heap.size + 1) [.int .i64 td, .slice Pd n c, .slice Sd n d] := (((NZD.set 0 (.int .i64 td)).set 1 (.slice Pd n c)).set 2 (.slice Sd n d))
      have hR := (Rows_.old (j := 2) (g := w.heap.size + 1) (Rows_.old (j := 1) (g := w.heap.size + 1) (Rows_.old (j := 0) (g := w.heap.size + 1) NhR (by omega) (.int .i64 td)) (by omega) (.slice Pd n c)) (by omega) (.slice Sd n d))
      have hoP := (own_old (g := w.heap.size + 1) (j := 2) (own_old (g := w.heap.size + 1) (j := 1) (own_old (g := w.heap.size + 1) (j := 0) NhoP (by omega) (.int .i64 td)) (by omega) (.slice Pd n c)) (by omega) (.slice Sd n d))
      have hoS := (own_old (g := w.heap.size + 1) (j := 2) (own_old (g := w.heap.size + 1) (j := 1) (own_old (g := w.heap.size + 1) (j := 0) NhoS (by omega) (.int .i64 td)) (by omega) (.slice Pd n c)) (by omega) (.slice Sd n d))
      have bb := (((NB.setCell (p := ⟨w.heap.size + 1, 0, none⟩) (by show w.heap.size ≤ w.heap.size + 1; omega) (.int .i64 td)).setCell (p := ⟨w.heap.size + 1, 1, none⟩) (by show w.heap.size ≤ w.heap.size + 1; omega) (.slice Pd n c)).setCell (p := ⟨w.heap.size + 1, 2, none⟩) (by show w.heap.size ≤ w.heap.size + 1; omega) (.slice Sd n d))
      obtain ⟨WF, hWF⟩ : ∃ y_, (((WB).setCell ⟨w.heap.size + 1, 0, none⟩ (.int .i64 td)).setCell ⟨w.heap.size + 1, 1, none⟩ (.slice Pd n c)).setCell ⟨w.heap.size + 1, 2, none⟩ (.slice Sd n d) = y_ := ⟨_, rfl⟩
      rw [hWF] at ZR ZD bb hR hoP hoS ⊢
      clear r0 r1 r2 r3 r4 r5 r6 r7 r8 r9 r10 r11 v0 v1 v2 v3 v4 v5 b0 b1 b2 b3 b4 b5 hWF NZR NZD NRB NDB NB NhR NhoP NhoS
      replace hD := hD.belowB hp bb
      refine hK.out _ _ ?_ ?_
      · (intro h; exact absurd rfl h)
      clear hK K
      (try simp only [Act.put, List.setIfInBounds_toArray, List.set_cons_zero, List.set_cons_succ])
      refine upto_done (by kernel_rfl) ?_ _
      obtain ⟨⟨a0, a1, a2, a3, a4, a5⟩, a6, a7, a8, a9, a10, a11⟩ := ZR.six
      obtain ⟨⟨b0, b1, b2⟩, b3, b4, b5⟩ := ZD.three
      clear bb ZR ZD
      go_wp2_with fail
      exact bodyPost_ret (v := .tuple #[reV t M B P S (some ⟨gD, 0, none⟩) 3 n n n n cm cb cp cs cd, doV td Pd Sd n n c d]) (by simp [results, Try.results42, go_sem, *]) rfl ⟨⟨t, M, B, P, S, (some ⟨gD, 0, none⟩), 3, n, n, n, n, cm, cb, cp, cs, cd, ms, bs, ps, ss, ds, rs, qr, td, Pd, Sd, n, c, d, pd, sd, rfl, hRL.out, hR.base (by omega), ⟨by omega, by omega, by omega, by omega, by omega, fun x hx => by have := hDS.out x hx; omega⟩, fun x hx => by have := hPS.out x hx; omega, HMI.out, hn3, own_base hoP (by omega), own_base hoS (by omega)⟩, hD⟩
    have hm0' : (m0 : Int) > 0 := by omega
    obtain ⟨g0, u0, rfl, hg0, hu0, hcu0, hfu0⟩ := own_at hoI (j := 0) hm0
    obtain ⟨x0, hx0, rfl⟩ := map_at hu0
    clear hu0 hoI
    go_upto_region 15 with fail
    refine wp_region_upto (S := (fun w' => w'.cell? ⟨qr, 5, none⟩ = some (.slice (some ⟨gD, 0, none⟩) n cd) ∧ w'.cell? ⟨gD, 0, none⟩ = some (.slice (some ⟨g0, 0, none⟩) m0 c0) ∧ w'.cell? ⟨g0, 0, none⟩ = some (.int .i64 x0))) 12 (by kernel_rfl) ?_ ?_
    · exact ⟨r5, hcu, hcu0⟩
    obtain ⟨w4, hw4⟩ : ∃ x, w3.drew = x := ⟨_, rfl⟩
    have hbd : Below w3.heap.size w3 w4 := by rw [← hw4]; exact (Below.refl _ _).drew
    replace ZR := ZR.below hbd
    replace ZD := ZD.below hbd
    replace RB := RB.below hbd
    replace DB := DB.below hbd
    replace hR := hR.below hbd
    replace hoP := own_below hoP hbd
    replace hoS := own_below hoS hbd
    replace hD := hD.below hbd
    rw [hw4]
    intro hHeld
    clear hbd hw4
    clear r0 r1 r2 r3 r4 r5 r6 r7 r8 r9 r10 r11 hcu hfu hcu0 hfu0
    obtain ⟨⟨r0, r1, r2, r3, r4, r5⟩, r6, r7, r8, r9, r10, r11⟩ := RB.six
    have hoI : w4.ownsRow z 3 1 (.slice (some ⟨g0, 0, none⟩) m0 c0) m0 (ints l0) := hR.own 5 _ Hi5.out
    obtain ⟨u0, hu0, hcu0, hfu0⟩ := own_at_ hoI (j := 0) hm0
    have hS5 := hHeld
    refine upto_take (i := 0) (v := ?v21) rfl (by kernel_rfl) (by kernel_rfl) (by kernel_rfl) (by kernel_rfl) (fun _ _ _ h => h) hHeld ?hy21 (by rfl) ?rest21
    case hy21 => (intro w' hSw; (try dsimp only at hSw); go_simp; (try rw [if_pos hn0n]); (try rw [if_pos hm0]); (try go_simp); (try with_reducible rfl))
    (try simp only [Act.put, List.setIfInBounds_toArray, List.set_cons_zero, List.set_cons_succ])
    refine upto_take (i := 1) (v := ?v22) rfl (by kernel_rfl) (by kernel_rfl) (by kernel_rfl) (by kernel_rfl) (fun _ _ _ h => h) hHeld ?hy22 (by rfl) ?rest22
    case hy22 => (intro w' hSw; (try dsimp only at hSw); go_simp; (try rw [if_pos hn0n]); (try rw [if_pos hm0]); (try go_simp); (try with_reducible rfl))
    (try simp only [Act.put, List.setIfInBounds_toArray, List.set_cons_zero, List.set_cons_succ])
    refine upto_take (i := 2) (v := ?v23) rfl (by kernel_rfl) (by kernel_rfl) (by kernel_rfl) (by kernel_rfl) (fun _ _ _ h => h) hHeld ?hy23 (by rfl) ?rest23
    case hy23 => (intro w' hSw; (try dsimp only at hSw); go_simp; (try rw [if_pos hn0n]); (try rw [if_pos hm0]); (try go_simp); (try with_reducible rfl))
    (try simp only [Act.put, List.setIfInBounds_toArray, List.set_cons_zero, List.set_cons_succ])
    refine upto_take (i := 3) (v := ?v24) rfl (by kernel_rfl) (by kernel_rfl) (by kernel_rfl) (by kernel_rfl) (fun _ _ _ h => h) hHeld ?hy24 (by rfl) ?rest24
    case hy24 => (intro w' hSw; (try dsimp only at hSw); go_simp; (try rw [if_pos hn0n]); (try rw [if_pos hm0]); (try go_simp); (try with_reducible rfl))
    (try simp only [Act.put, List.setIfInBounds_toArray, List.set_cons_zero, List.set_cons_succ])
    refine upto_take (i := 4) (v := ?v25) rfl (by kernel_rfl) (by kernel_rfl) (by kernel_rfl) (by kernel_rfl) (fun _ _ _ h => h) hHeld ?hy25 (by rfl) ?rest25
    case hy25 => (intro w' hSw; (try dsimp only at hSw); go_simp; (try rw [if_pos hn0n]); (try rw [if_pos hm0]); (try go_simp); (try with_reducible rfl))
    (try simp only [Act.put, List.setIfInBounds_toArray, List.set_cons_zero, List.set_cons_succ])
    refine upto_take (i := 5) (v := ?v26) rfl (by kernel_rfl) (by kernel_rfl) (by kernel_rfl) (by kernel_rfl) (fun _ _ _ h => h) hHeld ?hy26 (by rfl) ?rest26
    case hy26 => (intro w' hSw; (try dsimp only at hSw); go_simp; (try rw [if_pos hn0n]); (try rw [if_pos hm0]); (try go_simp); (try with_reducible rfl))
    (try simp only [Act.put, List.setIfInBounds_toArray, List.set_cons_zero, List.set_cons_succ])
    refine upto_take (i := 6) (v := ?v27) rfl (by kernel_rfl) (by kernel_rfl) (by kernel_rfl) (by kernel_rfl) (fun _ _ _ h => h) hHeld ?hy27 (by rfl) ?rest27
    case hy27 => (intro w' hSw; (try dsimp only at hSw); go_simp; (try rw [if_pos hn0n]); (try rw [if_pos hm0]); (try go_simp); (try with_reducible rfl))
    (try simp only [Act.put, List.setIfInBounds_toArray, List.set_cons_zero, List.set_cons_succ])
    refine upto_take (i := 7) (v := ?v28) rfl (by kernel_rfl) (by kernel_rfl) (by kernel_rfl) (by kernel_rfl) (fun _ _ _ h => h) hHeld ?hy28 (by rfl) ?rest28
    case hy28 => (intro w' hSw; (try dsimp only at hSw); go_simp; (try rw [if_pos hn0n]); (try rw [if_pos hm0]); (try go_simp); (try with_reducible rfl))
    (try simp only [Act.put, List.setIfInBounds_toArray, List.set_cons_zero, List.set_cons_succ])
    refine upto_take (i := 8) (v := ?v29) rfl (by kernel_rfl) (by kernel_rfl) (by kernel_rfl) (by kernel_rfl) (fun _ _ _ h => h) hHeld ?hy29 (by rfl) ?rest29
    case hy29 => (intro w' hSw; (try dsimp only at hSw); go_simp; (try rw [if_pos hn0n]); (try rw [if_pos hm0]); (try go_simp); (try with_reducible rfl))
    (try simp only [Act.put, List.setIfInBounds_toArray, List.set_cons_zero, List.set_cons_succ])
    refine upto_take (i := 9) (v := ?v30) rfl (by kernel_rfl) (by kernel_rfl) (by kernel_rfl) (by kernel_rfl) (fun _ _ _ h => h) hHeld ?hy30 (by rfl) ?rest30
    case hy30 => (intro w' hSw; (try dsimp only at hSw); go_simp; (try rw [if_pos hn0n]); (try rw [if_pos hm0]); (try go_simp); (try with_reducible rfl))
    (try simp only [Act.put, List.setIfInBounds_toArray, List.set_cons_zero, List.set_cons_succ])
    refine upto_take (i := 10) (v := ?v31) rfl (by kernel_rfl) (by kernel_rfl) (by kernel_rfl) (by kernel_rfl) (fun _ _ _ h => h) hHeld ?hy31 (by rfl) ?rest31
    case hy31 => (intro w' hSw; (try dsimp only at hSw); go_simp; (try rw [if_pos hn0n]); (try rw [if_pos hm0]); (try go_simp); (try with_reducible rfl))
    (try simp only [Act.put, List.setIfInBounds_toArray, List.set_cons_zero, List.set_cons_succ])
    clear hHeld
    refine upto_step (k := 11) (by kernel_rfl) rfl (fun K hK => ?_)
    go_simp
    (try rw [if_pos hm0])
    (try go_simp)
    refine hK.out _ _ ?_ ?_
    · (intro _; exact hS5)
    clear hK K
    (try simp only [Act.put, List.setIfInBounds_toArray, List.set_cons_zero, List.set_cons_succ])
    refine upto_step (k := 12) (by kernel_rfl) rfl (fun K hK => ?_)
    go_simp
    refine hK.out _ _ ?_ ?_
    · (intro h; exact absurd rfl h)
    clear hK K
    (try simp only [Act.put, List.setIfInBounds_toArray, List.set_cons_zero, List.set_cons_succ])
    refine upto_done (by kernel_rfl) ?_ _
    go_upto_region 16 with fail
    have hi5 := Hi5.out
    have hA5 : (some ⟨g0, 0, none⟩ : Option Addr) = some ⟨g0, 0, none⟩ := rfl
    have hg5 : blk (some ⟨g0, 0, none⟩) = some g0 := rfl
    have hgq := HLR.out 5 _ hi5 g0 hg5
    have hZR := ZR.other (g := g0) (j := 0) (u := .int .i64 (IntKind.i64.wrap (x0 + 1))) (by omega)
    have hZD := ZD.other (g := g0) (j := 0) (u := .int .i64 (IntKind.i64.wrap (x0 + 1))) (by omega)
    have hRB := RB.other (g := g0) (j := 0) (u := .int .i64 (IntKind.i64.wrap (x0 + 1))) (by omega)
    have hDB := DB.other (g := g0) (j := 0) (u := .int .i64 (IntKind.i64.wrap (x0 + 1))) (by omega)
    have hRR := Rows_.put (i := 5) hR hi5 hA5 0 (.int .i64 (IntKind.i64.wrap (x0 + 1)))
    have hPP := own_notin (g := g0) hoP (fun h => by have := hltP.out g0 h; omega) 0 (.int .i64 (IntKind.i64.wrap (x0 + 1)))
    have hSS := own_notin (g := g0) hoS (fun h => by have := hltS.out g0 h; omega) 0 (.int .i64 (IntKind.i64.wrap (x0 + 1)))
    have hDD := hD.belowB hp ((Below.refl w.heap.size w4).setCell (p := ⟨g0, 0, none⟩) (by show w.heap.size ≤ g0; omega) (.int .i64 (IntKind.i64.wrap (x0 + 1))))
    obtain ⟨V, hV⟩ : ∃ V, w4.setCell ⟨g0, 0, none⟩ (.int .i64 (IntKind.i64.wrap (x0 + 1))) = V := ⟨_, rfl⟩
    rw [hV] at hZR hZD hRB hDB hRR hPP hSS hDD ⊢
    have hin := inn_set (r := ((some ⟨g0, 0, none⟩), m0, c0)) Hr0.out hRL.out (l0.set 0 (IntKind.i64.wrap (x0 + 1)))
    simp only [List.cons_append, List.set_cons_succ, List.nil_append, ints_set] at hRR
    dsimp only at hin
    rw [hin] at hRR
    clear r0 r1 r2 r3 r4 r5 r6 r7 r8 r9 r10 r11 hcu0 hfu0 hu0 hS5 hin hoI
    clear ZR ZD RB DB hR hoP hoS hD hV
    have ZR := hZR
    have ZD := hZD
    have RB := hRB
    have DB := hDB
    have hR : Rows_ V z qr ([⟨3, M, 3, cm, ints ms⟩, ⟨4, B, n, cb, bls bs⟩, ⟨9, P, n, cp, sts ps⟩, ⟨3, S, n, cs, ints ss⟩, ⟨24, (some ⟨gD, 0, none⟩), n, cd, srs rs⟩] ++ inn rs (ds.set 0 (l0.set 0 (IntKind.i64.wrap (x0 + 1))))) := hRR
    have hoP := hPP
    have hoS := hSS
    have hD := hDD
    clear hZR hZD hRB hDB hRR hPP hSS hDD
    have hD5 := hide (show ∀ x ∈ (ds.set 0 (l0.set 0 (IntKind.i64.wrap (x0 + 1)))), x.length ≤ 3 from fun x hx => by
      rcases List.mem_or_eq_of_mem_set hx with h1 | rfl
      · exact hDS.out x h1
      · rw [List.length_set]; exact hDS.out l0 (List.mem_of_getElem? Hl0.out))
    obtain ⟨⟨r0, r1, r2, r3, r4, r5⟩, r6, r7, r8, r9, r10, r11⟩ := RB.six
    obtain ⟨⟨v0, v1, v2⟩, v3, v4, v5⟩ := DB.three
    refine wp_region_upto (S := (fun w' => (w'.cell? ⟨qr, 0, none⟩ = some (.int .i64 t) ∧ w'.cell? ⟨qr, 1, none⟩ = some (.slice M 3 cm) ∧ w'.cell? ⟨qr, 2, none⟩ = some (.slice B n cb) ∧ w'.cell? ⟨qr, 3, none⟩ = some (.slice P n cp) ∧ w'.cell? ⟨qr, 4, none⟩ = some (.slice S n cs) ∧ w'.cell? ⟨qr, 5, none⟩ = some (.slice (some ⟨gD, 0, none⟩) n cd)) ∧ w'.cell? ⟨qr + 1, 0, none⟩ = some (.int .i64 td) ∧ w'.cell? ⟨qr + 1, 1, none⟩ = some (.slice Pd n c) ∧ w'.cell? ⟨qr + 1, 2, none⟩ = some (.slice Sd n d))) 3 (by kernel_rfl) ?_ ?_
    · exact ⟨⟨r0, r1, r2, r3, r4, r5⟩, v0, v1, v2⟩
    obtain ⟨WA, hWA⟩ : ∃ x, (V).drew = x := ⟨_, rfl⟩
    have hbd : Below (V).heap.size (V) WA := by rw [← hWA]; exact (Below.refl _ _).drew
    replace ZR := ZR.below hbd
    replace ZD := ZD.below hbd
    replace RB := RB.below hbd
    replace DB := DB.below hbd
    replace hR := Rows_.below hR hbd
    replace hoP := own_below hoP hbd
    replace hoS := own_below hoS hbd
    replace hD := hD.below hbd
    rw [hWA]
    intro hHeld
    clear hbd hWA
    clear r0 r1 r2 r3 r4 r5 r6 r7 r8 r9 r10 r11 v0 v1 v2 v3 v4 v5
    obtain ⟨⟨r0, r1, r2, r3, r4, r5⟩, r6, r7, r8, r9, r10, r11⟩ := RB.six
    obtain ⟨⟨v0, v1, v2⟩, v3, v4, v5⟩ := DB.three
    obtain ⟨⟨a0, a1, a2, a3, a4, a5⟩, a6, a7, a8, a9, a10, a11⟩ := ZR.six
    obtain ⟨⟨b0, b1, b2⟩, b3, b4, b5⟩ := ZD.three
    refine upto_take (i := 0) (v := ?v32) rfl (by kernel_rfl) (by kernel_rfl) (by kernel_rfl) (by kernel_rfl) (fun _ _ _ h => h) hHeld ?hy32 (by rfl) ?rest32
    case hy32 => (intro w' hSw; (try dsimp only at hSw); go_simp; (try with_reducible rfl))
    (try simp only [Act.put, List.setIfInBounds_toArray, List.set_cons_zero, List.set_cons_succ])
    refine upto_take (i := 1) (v := ?v33) rfl (by kernel_rfl) (by kernel_rfl) (by kernel_rfl) (by kernel_rfl) (fun _ _ _ h => h) hHeld ?hy33 (by rfl) ?rest33
    case hy33 => (intro w' hSw; (try dsimp only at hSw); go_simp; (try with_reducible rfl))
    (try simp only [Act.put, List.setIfInBounds_toArray, List.set_cons_zero, List.set_cons_succ])
    clear hHeld
    refine upto_step (k := 2) (by kernel_rfl) rfl (fun K hK => ?_)
    go_simp
    have NZR : Blk _ w.heap.size [.int .i64 t, .slice M 3 cm, .slice B n cb, .slice P n cp, .slice S n cs, .slice (some ⟨gD, 0, none⟩) n cd] := ((((((ZR.set 0 (.int .i64 t)).set 1 (.slice M 3 cm)).set 2 (.slice B n cb)).set 3 (.slice P n cp)).set 4 (.slice S n cs)).set 5 (.slice (some ⟨gD, 0, none⟩) n cd))
    have NZD := ((((((ZD.other (g := w.heap.size) (j := 0) (u := .int .i64 t) (by omega)).other (g := w.heap.size) (j := 1) (u := .slice M 3 cm) (by omega)).other (g := w.heap.size) (j := 2) (u := .slice B n cb) (by omega)).other (g := w.heap.size) (j := 3) (u := .slice P n cp) (by omega)).other (g := w.heap.size) (j := 4) (u := .slice S n cs) (by omega)).other (g := w.heap.size) (j := 5) (u := .slice (some ⟨gD, 0, none⟩) n cd) (by omega))
    have NRB := ((((((RB.other (g := w.heap.size) (j := 0) (u := .int .i64 t) (by omega)).other (g := w.heap.size) (j := 1) (u := .slice M 3 cm) (by omega)).other (g := w.heap.size) (j := 2) (u := .slice B n cb) (by omega)).other (g := w.heap.size) (j := 3) (u := .slice P n cp) (by omega)).other (g := w.heap.size) (j := 4) (u := .slice S n cs) (by omega)).other (g := w.heap.size) (j := 5) (u := .slice (some ⟨gD, 0, none⟩) n cd) (by omega))
    have NDB := ((((((DB.other (g := w.heap.size) (j := 0) (u := .int .i64 t) (by omega)).other (g := w.heap.size) (j := 1) (u := .slice M 3 cm) (by omega)).other (g := w.heap.size) (j := 2) (u := .slice B n cb) (by omega)).other (g := w.heap.size) (j := 3) (u := .slice P n cp) (by omega)).other (g := w.heap.size) (j := 4) (u := .slice S n cs) (by omega)).other (g := w.heap.size) (j := 5) (u := .slice (some ⟨gD, 0, none⟩) n cd) (by omega))
    have NhR := (Rows_.old (j := 5) (g := w.heap.size) (Rows_.old (j := 4) (g := w.heap.size) (Rows_.old (j := 3) (g := w.heap.size) (Rows_.old (j := 2) (g := w.heap.size) (Rows_.old (j := 1) (g := w.heap.size) (Rows_.old (j := 0) (g := w.heap.size) hR (by omega) (.int .i64 t)) (by omega) (.slice M 3 cm)) (by omega) (.slice B n cb)) (by omega) (.slice P n cp)) (by omega) (.slice S n cs)) (by omega) (.slice (some ⟨gD, 0, none⟩) n cd))
    have NhoP := (own_old (g := w.heap.size) (j := 5) (own_old (g := w.heap.size) (j := 4) (own_old (g := w.heap.size) (j := 3) (own_old (g := w.heap.size) (j := 2) (own_old (g := w.heap.size) (j := 1) (own_old (g := w.heap.size) (j := 0) hoP (by omega) (.int .i64 t)) (by omega) (.slice M 3 cm)) (by omega) (.slice B n cb)) (by omega) (.slice P n cp)) (by omega) (.slice S n cs)) (by omega) (.slice (some ⟨gD, 0, none⟩) n cd))
    have NhoS := (own_old (g := w.heap.size) (j := 5) (own_old (g := w.heap.size) (j := 4) (own_old (g := w.heap.size) (j := 3) (own_old (g := w.heap.size) (j := 2) (own_old (g := w.heap.size) (j := 1) (own_old (g := w.heap.size) (j := 0) hoS (by omega) (.int .i64 t)) (by omega) (.slice M 3 cm)) (by omega) (.slice B n cb)) (by omega) (.slice P n cp)) (by omega) (.slice S n cs)) (by omega) (.slice (some ⟨gD, 0, none⟩) n cd))
    have NB := (((((((Below.refl w.heap.size WA).setCell (p := ⟨w.heap.size, 0, none⟩) (Nat.le_refl _) (.int .i64 t)).setCell (p := ⟨w.heap.size, 1, none⟩) (Nat.le_refl _) (.slice M 3 cm)).setCell (p := ⟨w.heap.size, 2, none⟩) (Nat.le_refl _) (.slice B n cb)).setCell (p := ⟨w.heap.size, 3, none⟩) (Nat.le_refl _) (.slice P n cp)).setCell (p := ⟨w.heap.size, 4, none⟩) (Nat.le_refl _) (.slice S n cs)).setCell (p := ⟨w.heap.size, 5, none⟩) (Nat.le_refl _) (.slice (some ⟨gD, 0, none⟩) n cd))
    obtain ⟨WB, hWB⟩ : ∃ y_, ((((((WA).setCell ⟨w.heap.size, 0, none⟩ (.int .i64 t)).setCell ⟨w.heap.size, 1, none⟩ (.slice M 3 cm)).setCell ⟨w.heap.size, 2, none⟩ (.slice B n cb)).setCell ⟨w.heap.size, 3, none⟩ (.slice P n cp)).setCell ⟨w.heap.size, 4, none⟩ (.slice S n cs)).setCell ⟨w.heap.size, 5, none⟩ (.slice (some ⟨gD, 0, none⟩) n cd) = y_ := ⟨_, rfl⟩
    rw [hWB] at NZR NZD NRB NDB NB NhR NhoP NhoS ⊢
    clear r0 r1 r2 r3 r4 r5 r6 r7 r8 r9 r10 r11 v0 v1 v2 v3 v4 v5 a0 a1 a2 a3 a4 a5 a6 a7 a8 a9 a10 a11 b0 b1 b2 b3 b4 b5 hWB ZR ZD RB DB hR hoP hoS
    obtain ⟨⟨r0, r1, r2, r3, r4, r5⟩, r6, r7, r8, r9, r10, r11⟩ := NRB.six
    obtain ⟨⟨v0, v1, v2⟩, v3, v4, v5⟩ := NDB.three
    obtain ⟨⟨b0, b1, b2⟩, b3, b4, b5⟩ := NZD.three
    refine hK.out _ _ ?_ ?_
    · (intro _; exact ⟨⟨r0, r1, r2, r3, r4, r5⟩, v0, v1, v2⟩)
    clear hK K
    (try simp only [Act.put, List.setIfInBounds_toArray, List.set_cons_zero, List.set_cons_succ])
    refine upto_step (k := 3) (by kernel_rfl) rfl (fun K hK => ?_)
    go_simp
    have ZR := (((NZR.other (g := w.heap.size + 1) (j := 0) (u := .int .i64 td) (by omega)).other (g := w.heap.size + 1) (j := 1) (u := .slice Pd n c) (by omega)).other (g := w.heap.size + 1) (j := 2) (u := .slice Sd n d) (by omega))
    have ZD : Blk _ (w.heap.size + 1) [.int .i64 td, .slice Pd n c, .slice Sd n d] := (((NZD.set 0 (.int .i64 td)).set 1 (.slice Pd n c)).set 2 (.slice Sd n d))
    have hR := (Rows_.old (j := 2) (g := w.heap.size + 1) (Rows_.old (j := 1) (g := w.heap.size + 1) (Rows_.old (j := 0) (g := w.heap.size + 1) NhR (by omega) (.int .i64 td)) (by omega) (.slice Pd n c)) (by omega) (.slice Sd n d))
    have hoP := (own_old (g := w.heap.size + 1) (j := 2) (own_old (g := w.heap.size + 1) (j := 1) (own_old (g := w.heap.size + 1) (j := 0) NhoP (by omega) (.int .i64 td)) (by omega) (.slice Pd n c)) (by omega) (.slice Sd n d))
    have hoS := (own_old (g := w.heap.size + 1) (j := 2) (own_old (g := w.heap.size + 1) (j := 1) (own_old (g := w.heap.size + 1) (j := 0) NhoS (by omega) (.int .i64 td)) (by omega) (.slice Pd n c)) (by omega) (.slice Sd n d))
    have bb := (((NB.setCell (p := ⟨w.heap.size + 1, 0, none⟩) (by show w.heap.size ≤ w.heap.size + 1; omega) (.int .i64 td)).setCell (p := ⟨w.heap.size + 1, 1, none⟩) (by show w.heap.size ≤ w.heap.size + 1; omega) (.slice Pd n c)).setCell (p := ⟨w.heap.size + 1, 2, none⟩) (by show w.heap.size ≤ w.heap.size + 1; omega) (.slice Sd n d))
    obtain ⟨WF, hWF⟩ : ∃ y_, (((WB).setCell ⟨w.heap.size + 1, 0, none⟩ (.int .i64 td)).setCell ⟨w.heap.size + 1, 1, none⟩ (.slice Pd n c)).setCell ⟨w.heap.size + 1, 2, none⟩ (.slice Sd n d) = y_ := ⟨_, rfl⟩
    rw [hWF] at ZR ZD bb hR hoP hoS ⊢
    clear r0 r1 r2 r3 r4 r5 r6 r7 r8 r9 r10 r11 v0 v1 v2 v3 v4 v5 b0 b1 b2 b3 b4 b5 hWF NZR NZD NRB NDB NB NhR NhoP NhoS
    replace hD := hD.belowB hp bb
    refine hK.out _ _ ?_ ?_
    · (intro h; exact absurd rfl h)
    clear hK K
    (try simp only [Act.put, List.setIfInBounds_toArray, List.set_cons_zero, List.set_cons_succ])
    refine upto_done (by kernel_rfl) ?_ _
    obtain ⟨⟨a0, a1, a2, a3, a4, a5⟩, a6, a7, a8, a9, a10, a11⟩ := ZR.six
    obtain ⟨⟨b0, b1, b2⟩, b3, b4, b5⟩ := ZD.three
    clear bb ZR ZD
    go_wp2_with fail
    exact bodyPost_ret (v := .tuple #[reV t M B P S (some ⟨gD, 0, none⟩) 3 n n n n cm cb cp cs cd, doV td Pd Sd n n c d]) (by simp [results, Try.results42, go_sem, *]) rfl ⟨⟨t, M, B, P, S, (some ⟨gD, 0, none⟩), 3, n, n, n, n, cm, cb, cp, cs, cd, ms, bs, ps, ss, (ds.set 0 (l0.set 0 (IntKind.i64.wrap (x0 + 1)))), rs, qr, td, Pd, Sd, n, c, d, pd, sd, rfl, (by rw [List.length_set]; exact hRL.out), hR.base (by omega), ⟨by omega, by omega, by omega, by omega, by omega, fun x hx => by have := hD5.out x hx; omega⟩, fun x hx => by have := hPS.out x hx; omega, HMI.out, hn3, own_base hoP (by omega), own_base hoS (by omega)⟩, hD⟩
  have b5 : (s == 5) = false := by simpa using h5
  go_upto_region 16 with fail
  obtain ⟨⟨r0, r1, r2, r3, r4, r5⟩, r6, r7, r8, r9, r10, r11⟩ := RB.six
  obtain ⟨⟨v0, v1, v2⟩, v3, v4, v5⟩ := DB.three
  refine wp_region_upto (S := (fun w' => (w'.cell? ⟨qr, 0, none⟩ = some (.int .i64 t) ∧ w'.cell? ⟨qr, 1, none⟩ = some (.slice M 3 cm) ∧ w'.cell? ⟨qr, 2, none⟩ = some (.slice B n cb) ∧ w'.cell? ⟨qr, 3, none⟩ = some (.slice P n cp) ∧ w'.cell? ⟨qr, 4, none⟩ = some (.slice S n cs) ∧ w'.cell? ⟨qr, 5, none⟩ = some (.slice D n cd)) ∧ w'.cell? ⟨qr + 1, 0, none⟩ = some (.int .i64 td) ∧ w'.cell? ⟨qr + 1, 1, none⟩ = some (.slice Pd n c) ∧ w'.cell? ⟨qr + 1, 2, none⟩ = some (.slice Sd n d))) 3 (by kernel_rfl) ?_ ?_
  · exact ⟨⟨r0, r1, r2, r3, r4, r5⟩, v0, v1, v2⟩
  obtain ⟨WA, hWA⟩ : ∃ x, (w3).drew = x := ⟨_, rfl⟩
  have hbd : Below (w3).heap.size (w3) WA := by rw [← hWA]; exact (Below.refl _ _).drew
  replace ZR := ZR.below hbd
  replace ZD := ZD.below hbd
  replace RB := RB.below hbd
  replace DB := DB.below hbd
  replace hR := Rows_.below hR hbd
  replace hoP := own_below hoP hbd
  replace hoS := own_below hoS hbd
  replace hD := hD.below hbd
  rw [hWA]
  intro hHeld
  clear hbd hWA
  clear r0 r1 r2 r3 r4 r5 r6 r7 r8 r9 r10 r11 v0 v1 v2 v3 v4 v5
  obtain ⟨⟨r0, r1, r2, r3, r4, r5⟩, r6, r7, r8, r9, r10, r11⟩ := RB.six
  obtain ⟨⟨v0, v1, v2⟩, v3, v4, v5⟩ := DB.three
  obtain ⟨⟨a0, a1, a2, a3, a4, a5⟩, a6, a7, a8, a9, a10, a11⟩ := ZR.six
  obtain ⟨⟨b0, b1, b2⟩, b3, b4, b5⟩ := ZD.three
  refine upto_take (i := 0) (v := ?v5) rfl (by kernel_rfl) (by kernel_rfl) (by kernel_rfl) (by kernel_rfl) (fun _ _ _ h => h) hHeld ?hy5 (by rfl) ?rest5
  case hy5 => (intro w' hSw; (try dsimp only at hSw); go_simp; (try with_reducible rfl))
  (try simp only [Act.put, List.setIfInBounds_toArray, List.set_cons_zero, List.set_cons_succ])
  refine upto_take (i := 1) (v := ?v6) rfl (by kernel_rfl) (by kernel_rfl) (by kernel_rfl) (by kernel_rfl) (fun _ _ _ h => h) hHeld ?hy6 (by rfl) ?rest6
  case hy6 => (intro w' hSw; (try dsimp only at hSw); go_simp; (try with_reducible rfl))
  (try simp only [Act.put, List.setIfInBounds_toArray, List.set_cons_zero, List.set_cons_succ])
  clear hHeld
  refine upto_step (k := 2) (by kernel_rfl) rfl (fun K hK => ?_)
  go_simp
  have NZR : Blk _ w.heap.size [.int .i64 t, .slice M 3 cm, .slice B n cb, .slice P n cp, .slice S n cs, .slice D n cd] := ((((((ZR.set 0 (.int .i64 t)).set 1 (.slice M 3 cm)).set 2 (.slice B n cb)).set 3 (.slice P n cp)).set 4 (.slice S n cs)).set 5 (.slice D n cd))
  have NZD := ((((((ZD.other (g := w.heap.size) (j := 0) (u := .int .i64 t) (by omega)).other (g := w.heap.size) (j := 1) (u := .slice M 3 cm) (by omega)).other (g := w.heap.size) (j := 2) (u := .slice B n cb) (by omega)).other (g := w.heap.size) (j := 3) (u := .slice P n cp) (by omega)).other (g := w.heap.size) (j := 4) (u := .slice S n cs) (by omega)).other (g := w.heap.size) (j := 5) (u := .slice D n cd) (by omega))
  have NRB := ((((((RB.other (g := w.heap.size) (j := 0) (u := .int .i64 t) (by omega)).other (g := w.heap.size) (j := 1) (u := .slice M 3 cm) (by omega)).other (g := w.heap.size) (j := 2) (u := .slice B n cb) (by omega)).other (g := w.heap.size) (j := 3) (u := .slice P n cp) (by omega)).other (g := w.heap.size) (j := 4) (u := .slice S n cs) (by omega)).other (g := w.heap.size) (j := 5) (u := .slice D n cd) (by omega))
  have NDB := ((((((DB.other (g := w.heap.size) (j := 0) (u := .int .i64 t) (by omega)).other (g := w.heap.size) (j := 1) (u := .slice M 3 cm) (by omega)).other (g := w.heap.size) (j := 2) (u := .slice B n cb) (by omega)).other (g := w.heap.size) (j := 3) (u := .slice P n cp) (by omega)).other (g := w.heap.size) (j := 4) (u := .slice S n cs) (by omega)).other (g := w.heap.size) (j := 5) (u := .slice D n cd) (by omega))
  have NhR := (Rows_.old (j := 5) (g := w.heap.size) (Rows_.old (j := 4) (g := w.heap.size) (Rows_.old (j := 3) (g := w.heap.size) (Rows_.old (j := 2) (g := w.heap.size) (Rows_.old (j := 1) (g := w.heap.size) (Rows_.old (j := 0) (g := w.heap.size) hR (by omega) (.int .i64 t)) (by omega) (.slice M 3 cm)) (by omega) (.slice B n cb)) (by omega) (.slice P n cp)) (by omega) (.slice S n cs)) (by omega) (.slice D n cd))
  have NhoP := (own_old (g := w.heap.size) (j := 5) (own_old (g := w.heap.size) (j := 4) (own_old (g := w.heap.size) (j := 3) (own_old (g := w.heap.size) (j := 2) (own_old (g := w.heap.size) (j := 1) (own_old (g := w.heap.size) (j := 0) hoP (by omega) (.int .i64 t)) (by omega) (.slice M 3 cm)) (by omega) (.slice B n cb)) (by omega) (.slice P n cp)) (by omega) (.slice S n cs)) (by omega) (.slice D n cd))
  have NhoS := (own_old (g := w.heap.size) (j := 5) (own_old (g := w.heap.size) (j := 4) (own_old (g := w.heap.size) (j := 3) (own_old (g := w.heap.size) (j := 2) (own_old (g := w.heap.size) (j := 1) (own_old (g := w.heap.size) (j := 0) hoS (by omega) (.int .i64 t)) (by omega) (.slice M 3 cm)) (by omega) (.slice B n cb)) (by omega) (.slice P n cp)) (by omega) (.slice S n cs)) (by omega) (.slice D n cd))
  have NB := (((((((Below.refl w.heap.size WA).setCell (p := ⟨w.heap.size, 0, none⟩) (Nat.le_refl _) (.int .i64 t)).setCell (p := ⟨w.heap.size, 1, none⟩) (Nat.le_refl _) (.slice M 3 cm)).setCell (p := ⟨w.heap.size, 2, none⟩) (Nat.le_refl _) (.slice B n cb)).setCell (p := ⟨w.heap.size, 3, none⟩) (Nat.le_refl _) (.slice P n cp)).setCell (p := ⟨w.heap.size, 4, none⟩) (Nat.le_refl _) (.slice S n cs)).setCell (p := ⟨w.heap.size, 5, none⟩) (Nat.le_refl _) (.slice D n cd))
  obtain ⟨WB, hWB⟩ : ∃ y_, ((((((WA).setCell ⟨w.heap.size, 0, none⟩ (.int .i64 t)).setCell ⟨w.heap.size, 1, none⟩ (.slice M 3 cm)).setCell ⟨w.heap.size, 2, none⟩ (.slice B n cb)).setCell ⟨w.heap.size, 3, none⟩ (.slice P n cp)).setCell ⟨w.heap.size, 4, none⟩ (.slice S n cs)).setCell ⟨w.heap.size, 5, none⟩ (.slice D n cd) = y_ := ⟨_, rfl⟩
  rw [hWB] at NZR NZD NRB NDB NB NhR NhoP NhoS ⊢
  clear r0 r1 r2 r3 r4 r5 r6 r7 r8 r9 r10 r11 v0 v1 v2 v3 v4 v5 a0 a1 a2 a3 a4 a5 a6 a7 a8 a9 a10 a11 b0 b1 b2 b3 b4 b5 hWB ZR ZD RB DB hR hoP hoS
  obtain ⟨⟨r0, r1, r2, r3, r4, r5⟩, r6, r7, r8, r9, r10, r11⟩ := NRB.six
  obtain ⟨⟨v0, v1, v2⟩, v3, v4, v5⟩ := NDB.three
  obtain ⟨⟨b0, b1, b2⟩, b3, b4, b5⟩ := NZD.three
  refine hK.out _ _ ?_ ?_
  · (intro _; exact ⟨⟨r0, r1, r2, r3, r4, r5⟩, v0, v1, v2⟩)
  clear hK K
  (try simp only [Act.put, List.setIfInBounds_toArray, List.set_cons_zero, List.set_cons_succ])
  refine upto_step (k := 3) (by kernel_rfl) rfl (fun K hK => ?_)
  go_simp
  have ZR := (((NZR.other (g := w.heap.size + 1) (j := 0) (u := .int .i64 td) (by omega)).other (g := w.heap.size + 1) (j := 1) (u := .slice Pd n c) (by omega)).other (g := w.heap.size + 1) (j := 2) (u := .slice Sd n d) (by omega))
  have ZD : Blk _ (w.heap.size + 1) [.int .i64 td, .slice Pd n c, .slice Sd n d] := (((NZD.set 0 (.int .i64 td)).set 1 (.slice Pd n c)).set 2 (.slice Sd n d))
  have hR := (Rows_.old (j := 2) (g := w.heap.size + 1) (Rows_.old (j := 1) (g := w.heap.size + 1) (Rows_.old (j := 0) (g := w.heap.size + 1) NhR (by omega) (.int .i64 td)) (by omega) (.slice Pd n c)) (by omega) (.slice Sd n d))
  have hoP := (own_old (g := w.heap.size + 1) (j := 2) (own_old (g := w.heap.size + 1) (j := 1) (own_old (g := w.heap.size + 1) (j := 0) NhoP (by omega) (.int .i64 td)) (by omega) (.slice Pd n c)) (by omega) (.slice Sd n d))
  have hoS := (own_old (g := w.heap.size + 1) (j := 2) (own_old (g := w.heap.size + 1) (j := 1) (own_old (g := w.heap.size + 1) (j := 0) NhoS (by omega) (.int .i64 td)) (by omega) (.slice Pd n c)) (by omega) (.slice Sd n d))
  have bb := (((NB.setCell (p := ⟨w.heap.size + 1, 0, none⟩) (by show w.heap.size ≤ w.heap.size + 1; omega) (.int .i64 td)).setCell (p := ⟨w.heap.size + 1, 1, none⟩) (by show w.heap.size ≤ w.heap.size + 1; omega) (.slice Pd n c)).setCell (p := ⟨w.heap.size + 1, 2, none⟩) (by show w.heap.size ≤ w.heap.size + 1; omega) (.slice Sd n d))
  obtain ⟨WF, hWF⟩ : ∃ y_, (((WB).setCell ⟨w.heap.size + 1, 0, none⟩ (.int .i64 td)).setCell ⟨w.heap.size + 1, 1, none⟩ (.slice Pd n c)).setCell ⟨w.heap.size + 1, 2, none⟩ (.slice Sd n d) = y_ := ⟨_, rfl⟩
  rw [hWF] at ZR ZD bb hR hoP hoS ⊢
  clear r0 r1 r2 r3 r4 r5 r6 r7 r8 r9 r10 r11 v0 v1 v2 v3 v4 v5 b0 b1 b2 b3 b4 b5 hWF NZR NZD NRB NDB NB NhR NhoP NhoS
  replace hD := hD.belowB hp bb
  refine hK.out _ _ ?_ ?_
  · (intro h; exact absurd rfl h)
  clear hK K
  (try simp only [Act.put, List.setIfInBounds_toArray, List.set_cons_zero, List.set_cons_succ])
  refine upto_done (by kernel_rfl) ?_ _
  obtain ⟨⟨a0, a1, a2, a3, a4, a5⟩, a6, a7, a8, a9, a10, a11⟩ := ZR.six
  obtain ⟨⟨b0, b1, b2⟩, b3, b4, b5⟩ := ZD.three
  clear bb ZR ZD
  go_wp2_with fail
  exact bodyPost_ret (v := .tuple #[reV t M B P S D 3 n n n n cm cb cp cs cd, doV td Pd Sd n n c d]) (by simp [results, Try.results42, go_sem, *]) rfl ⟨⟨t, M, B, P, S, D, 3, n, n, n, n, cm, cb, cp, cs, cd, ms, bs, ps, ss, ds, rs, qr, td, Pd, Sd, n, c, d, pd, sd, rfl, hRL.out, hR.base (by omega), ⟨by omega, by omega, by omega, by omega, by omega, fun x hx => by have := hDS.out x hx; omega⟩, fun x hx => by have := hPS.out x hx; omega, HMI.out, hn3, own_base hoP (by omega), own_base hoS (by omega)⟩, hD⟩
set_option maxHeartbeats 8000000 in
theorem DrawIsRedactionOf_any {A : Option Addr} {n0 c0 : Nat} {l : List Int} {w : World} (h : Rd w 1 A n0 (u8s l)) (hn : n0 ≤ 1048576) (hB : ∀ x ∈ l, 0 ≤ x ∧ x ≤ 255) :
    Calls Try.prog 14 #[.slice A n0 c0] w fun e w' => ∃ (t : Int) (M B P S D : Option Addr) (nm nb np ns nd cm cb cp cs cd : Nat) (ms : List Int) (bs : List Bool) (ps : List ByteArray) (ss : List Int) (ds : List (List Int)) (td : Int) (Pd Sd : Option Addr) (n c d : Nat) (pd : List ByteArray) (sd : List Int),
      e = .returned (.tuple #[reV t M B P S D nm nb np ns nd cm cb cp cs cd, doV td Pd Sd n n c d]) ∧ RdR w' M B P S D nm nb np ns nd ms bs ps ss ds ∧ BdR 1048576 nm nb np ns nd ds ∧ (∀ x ∈ ps, x.size ≤ 1048576) ∧ (∀ x ∈ ms, I64 x) ∧ n ≤ 3 ∧ Rd w' 1 Pd n (sts pd) ∧ Rd w' 1 Sd n (ints sd) ∧ Below w.heap.size w w' := by
  obtain ⟨W1, hW1⟩ : ∃ W1, (w.alloc (.cells #[.int .i64 0, .slice none 0 0, .slice none 0 0, .slice none 0 0, .slice none 0 0, .slice none 0 0] 33)).alloc (.cells #[.int .i64 0, .slice none 0 0, .slice none 0 0] 27) = W1 := ⟨_, rfl⟩
  have ZR : Blk W1 w.heap.size [.int .i64 0, .slice none 0 0, .slice none 0 0, .slice none 0 0, .slice none 0 0, .slice none 0 0] := by rw [← hW1]; exact (Blk.new _ _ _).alloc _
  have ZD : Blk W1 (w.heap.size + 1) [.int .i64 0, .slice none 0 0, .slice none 0 0] := by rw [← hW1]; exact Blk.new_ _ _ _ (by simp)
  have hb1 : Below w.heap.size w W1 := by rw [← hW1]; repeat (first | exact Below.refl _ _ | assumption | refine Below.next_ ?_ ?_ (by assumption) | refine Below.drew ?_ | refine below_drewN ?_ _ | refine Below.alloc ?_ ?_ _ | refine Below.setCell ?_ ?_ _ | omega | (simp <;> omega) | (simp at * <;> omega))
  have HW1 := hide hW1
  clear hW1
  have hz1 : w.heap.size + 1 < W1.heap.size := ZD.lt
  go_enter Try.func14, Try.ntmps14
  go_wp2_with fail
  rw [HW1.out]
  clear HW1
  refine (l1New_any (h.below hb1) hn hB).mono ?_
  rintro e w1 ⟨p, rfl, hp, hC, hb2⟩
  have hz2 := hb2.size
  have hne : w.heap.size ≠ p := by omega
  have hne2 : w.heap.size + 1 ≠ p := by omega
  go_wp2_with fail
  refine (l7Any_any hC).mono ?_
  rintro e w2 ⟨⟨t, M, B, P, S, D, nm, nb, np, ns, nd, cm, cb, cp, cs, cd, ms, bs, ps, ss, ds, rs, kx, td, Pd, Sd, n, c, d, pd, sd, rfl, hrl, hR, hBD, hps, hms, hn3, hoP, hoS⟩, hd⟩
  have HRL := hide hrl
  have HPS := hide hps
  have HMS := hide hms
  have hz3 := hd.2.size
  replace ZR := (ZR.below hb2).cur hd.2 hne
  replace ZD := (ZD.below hb2).cur hd.2 hne2
  have hD := Below.cur (Below.next_ hb1 hb1.size hb2) hd.2 (by omega) (by omega)
  obtain ⟨qr, hqr⟩ : ∃ q, w2.heap.size = q := ⟨_, rfl⟩
  have HQ := hide hqr
  obtain ⟨W3, hW3⟩ : ∃ W3, (w2.alloc (.cells #[.int .i64 t, .slice M nm cm, .slice B nb cb, .slice P np cp, .slice S ns cs, .slice D nd cd] 33)).alloc (.cells #[.int .i64 td, .slice Pd n c, .slice Sd n d] 27) = W3 := ⟨_, rfl⟩
  have hbW3 : Below w2.heap.size w2 W3 := by rw [← hW3]; repeat (first | exact Below.refl _ _ | assumption | refine Below.next_ ?_ ?_ (by assumption) | refine Below.drew ?_ | refine below_drewN ?_ _ | refine Below.alloc ?_ ?_ _ | refine Below.setCell ?_ ?_ _ | omega | (simp <;> omega) | (simp at * <;> omega))
  have RB : Blk W3 qr [.int .i64 t, .slice M nm cm, .slice B nb cb, .slice P np cp, .slice S ns cs, .slice D nd cd] := by rw [← hW3, ← hqr]; exact (Blk.new _ _ _).alloc _
  have DB : Blk W3 (qr + 1) [.int .i64 td, .slice Pd n c, .slice Sd n d] := by rw [← hW3, ← hqr]; exact Blk.new_ _ _ _ (by simp)
  replace ZR := ZR.below hbW3
  replace ZD := ZD.below hbW3
  replace hoP := own_below hoP hbW3
  replace hoS := own_below hoS hbW3
  replace hR := hR.below hbW3
  replace hD := Below.next_ hD hD.size hbW3
  have hqr1 : w.heap.size + 1 < qr := by omega
  have hw11 : w.heap.size + 1 < w1.heap.size := by omega
  have HW3 := hide hW3
  clear hW3 hbW3 hqr hrl hps hms hd hb1 hb2 hC
  go_upto_region 3 with fail
  rw [HW3.out, HQ.out]
  clear HW3
  obtain ⟨⟨r0, r1, r2, r3, r4, r5⟩, r6, r7, r8, r9, r10, r11⟩ := RB.six
  obtain ⟨⟨v0, v1, v2⟩, v3, v4, v5⟩ := DB.three
  refine wp_region_upto (S := (fun w' => (w'.cell? ⟨qr, 0, none⟩ = some (.int .i64 t) ∧ w'.cell? ⟨qr, 1, none⟩ = some (.slice M nm cm) ∧ w'.cell? ⟨qr, 2, none⟩ = some (.slice B nb cb) ∧ w'.cell? ⟨qr, 3, none⟩ = some (.slice P np cp) ∧ w'.cell? ⟨qr, 4, none⟩ = some (.slice S ns cs) ∧ w'.cell? ⟨qr, 5, none⟩ = some (.slice D nd cd)) ∧ w'.cell? ⟨qr + 1, 0, none⟩ = some (.int .i64 td) ∧ w'.cell? ⟨qr + 1, 1, none⟩ = some (.slice Pd n c) ∧ w'.cell? ⟨qr + 1, 2, none⟩ = some (.slice Sd n d))) 3 (by kernel_rfl) ?_ ?_
  · exact ⟨⟨r0, r1, r2, r3, r4, r5⟩, v0, v1, v2⟩
  obtain ⟨WA, hWA⟩ : ∃ x, (W3).drew = x := ⟨_, rfl⟩
  have hbd : Below (W3).heap.size (W3) WA := by rw [← hWA]; exact (Below.refl _ _).drew
  replace ZR := ZR.below hbd
  replace ZD := ZD.below hbd
  replace RB := RB.below hbd
  replace DB := DB.below hbd
  replace hR := Rows_.below hR hbd
  replace hoP := own_below hoP hbd
  replace hoS := own_below hoS hbd
  replace hD := Below.next_ hD hD.size hbd
  rw [hWA]
  intro hHeld
  clear hbd hWA
  clear r0 r1 r2 r3 r4 r5 r6 r7 r8 r9 r10 r11 v0 v1 v2 v3 v4 v5
  obtain ⟨⟨r0, r1, r2, r3, r4, r5⟩, r6, r7, r8, r9, r10, r11⟩ := RB.six
  obtain ⟨⟨v0, v1, v2⟩, v3, v4, v5⟩ := DB.three
  obtain ⟨⟨a0, a1, a2, a3, a4, a5⟩, a6, a7, a8, a9, a10, a11⟩ := ZR.six
  obtain ⟨⟨b0, b1, b2⟩, b3, b4, b5⟩ := ZD.three
  refine upto_take (i := 0) (v := ?v34) rfl (by kernel_rfl) (by kernel_rfl) (by kernel_rfl) (by kernel_rfl) (fun _ _ _ h => h) hHeld ?hy34 (by rfl) ?rest34
  case hy34 => (intro w' hSw; (try dsimp only at hSw); go_simp; (try with_reducible rfl))
  (try simp only [Act.put, List.setIfInBounds_toArray, List.set_cons_zero, List.set_cons_succ])
  refine upto_take (i := 1) (v := ?v35) rfl (by kernel_rfl) (by kernel_rfl) (by kernel_rfl) (by kernel_rfl) (fun _ _ _ h => h) hHeld ?hy35 (by rfl) ?rest35
  case hy35 => (intro w' hSw; (try dsimp only at hSw); go_simp; (try with_reducible rfl))
  (try simp only [Act.put, List.setIfInBounds_toArray, List.set_cons_zero, List.set_cons_succ])
  clear hHeld
  refine upto_step (k := 2) (by kernel_rfl) rfl (fun K hK => ?_)
  go_simp
  have NZR : Blk _ w.heap.size [.int .i64 t, .slice M nm cm, .slice B nb cb, .slice P np cp, .slice S ns cs, .slice D nd cd] := ((((((ZR.set 0 (.int .i64 t)).set 1 (.slice M nm cm)).set 2 (.slice B nb cb)).set 3 (.slice P np cp)).set 4 (.slice S ns cs)).set 5 (.slice D nd cd))
  have NZD := ((((((ZD.other (g := w.heap.size) (j := 0) (u := .int .i64 t) (by omega)).other (g := w.heap.size) (j := 1) (u := .slice M nm cm) (by omega)).other (g := w.heap.size) (j := 2) (u := .slice B nb cb) (by omega)).other (g := w.heap.size) (j := 3) (u := .slice P np cp) (by omega)).other (g := w.heap.size) (j := 4) (u := .slice S ns cs) (by omega)).other (g := w.heap.size) (j := 5) (u := .slice D nd cd) (by omega))
  have NRB := ((((((RB.other (g := w.heap.size) (j := 0) (u := .int .i64 t) (by omega)).other (g := w.heap.size) (j := 1) (u := .slice M nm cm) (by omega)).other (g := w.heap.size) (j := 2) (u := .slice B nb cb) (by omega)).other (g := w.heap.size) (j := 3) (u := .slice P np cp) (by omega)).other (g := w.heap.size) (j := 4) (u := .slice S ns cs) (by omega)).other (g := w.heap.size) (j := 5) (u := .slice D nd cd) (by omega))
  have NDB := ((((((DB.other (g := w.heap.size) (j := 0) (u := .int .i64 t) (by omega)).other (g := w.heap.size) (j := 1) (u := .slice M nm cm) (by omega)).other (g := w.heap.size) (j := 2) (u := .slice B nb cb) (by omega)).other (g := w.heap.size) (j := 3) (u := .slice P np cp) (by omega)).other (g := w.heap.size) (j := 4) (u := .slice S ns cs) (by omega)).other (g := w.heap.size) (j := 5) (u := .slice D nd cd) (by omega))
  have NhR := (Rows_.old (j := 5) (g := w.heap.size) (Rows_.old (j := 4) (g := w.heap.size) (Rows_.old (j := 3) (g := w.heap.size) (Rows_.old (j := 2) (g := w.heap.size) (Rows_.old (j := 1) (g := w.heap.size) (Rows_.old (j := 0) (g := w.heap.size) hR (by omega) (.int .i64 t)) (by omega) (.slice M nm cm)) (by omega) (.slice B nb cb)) (by omega) (.slice P np cp)) (by omega) (.slice S ns cs)) (by omega) (.slice D nd cd))
  have NhoP := (own_old (g := w.heap.size) (j := 5) (own_old (g := w.heap.size) (j := 4) (own_old (g := w.heap.size) (j := 3) (own_old (g := w.heap.size) (j := 2) (own_old (g := w.heap.size) (j := 1) (own_old (g := w.heap.size) (j := 0) hoP (by omega) (.int .i64 t)) (by omega) (.slice M nm cm)) (by omega) (.slice B nb cb)) (by omega) (.slice P np cp)) (by omega) (.slice S ns cs)) (by omega) (.slice D nd cd))
  have NhoS := (own_old (g := w.heap.size) (j := 5) (own_old (g := w.heap.size) (j := 4) (own_old (g := w.heap.size) (j := 3) (own_old (g := w.heap.size) (j := 2) (own_old (g := w.heap.size) (j := 1) (own_old (g := w.heap.size) (j := 0) hoS (by omega) (.int .i64 t)) (by omega) (.slice M nm cm)) (by omega) (.slice B nb cb)) (by omega) (.slice P np cp)) (by omega) (.slice S ns cs)) (by omega) (.slice D nd cd))
  have NB := (((((((Below.refl w.heap.size WA).setCell (p := ⟨w.heap.size, 0, none⟩) (Nat.le_refl _) (.int .i64 t)).setCell (p := ⟨w.heap.size, 1, none⟩) (Nat.le_refl _) (.slice M nm cm)).setCell (p := ⟨w.heap.size, 2, none⟩) (Nat.le_refl _) (.slice B nb cb)).setCell (p := ⟨w.heap.size, 3, none⟩) (Nat.le_refl _) (.slice P np cp)).setCell (p := ⟨w.heap.size, 4, none⟩) (Nat.le_refl _) (.slice S ns cs)).setCell (p := ⟨w.heap.size, 5, none⟩) (Nat.le_refl _) (.slice D nd cd))
  obtain ⟨WB, hWB⟩ : ∃ y_, ((((((WA).setCell ⟨w.heap.size, 0, none⟩ (.int .i64 t)).setCell ⟨w.heap.size, 1, none⟩ (.slice M nm cm)).setCell ⟨w.heap.size, 2, none⟩ (.slice B nb cb)).setCell ⟨w.heap.size, 3, none⟩ (.slice P np cp)).setCell ⟨w.heap.size, 4, none⟩ (.slice S ns cs)).setCell ⟨w.heap.size, 5, none⟩ (.slice D nd cd) = y_ := ⟨_, rfl⟩
  rw [hWB] at NZR NZD NRB NDB NB NhR NhoP NhoS ⊢
  clear r0 r1 r2 r3 r4 r5 r6 r7 r8 r9 r10 r11 v0 v1 v2 v3 v4 v5 a0 a1 a2 a3 a4 a5 a6 a7 a8 a9 a10 a11 b0 b1 b2 b3 b4 b5 hWB ZR ZD RB DB hR hoP hoS
  obtain ⟨⟨r0, r1, r2, r3, r4, r5⟩, r6, r7, r8, r9, r10, r11⟩ := NRB.six
  obtain ⟨⟨v0, v1, v2⟩, v3, v4, v5⟩ := NDB.three
  obtain ⟨⟨b0, b1, b2⟩, b3, b4, b5⟩ := NZD.three
  refine hK.out _ _ ?_ ?_
  · (intro _; exact ⟨⟨r0, r1, r2, r3, r4, r5⟩, v0, v1, v2⟩)
  clear hK K
  (try simp only [Act.put, List.setIfInBounds_toArray, List.set_cons_zero, List.set_cons_succ])
  refine upto_step (k := 3) (by kernel_rfl) rfl (fun K hK => ?_)
  go_simp
  have ZR := (((NZR.other (g := w.heap.size + 1) (j := 0) (u := .int .i64 td) (by omega)).other (g := w.heap.size + 1) (j := 1) (u := .slice Pd n c) (by omega)).other (g := w.heap.size + 1) (j := 2) (u := .slice Sd n d) (by omega))
  have ZD : Blk _ (w.heap.size + 1) [.int .i64 td, .slice Pd n c, .slice Sd n d] := (((NZD.set 0 (.int .i64 td)).set 1 (.slice Pd n c)).set 2 (.slice Sd n d))
  have hR := (Rows_.old (j := 2) (g := w.heap.size + 1) (Rows_.old (j := 1) (g := w.heap.size + 1) (Rows_.old (j := 0) (g := w.heap.size + 1) NhR (by omega) (.int .i64 td)) (by omega) (.slice Pd n c)) (by omega) (.slice Sd n d))
  have hoP := (own_old (g := w.heap.size + 1) (j := 2) (own_old (g := w.heap.size + 1) (j := 1) (own_old (g := w.heap.size + 1) (j := 0) NhoP (by omega) (.int .i64 td)) (by omega) (.slice Pd n c)) (by omega) (.slice Sd n d))
  have hoS := (own_old (g := w.heap.size + 1) (j := 2) (own_old (g := w.heap.size + 1) (j := 1) (own_old (g := w.heap.size + 1) (j := 0) NhoS (by omega) (.int .i64 td)) (by omega) (.slice Pd n c)) (by omega) (.slice Sd n d))
  have bb := (((NB.setCell (p := ⟨w.heap.size + 1, 0, none⟩) (by show w.heap.size ≤ w.heap.size + 1; omega) (.int .i64 td)).setCell (p := ⟨w.heap.size + 1, 1, none⟩) (by show w.heap.size ≤ w.heap.size + 1; omega) (.slice Pd n c)).setCell (p := ⟨w.heap.size + 1, 2, none⟩) (by show w.heap.size ≤ w.heap.size + 1; omega) (.slice Sd n d))
  obtain ⟨WF, hWF⟩ : ∃ y_, (((WB).setCell ⟨w.heap.size + 1, 0, none⟩ (.int .i64 td)).setCell ⟨w.heap.size + 1, 1, none⟩ (.slice Pd n c)).setCell ⟨w.heap.size + 1, 2, none⟩ (.slice Sd n d) = y_ := ⟨_, rfl⟩
  rw [hWF] at ZR ZD bb hR hoP hoS ⊢
  clear r0 r1 r2 r3 r4 r5 r6 r7 r8 r9 r10 r11 v0 v1 v2 v3 v4 v5 b0 b1 b2 b3 b4 b5 hWF NZR NZD NRB NDB NB NhR NhoP NhoS
  replace hD := hD.trans bb
  refine hK.out _ _ ?_ ?_
  · (intro h; exact absurd rfl h)
  clear hK K
  (try simp only [Act.put, List.setIfInBounds_toArray, List.set_cons_zero, List.set_cons_succ])
  refine upto_done (by kernel_rfl) ?_ _
  obtain ⟨⟨a0, a1, a2, a3, a4, a5⟩, a6, a7, a8, a9, a10, a11⟩ := ZR.six
  obtain ⟨⟨b0, b1, b2⟩, b3, b4, b5⟩ := ZD.three
  clear bb ZR ZD
  go_wp2_with fail
  exact bodyPost_ret (v := .tuple #[reV t M B P S D nm nb np ns nd cm cb cp cs cd, doV td Pd Sd n n c d]) (by simp [results, Try.results14, go_sem, *]) rfl ⟨t, M, B, P, S, D, nm, nb, np, ns, nd, cm, cb, cp, cs, cd, ms, bs, ps, ss, ds, td, Pd, Sd, n, c, d, pd, sd, rfl, hR.rdr HRL.out, hBD, HPS.out, HMS.out, hn3, Rd.of_own hoP, Rd.of_own hoS, hD⟩
/-- what DrawRedactDocument hands back -/
def R7Out (w w' : World) (e : Ending) : Prop :=
  ∃ (M : Option Addr) (nm cm : Nat) (ms : List Int) (t : Int) (P S : Option Addr) (k m c2 d : Nat) (ps : List ByteArray) (ss : List Int) (H : Option Addr) (nh ch : Nat) (hs : List Int),
      e = .returned (.tuple #[.slice M nm cm, doV t P S k m c2 d, .slice H nh ch]) ∧ nm ≤ 3 ∧ (∀ x ∈ ms, 0 ≤ x ∧ x ≤ 4) ∧ nh ≤ 3 ∧ k ≤ 4 ∧ m ≤ 3 ∧ I64 t ∧ (∀ s ∈ ps, OkP s) ∧ (∀ x ∈ ss, I64 x) ∧ Rd w' 1 M nm (ints ms) ∧ Rd w' 1 P k (sts ps) ∧ Rd w' 1 S m (ints ss) ∧ Rd w' 1 H nh (ints hs) ∧ Below w.heap.size w w'
set_option maxHeartbeats 16000000 in
theorem DrawRedactDocument_any {A : Option Addr} {n0 c0 : Nat} {l : List Int} {w : World} (h : Rd w 1 A n0 (u8s l)) (hn : n0 ≤ 1048576) (hB : ∀ x ∈ l, 0 ≤ x ∧ x ≤ 255) :
    Calls Try.prog 7 #[.slice A n0 c0] w fun e w' => R7Out w w' e := by
  obtain ⟨iInt, hiInt, hzInt0, hzInt1, hzInt2⟩ := info_parts Int_info
  obtain ⟨W1, hW1⟩ : ∃ W1, w.alloc (.cells #[.int .i64 0, .slice none 0 0, .slice none 0 0] 27) = W1 := ⟨_, rfl⟩
  have ZB : Blk W1 w.heap.size [.int .i64 0, .slice none 0 0, .slice none 0 0] := by rw [← hW1]; exact Blk.new _ _ _
  have hb0 : Below w.heap.size w W1 := by rw [← hW1]; exact (Below.refl w.heap.size w).alloc (Nat.le_refl _) _
  have HW1 := hide hW1
  clear hW1
  have hz0 : w.heap.size < W1.heap.size := ZB.lt
  go_enter Try.func7, Try.ntmps7
  go_wp2_with fail
  rw [HW1.out]
  clear HW1
  refine (l1New_any (h.below hb0) hn hB).mono ?_
  rintro e w1 ⟨p, rfl, hp, hC, hb1⟩
  have hz1 := hb1.size
  have hb01 := Below.next_ hb0 hb0.size hb1
  have hpl := hC.lt
  go_wp2_with fail
  refine (l6Any_any hC).mono ?_
  rintro e w2 ⟨t, ps, ss, P, S, k, m, c2, d, rfl, htI, hk, hm, hps, hss, hoP, hoS, hd2⟩
  have HPS := hide hps
  have HSS := hide hss
  clear hps hss
  have hz2 := hd2.2.size
  obtain ⟨q, hq⟩ : ∃ q, w2.heap.size = q := ⟨_, rfl⟩
  have HQ := hide hq
  obtain ⟨W2, hW2⟩ : ∃ W2, w2.alloc (.cells #[.int .i64 t, .slice P k c2, .slice S m d] 27) = W2 := ⟨_, rfl⟩
  have DB : Blk W2 q [.int .i64 t, .slice P k c2, .slice S m d] := by rw [← hW2, ← hq]; exact Blk.new _ _ _
  have hbW2 : Below w2.heap.size w2 W2 := by rw [← hW2]; exact (Below.refl w2.heap.size w2).alloc (Nat.le_refl _) _
  have hwp : w.heap.size ≠ p := by omega
  replace ZB := ((ZB.below hb1).cur hd2.2 hwp).below hbW2
  replace hoP := own_below hoP hbW2
  replace hoS := own_below hoS hbW2
  have hD2 := hd2.below hbW2
  have hqp : q ≠ p := by omega
  have hqw : w.heap.size < q := by omega
  have hq2 : q < W2.heap.size := DB.lt
  have hp2 : p < W2.heap.size := by omega
  have hw1 : w.heap.size < w1.heap.size := by omega
  have hD := Below.cur hb01 hD2.2 hb01.size (by omega)
  have hC2 := hD2.1
  have HW2 := hide hW2
  clear hW2 hbW2 hq hd2 hD2 hb0 hb1 hb01 hC
  go_upto_region 3 with fail
  rw [HW2.out, HQ.out]
  clear HW2
  have ho0 := World.ownsRow_lit (base := W2.heap.size) (e := 3) (size := 1) W2 #[] 0 (Nat.le_refl _) (by unfold maxLen; omega) rfl
  have hb3 := (Below.refl W2.heap.size W2).alloc (Nat.le_refl _) (.cells #[] 3)
  go_wp2_with fail
  refine (l1Below_any (hC2.below hb3) (by omega)).mono ?_
  rintro e w3 ⟨x, rfl, hx, hxI, hd3⟩
  obtain ⟨hx0, hx1⟩ := hx.2 (by omega)
  obtain ⟨N, rfl⟩ := Int.eq_ofNat_of_zero_le hx0
  have hN : N ≤ 3 := by omega
  have ho1 := own_cur ho0 hd3.2 hp2
  have hD1 := Drawn.of hb3 hd3
  clear hx hxI ho0 hb3 hd3 hx0 hx1
  go_wp2_with fail
  go_loopw [7, 8] (fun ov i wr => ∃ (a j : Nat) (ml : List Int) (M : Option Addr) (d5 : Nat), a + j = N ∧ i = .int .i64 a ∧ ov = .slice M j d5 ∧ wr.ownsRow W2.heap.size 3 1 (.slice M j d5) j (ints ml) ∧ Hid (∀ x ∈ ml, 0 ≤ x ∧ x ≤ 4) ∧ Drawn W2 wr p) (fun _ i _ => (intOf i).toNat)
  case atStart => exact ⟨N, 0, [], _, _, by omega, rfl, rfl, ho1, (fun x hx => absurd hx (by simp)), hD1⟩
  case round =>
    clear ho1 hD1
    obtain ⟨V, rfl⟩ : ∃ x, x = wr := ⟨wr, rfl⟩
    obtain ⟨a, j, ml, M, d5, ha, rfl, rfl, ho, hml, hd⟩ := hrel
    have hz : W2.heap.size ≤ V.heap.size := hd.2.size
    by_cases h0 : (a : Int) > 0
    · obtain ⟨a', rfl⟩ : ∃ a', a = a' + 1 := ⟨a - 1, by omega⟩
      have ha2 : ((a' + 1 : Nat) : Int) - 1 = (a' : Int) := by omega
      go_wp2_with fail
      refine (l1Below_any hd.1 (by omega)).mono ?_
      rintro e w7 ⟨x, rfl, hx, hxI, hd7⟩
      obtain ⟨hx0, hx1⟩ := hx.2 (by omega)
      have ho7 := own_cur ho hd7.2 hp2
      have hz7 := hd7.2.size
      have hzz : W2.heap.size ≤ w7.heap.size := by omega
      clear hx
      go_wp2_with (at_builtin; refine wpList_app2 _ rfl (.tmp 22) (.tmp 25) 24 rfl 3 iInt (.int .i64 0) 1 8 Try.underlying24 hiInt hzInt0 hzInt1 hzInt2 rfl (by omega) rfl (ho7.alloc _) rfl (Rd.one _ _ _) (ints_one [_]) (by unfold maxLen; omega) (by omega) rfl rfl ((Below.refl W2.heap.size w7).alloc hzz _) (by simp; omega) (Nat.le_refl _) (by simp; omega) ?_; intro A3 c3 w8 ho3 hb3 hg3 hat3)
      go_roundw
      case rel => exact ⟨a', j + 1, ml ++ [x], A3, c3, by omega, by go_num, rfl, by rw [ints_snoc]; exact ho3, snoc_all (Q := fun x : Int => 0 ≤ x ∧ x ≤ 4) hml.out ⟨hx0, by omega⟩, (hd.next hd7).belowB hp2 hb3⟩
      case measure => simp [intOf]
    · obtain rfl : a = 0 := by omega
      have ho0 := World.ownsRow_lit (base := V.heap.size) (e := 3) (size := 1) V #[] 0 (Nat.le_refl _) (by unfold maxLen; omega) rfl
      have hb3 := (Below.refl V.heap.size V).alloc (Nat.le_refl _) (.cells #[] 3)
      replace ZB := ZB.cur hd.2 hwp
      replace DB := DB.cur hd.2 hqp
      replace hoP := own_cur hoP hd.2 hpl
      replace hoS := own_cur hoS hd.2 hpl
      replace hD := Below.cur hD hd.2 hD.size (by omega)
      have hC3 := hd.1
      have hp3 : p < V.heap.size := by omega
      clear hd
      go_wp2_with fail
      refine (l1Below_any (hC3.below hb3) (by omega)).mono ?_
      rintro e w3 ⟨x, rfl, hx, hxI, hd3⟩
      obtain ⟨hx0, hx1⟩ := hx.2 (by omega)
      obtain ⟨N2, rfl⟩ := Int.eq_ofNat_of_zero_le hx0
      have hN2 : N2 ≤ 3 := by omega
      have ho1 := own_cur ho0 hd3.2 hp3
      have hD1 := Drawn.of hb3 hd3
      clear hx hxI ho0 hb3 hd3 hx0 hx1
      go_wp2_with fail
      go_loopw [9, 10] (fun ov i wr => ∃ (a j2 : Nat) (hl : List Int) (H : Option Addr) (d6 : Nat), a + j2 = N2 ∧ i = .int .i64 a ∧ ov = .slice H j2 d6 ∧ wr.ownsRow V.heap.size 3 1 (.slice H j2 d6) j2 (ints hl) ∧ Drawn V wr p) (fun _ i _ => (intOf i).toNat)
      case atStart => exact ⟨N2, 0, [], _, _, by omega, rfl, rfl, ho1, hD1⟩
      case round =>
        clear ho1 hD1
        obtain ⟨w9, rfl⟩ : ∃ x, x = wr := ⟨wr, rfl⟩
        obtain ⟨a, j2, hl, H, d6, ha2, rfl, rfl, hoH, hd⟩ := hrel
        have hz9 : V.heap.size ≤ w9.heap.size := hd.2.size
        by_cases h02 : (a : Int) > 0
        · obtain ⟨a', rfl⟩ : ∃ a', a = a' + 1 := ⟨a - 1, by omega⟩
          have ha3 : ((a' + 1 : Nat) : Int) - 1 = (a' : Int) := by omega
          go_wp2_with fail
          refine (l1Below_any hd.1 (by omega)).mono ?_
          rintro e w7 ⟨x, rfl, hx, hxI, hd7⟩
          obtain ⟨hx0, hx1⟩ := hx.2 (by omega)
          have ho7 := own_cur hoH hd7.2 hp3
          have hz7 := hd7.2.size
          have hzz : V.heap.size ≤ w7.heap.size := by omega
          have hw : wrap64 (x - 1) = x - 1 := by simp only [wrap64]; omega
          clear hx
          go_wp2_with (at_builtin; refine wpList_app2 _ rfl (.tmp 34) (.tmp 38) 24 rfl 3 iInt (.int .i64 0) 1 8 Try.underlying24 hiInt hzInt0 hzInt1 hzInt2 rfl (by omega) rfl (ho7.alloc _) rfl (Rd.one _ _ _) (ints_one [_]) (by unfold maxLen; omega) (by omega) rfl rfl ((Below.refl V.heap.size w7).alloc hzz _) (by simp; omega) (Nat.le_refl _) (by simp; omega) ?_; intro A3 c3 w8 ho3 hb3 hg3 hat3)
          go_roundw
          case rel => exact ⟨a', j2 + 1, hl ++ [x - 1], A3, c3, by omega, by go_num, rfl, by rw [ints_snoc]; exact ho3, (hd.next hd7).belowB hp3 hb3⟩
          case measure => simp [intOf]
        · obtain rfl : a = 0 := by omega
          replace ZB := ZB.cur hd.2 hwp
          replace DB := DB.cur hd.2 hqp
          replace hoP := own_cur hoP hd.2 hpl
          replace hoS := own_cur hoS hd.2 hpl
          replace ho := own_cur ho hd.2 hp2
          replace hD := Below.cur hD hd.2 hD.size (by omega)
          clear hd
          go_upto_region 13 with fail
          obtain ⟨⟨y0, y1, y2⟩, y3, y4, y5⟩ := DB.three
          refine wp_region_upto (S := (fun w' => w'.cell? ⟨q, 0, none⟩ = some (.int .i64 t) ∧ w'.cell? ⟨q, 1, none⟩ = some (.slice P k c2) ∧ w'.cell? ⟨q, 2, none⟩ = some (.slice S m d))) 5 (by kernel_rfl) ?_ ?_
          · exact ⟨y0, y1, y2⟩
          obtain ⟨WA, hWA⟩ : ∃ x, w9.drew = x := ⟨_, rfl⟩
          have hbd : Below w9.heap.size w9 WA := by rw [← hWA]; exact (Below.refl _ _).drew
          replace ZB := ZB.below hbd
          replace DB := DB.below hbd
          replace hoP := own_below hoP hbd
          replace hoS := own_below hoS hbd
          replace ho := own_below ho hbd
          replace hoH := own_below hoH hbd
          replace hD := Below.next_ hD hD.size hbd
          rw [hWA]
          intro hHeld
          clear hbd hWA y0 y1 y2 y3 y4 y5
          obtain ⟨⟨y0, y1, y2⟩, y3, y4, y5⟩ := DB.three
          obtain ⟨⟨z0, z1, z2⟩, z3, z4, z5⟩ := ZB.three
          refine upto_take (i := 0) (v := ?v36) rfl (by kernel_rfl) (by kernel_rfl) (by kernel_rfl) (by kernel_rfl) (fun _ _ _ h => h) hHeld ?hy36 (by rfl) ?rest36
          case hy36 => (intro w' hSw; (try dsimp only at hSw); go_simp; (try with_reducible rfl))
          (try simp only [Act.put, List.setIfInBounds_toArray, List.set_cons_zero, List.set_cons_succ])
          refine upto_take (i := 1) (v := ?v37) rfl (by kernel_rfl) (by kernel_rfl) (by kernel_rfl) (by kernel_rfl) (fun _ _ _ h => h) hHeld ?hy37 (by rfl) ?rest37
          case hy37 => (intro w' hSw; (try dsimp only at hSw); go_simp; (try with_reducible rfl))
          (try simp only [Act.put, List.setIfInBounds_toArray, List.set_cons_zero, List.set_cons_succ])
          refine upto_take (i := 2) (v := ?v38) rfl (by kernel_rfl) (by kernel_rfl) (by kernel_rfl) (by kernel_rfl) (fun _ _ _ h => h) hHeld ?hy38 (by rfl) ?rest38
          case hy38 => (intro w' hSw; (try dsimp only at hSw); go_simp; (try with_reducible rfl))
          (try simp only [Act.put, List.setIfInBounds_toArray, List.set_cons_zero, List.set_cons_succ])
          clear hHeld
          refine upto_step (k := 3) (by kernel_rfl) rfl (fun K hK => ?_)
          go_simp
          refine hK.out _ _ ?_ ?_
          · (intro _; exact ⟨y0, y1, y2⟩)
          clear hK K
          (try simp only [Act.put, List.setIfInBounds_toArray, List.set_cons_zero, List.set_cons_succ])
          refine upto_step (k := 4) (by kernel_rfl) rfl (fun K hK => ?_)
          go_simp
          have NDB := (((DB.other (g := w.heap.size) (j := 0) (u := .int .i64 t) (by omega)).other (g := w.heap.size) (j := 1) (u := .slice P k c2) (by omega)).other (g := w.heap.size) (j := 2) (u := .slice S m d) (by omega))
          have NZB : Blk _ w.heap.size [.int .i64 t, .slice P k c2, .slice S m d] := (((ZB.set 0 (.int .i64 t)).set 1 (.slice P k c2)).set 2 (.slice S m d))
          have NhoP := (own_old (g := w.heap.size) (j := 2) (own_old (g := w.heap.size) (j := 1) (own_old (g := w.heap.size) (j := 0) hoP (by omega) (.int .i64 t)) (by omega) (.slice P k c2)) (by omega) (.slice S m d))
          have NhoS := (own_old (g := w.heap.size) (j := 2) (own_old (g := w.heap.size) (j := 1) (own_old (g := w.heap.size) (j := 0) hoS (by omega) (.int .i64 t)) (by omega) (.slice P k c2)) (by omega) (.slice S m d))
          have Nho := (own_old (g := w.heap.size) (j := 2) (own_old (g := w.heap.size) (j := 1) (own_old (g := w.heap.size) (j := 0) ho (by omega) (.int .i64 t)) (by omega) (.slice P k c2)) (by omega) (.slice S m d))
          have NhoH := (own_old (g := w.heap.size) (j := 2) (own_old (g := w.heap.size) (j := 1) (own_old (g := w.heap.size) (j := 0) hoH (by omega) (.int .i64 t)) (by omega) (.slice P k c2)) (by omega) (.slice S m d))
          have NB := ((((Below.refl w.heap.size WA).setCell (p := ⟨w.heap.size, 0, none⟩) (Nat.le_refl _) (.int .i64 t)).setCell (p := ⟨w.heap.size, 1, none⟩) (Nat.le_refl _) (.slice P k c2)).setCell (p := ⟨w.heap.size, 2, none⟩) (Nat.le_refl _) (.slice S m d))
          obtain ⟨WB, hWB⟩ : ∃ y_, (((WA).setCell ⟨w.heap.size, 0, none⟩ (.int .i64 t)).setCell ⟨w.heap.size, 1, none⟩ (.slice P k c2)).setCell ⟨w.heap.size, 2, none⟩ (.slice S m d) = y_ := ⟨_, rfl⟩
          rw [hWB] at NDB NZB NhoP NhoS Nho NhoH NB ⊢
          clear hWB ZB DB hoP hoS ho hoH y0 y1 y2 y3 y4 y5 z0 z1 z2 z3 z4 z5
          obtain ⟨⟨y0, y1, y2⟩, y3, y4, y5⟩ := NDB.three
          obtain ⟨⟨z0, z1, z2⟩, z3, z4, z5⟩ := NZB.three
          refine hK.out _ _ ?_ ?_
          · (intro _; exact ⟨y0, y1, y2⟩)
          clear hK K
          (try simp only [Act.put, List.setIfInBounds_toArray, List.set_cons_zero, List.set_cons_succ])
          refine upto_step (k := 5) (by kernel_rfl) rfl (fun K hK => ?_)
          go_simp
          refine hK.out _ _ ?_ ?_
          · (intro h; exact absurd rfl h)
          clear hK K
          (try simp only [Act.put, List.setIfInBounds_toArray, List.set_cons_zero, List.set_cons_succ])
          refine upto_done (by kernel_rfl) ?_ _
          replace hD := hD.trans NB
          go_wp2_with fail
          exact bodyPost_ret (v := .tuple #[.slice M j d5, doV t P S k m c2 d, .slice H j2 d6]) (by simp [results, Try.results7, go_sem, *]) rfl ⟨M, j, d5, ml, t, P, S, k, m, c2, d, ps, ss, H, j2, d6, hl, rfl, by omega, hml.out, by omega, hk, hm, htI, HPS.out, HSS.out, Rd.of_own Nho, Rd.of_own NhoP, Rd.of_own NhoS, Rd.of_own NhoH, hD⟩
theorem rB_at {hd : List Int} {n k : Nat} (h : k < n) : (rB hd n)[k]? = some (!(hid hd k)) := by simp [rB, h]
theorem rP_at {hd : List Int} {ps : List ByteArray} {n k : Nat} (h : k < n) : (rP hd ps n)[k]? = some (if hid hd k = true then ByteArray.empty else ps.getD k ByteArray.empty) := by simp [rP, h]
theorem rS_at {hd : List Int} {ss : List Int} {n k : Nat} (h : k < n) : (rS hd ss n)[k]? = some (if hid hd k = true then 0 else ss.getD k 0) := by simp [rS, h]
theorem rD_at {hd ms : List Int} {ps : List ByteArray} {ss : List Int} {n k : Nat} (h : k < n) : (rD hd ms ps ss n)[k]? = some (if hid hd k = true then ms.map (fun m => partF m (ps.getD k ByteArray.empty) (ss.getD k 0)) else []) := by simp [rD, h]
theorem rB_len (hd : List Int) (n : Nat) : (rB hd n).length = n := by simp [rB]
theorem rP_len (hd : List Int) (ps : List ByteArray) (n : Nat) : (rP hd ps n).length = n := by simp [rP]
theorem rS_len (hd : List Int) (ss : List Int) (n : Nat) : (rS hd ss n).length = n := by simp [rS]
theorem shV_mem {α : Type} : ∀ {bs : List Bool} {xs : List α} {x : α}, x ∈ shV bs xs → ∃ k : Nat, bs[k]? = some true ∧ xs[k]? = some x := by
  intro bs
  induction bs with
  | nil => intro xs x h; simp [shV] at h
  | cons b bs ih =>
    intro xs x h
    cases xs with
    | nil => cases b <;> simp [shV] at h
    | cons y xs =>
      cases b with
      | true =>
        simp only [shV, List.mem_cons] at h
        rcases h with rfl | h
        · exact ⟨0, rfl, rfl⟩
        · obtain ⟨k, h1, h2⟩ := ih h
          exact ⟨k + 1, by simpa using h1, by simpa using h2⟩
      | false =>
        simp only [shV] at h
        obtain ⟨k, h1, h2⟩ := ih h
        exact ⟨k + 1, by simpa using h1, by simpa using h2⟩
theorem shV_leneq {α β : Type} : ∀ {bs : List Bool} {xs : List α} {ys : List β}, xs.length = ys.length → (shV bs xs).length = (shV bs ys).length := by
  intro bs
  induction bs with
  | nil => intro xs ys _; simp [shV]
  | cons b bs ih =>
    intro xs ys h
    cases xs with
    | nil => cases ys with
      | nil => cases b <;> simp [shV]
      | cons => simp at h
    | cons x xs => cases ys with
      | nil => simp at h
      | cons y ys =>
        have := @ih xs ys (by simpa using h)
        cases b <;> simp [shV, this]
section
variable {ms hd : List Int} {t : Int} {ps : List ByteArray} {ss : List Int}
theorem redX_eq (h : isDoc t ps ss = true) : redX ms t ps ss hd = ⟨t, ms, rB hd ps.length, rP hd ps ps.length, rS hd ss ps.length, rD hd ms ps ss ps.length⟩ := if_pos h
theorem red_isRed (h : isDoc t ps ss = true) : isRed t ms.length (rB hd ps.length) (rP hd ps ps.length) (rS hd ss ps.length) (rD hd ms ps ss ps.length) = true := by
  obtain ⟨h1, h2, h3, h4, h5⟩ := isDoc_all h
  unfold isRed
  have a0 : inR (((rB hd ps.length).length : Nat) : Int) 1 6 = true := by rw [rB_len]; exact inR_true.2 (by omega)
  have a1 : okAll ms.length (rB hd ps.length) (rP hd ps ps.length) (rS hd ss ps.length) (rD hd ms ps ss ps.length) = true := by
    refine okAll_yes fun k b p s d e1 e2 e3 e4 => ?_
    have hk : k < ps.length := by have := get_lt e1; rwa [rB_len] at this
    rw [rB_at hk] at e1
    rw [rP_at hk] at e2
    rw [rS_at hk] at e3
    rw [rD_at hk] at e4
    injection e1 with e1
    injection e2 with e2
    injection e3 with e3
    injection e4 with e4
    subst e1 e2 e3 e4
    cases hid hd k <;> simp [okAt]
  have a2 : (isDoc t (shV (rB hd ps.length) (rP hd ps ps.length)) (shV (rB hd ps.length) (rS hd ss ps.length)) || decide ((shV (rB hd ps.length) (rP hd ps ps.length)).length = 0) && inR t 0 999) = true := by
    have hl := shV_leneq (bs := rB hd ps.length) (xs := rP hd ps ps.length) (ys := rS hd ss ps.length) (by rw [rP_len, rS_len])
    have hle := shV_len (rB hd ps.length) (rP hd ps ps.length)
    rw [rB_len] at hle
    have ht : inR t 0 999 = true := inR_true.2 h1
    rcases Nat.eq_zero_or_pos (shV (rB hd ps.length) (rP hd ps ps.length)).length with h0 | h0
    · simp [h0, ht]
    · rw [isDoc_of h1 ⟨h0, by omega⟩ hl.symm ?_ ?_]
      · rfl
      · intro p hp
        obtain ⟨k, e1, e2⟩ := shV_mem hp
        have hk : k < ps.length := by have := get_lt e1; rwa [rB_len] at this
        rw [rB_at hk] at e1
        rw [rP_at hk] at e2
        injection e1 with e1
        injection e2 with e2
        have hh : hid hd k = false := by simpa using e1
        rw [if_neg (by simp [hh]), List.getD_eq_getElem?_getD, List.getElem?_eq_getElem hk] at e2
        exact h4 p (by rw [← e2]; exact List.getElem_mem hk)
      · intro x hx
        obtain ⟨k, e1, e2⟩ := shV_mem hx
        have hk : k < ps.length := by have := get_lt e1; rwa [rB_len] at this
        rw [rB_at hk] at e1
        rw [rS_at hk] at e2
        injection e1 with e1
        injection e2 with e2
        have hh : hid hd k = false := by simpa using e1
        have hk2 : k < ss.length := by omega
        rw [if_neg (by simp [hh]), List.getD_eq_getElem?_getD, List.getElem?_eq_getElem hk2] at e2
        exact h5 x (by rw [← e2]; exact List.getElem_mem hk2)
  rw [a0, a1, a2]
  simp [rB_len, rP_len, rS_len, rD_len]
theorem red_dig {m : Int} (h : isDoc t ps ss = true) (hm : m ∈ ms) : redDig m t ms (rB hd ps.length) (rP hd ps ps.length) (rS hd ss ps.length) (rD hd ms ps ss ps.length) = docDig m t ps ss := by
  obtain ⟨h1, h2, h3, h4, h5⟩ := isDoc_all h
  have hi := idxF_lt hm
  rw [redDig_yes (red_isRed h) (by omega)]
  unfold docDig
  rw [if_pos h]
  congr 2
  apply List.ext_getElem?
  intro k
  by_cases hk : k < ps.length
  · have hk2 : k < ss.length := by omega
    rw [rdL_at (rB_at hk) (rP_at hk) (rS_at hk) (rD_at hk), partsL_at (List.getElem?_eq_getElem hk) (List.getElem?_eq_getElem hk2)]
    have e1 : ps.getD k ByteArray.empty = ps[k] := by rw [List.getD_eq_getElem?_getD, List.getElem?_eq_getElem hk]; rfl
    have e2 : ss.getD k 0 = ss[k] := by rw [List.getD_eq_getElem?_getD, List.getElem?_eq_getElem hk2]; rfl
    rw [e1, e2]
    cases hid hd k with
    | false => simp
    | true =>
      simp only [if_true, Bool.not_true, Bool.false_eq_true, if_false]
      rw [List.getD_eq_getElem?_getD, List.getElem?_map, idxF_at hi]
      rfl
  · rw [List.getElem?_eq_none (by rw [rdL_len (n := ps.length) (rB_len _ _) (rP_len _ _ _) (rS_len _ _ _) (rD_len _ _ _ _ _)]; omega), List.getElem?_eq_none (by rw [partsL_len rfl h3]; omega)]
theorem hid_hidL {bs : List Bool} {n k : Nat} (h : k < n) : hid (hidL bs n) k = !(bs.getD k true) := by
  unfold hid
  rw [Bool.eq_iff_iff, hasF_iff]
  simp only [hidL, List.mem_filterMap, List.mem_range]
  constructor
  · rintro ⟨j, hj, hjk⟩
    split at hjk
    · cases hjk
    · rename_i hb
      injection hjk with hjk
      have : j = k := by omega
      subst this
      cases hb2 : bs.getD j true with
      | true => exact absurd hb2 hb
      | false => rfl
  · intro hb
    refine ⟨k, h, ?_⟩
    rw [if_neg (by intro h2; rw [h2] at hb; cases hb)]
theorem red_ro (h : isDoc t ps ss = true) : roF (redX ms t ps ss hd) t ps ss = true := by
  have hx := redX_eq (ms := ms) (hd := hd) h
  rw [hx, roF_yes (k := ps.length) h (rB_len _ _) rfl, decide_eq_true_iff]
  rw [redX_eq h]
  have key : ∀ k, k < ps.length → hid (hidL (rB hd ps.length) ps.length) k = hid hd k := fun k hk => by
    rw [hid_hidL hk, List.getD_eq_getElem?_getD, rB_at hk]
    simp
  have e1 : rB (hidL (rB hd ps.length) ps.length) ps.length = rB hd ps.length := List.map_congr_left fun k hk => by rw [key k (List.mem_range.1 hk)]
  have e2 : rP (hidL (rB hd ps.length) ps.length) ps ps.length = rP hd ps ps.length := List.map_congr_left fun k hk => by rw [key k (List.mem_range.1 hk)]
  have e3 : rS (hidL (rB hd ps.length) ps.length) ss ps.length = rS hd ss ps.length := List.map_congr_left fun k hk => by rw [key k (List.mem_range.1 hk)]
  have e4 : rD (hidL (rB hd ps.length) ps.length) ms ps ss ps.length = rD hd ms ps ss ps.length := List.map_congr_left fun k hk => by rw [key k (List.mem_range.1 hk)]
  dsimp only
  rw [e1, e2, e3, e4]
theorem red_I64s (hs : ∀ x ∈ ss, I64 x) : ∀ x ∈ rS hd ss ps.length, I64 x := by
  intro x hx
  simp only [rS, List.mem_map] at hx
  obtain ⟨k, _, rfl⟩ := hx
  split
  · exact ⟨by omega, by omega⟩
  · rw [List.getD_eq_getElem?_getD]
    cases hk : ss[k]? with
    | none => exact ⟨by show (-9223372036854775808 : Int) ≤ 0; omega, by show (0 : Int) ≤ 9223372036854775807; omega⟩
    | some y => exact hs y (List.mem_of_getElem? hk)
theorem red_I64d : ∀ x ∈ rD hd ms ps ss ps.length, ∀ y ∈ x, I64 y := by
  intro x hx y hy
  simp only [rD, List.mem_map] at hx
  obtain ⟨k, _, rfl⟩ := hx
  split at hy
  · simp only [List.mem_map] at hy
    obtain ⟨m, _, rfl⟩ := hy
    have := partF_bd m (ps.getD k ByteArray.empty) (ss.getD k 0)
    exact ⟨by omega, by omega⟩
  · cases hy
end
theorem ro_ok {r : RedD} {td : Int} {pd : List ByteArray} {sd : List Int} (h : roF r td pd sd = true) : isRed r.t r.ms.length r.bs r.ps r.ss r.ds = true ∧ isDoc td pd sd = true := by
  unfold roF at h
  rw [Bool.and_eq_true, decide_eq_true_eq] at h
  refine ⟨?_, h.1⟩
  have h2 := h.2
  rw [redX_eq h.1] at h2
  have := red_isRed (ms := r.ms) (hd := hidL r.bs r.bs.length) h.1
  obtain ⟨t, ms, bs, ps, ss, ds⟩ := r
  rw [RedD.mk.injEq] at h2
  obtain ⟨a1, _, a3, a4, a5, a6⟩ := h2
  dsimp only at *
  rw [a3, a4, a5, a6, a1] at this
  exact this
end Go.Proofs.Ythjdigiaajdnbaa
