/- Contracts of what draws spans. For codes of at most 2^20 bytes. -/
import Derived.Test.YtgeffaohdoeclaaDr3
import Derived.Test.YtgeffaohdoeclaaDr5
import Derived.Test.YtgeffaohdoeclaaSpP
namespace Go.Proofs.Ytgeffaohdoeclaa
open Go.RowKit Go.WideShapes Go.ChangeShapes Go.Deep
set_option linter.unusedSimpArgs false
set_option linter.unusedVariables false
set_option maxRecDepth 1000000
def AllS (l : List Sp) : Prop := ∀ m ∈ l, I64 m.f ∧ I64 m.t
set_option maxHeartbeats 2000000 in
theorem l4Draw_any {p : Nat} {w : World} (hC : Cur w p) :
    Calls Try.prog 122 #[curV p] w fun e w' => ∃ f t, e = .returned (spV f t) ∧ I64 f ∧ I64 t ∧ Drawn w w' p := by
  have hp := hC.lt
  obtain ⟨W1, hW1⟩ : ∃ W1, w.alloc (.cells #[.int .i64 0, .int .i64 0] 65) = W1 := ⟨_, rfl⟩
  have z0 : W1.cell? ⟨w.heap.size, 0, none⟩ = some (.int .i64 0) := by rw [← hW1]; simp
  have z1 : W1.cell? ⟨w.heap.size, 1, none⟩ = some (.int .i64 0) := by rw [← hW1]; simp
  have y0 : W1.frozen? ⟨w.heap.size, 0, none⟩ = false := by rw [← hW1]; simp
  have y1 : W1.frozen? ⟨w.heap.size, 1, none⟩ = false := by rw [← hW1]; simp
  have hb1 : Below w.heap.size w W1 := by rw [← hW1]; exact (Below.refl w.heap.size w).alloc (Nat.le_refl _) _
  have HW1 := hide hW1
  clear hW1
  have hne_a : w.heap.size ≠ p := by omega
  have hne_b := hne_a
  go_enter Try.func122, Try.ntmps122
  go_wp2_with fail
  rw [HW1.out]
  clear HW1
  refine (l1Below_any (hC.below hb1) (by omega)).mono ?_
  rintro e w1 ⟨x, rfl, hx, hxI, hd1⟩
  obtain ⟨hx0, hx1⟩ := hx.2 (by omega)
  have a0 : w1.cell? ⟨w.heap.size, 0, none⟩ = some (.int .i64 0) := (grown_cell hd1.2 (a := ⟨w.heap.size, 0, none⟩) (cell_lt z0) hne_a).trans z0
  have af0 : w1.frozen? ⟨w.heap.size, 0, none⟩ = false := (grown_frozen hd1.2 (a := ⟨w.heap.size, 0, none⟩) (cell_lt z0) hne_a).trans y0
  have a1 : w1.cell? ⟨w.heap.size, 1, none⟩ = some (.int .i64 0) := (grown_cell hd1.2 (a := ⟨w.heap.size, 1, none⟩) (cell_lt z1) hne_a).trans z1
  have af1 : w1.frozen? ⟨w.heap.size, 1, none⟩ = false := (grown_frozen hd1.2 (a := ⟨w.heap.size, 1, none⟩) (cell_lt z1) hne_a).trans y1
  clear hx
  go_wp2_with fail
  refine (l1Below_any hd1.1 (by omega)).mono ?_
  rintro e w2 ⟨y, rfl, hy, hyI, hd2⟩
  obtain ⟨hy0, hy1⟩ := hy.2 (by omega)
  have b0 : w2.cell? ⟨w.heap.size, 0, none⟩ = some (.int .i64 0) := (grown_cell hd2.2 (a := ⟨w.heap.size, 0, none⟩) (cell_lt a0) hne_b).trans a0
  have bf0 : w2.frozen? ⟨w.heap.size, 0, none⟩ = false := (grown_frozen hd2.2 (a := ⟨w.heap.size, 0, none⟩) (cell_lt a0) hne_b).trans af0
  have b1 : w2.cell? ⟨w.heap.size, 1, none⟩ = some (.int .i64 0) := (grown_cell hd2.2 (a := ⟨w.heap.size, 1, none⟩) (cell_lt a1) hne_b).trans a1
  have bf1 : w2.frozen? ⟨w.heap.size, 1, none⟩ = false := (grown_frozen hd2.2 (a := ⟨w.heap.size, 1, none⟩) (cell_lt a1) hne_b).trans af1
  have hw : wrap64 (x + y) = x + y := by simp only [wrap64]; omega
  have hD := Drawn.of hb1 (hd1.next hd2)
  obtain ⟨s0, s1⟩ := set2_cells (x := .int .i64 x) (y := .int .i64 (x + y)) b0 b1
  have hst : Below w.heap.size w2 ((w2.setCell ⟨w.heap.size, 0, none⟩ (.int .i64 x)).setCell ⟨w.heap.size, 1, none⟩ (.int .i64 (x + y))) := (Below.setCell (p := ⟨w.heap.size, 0, none⟩) (Below.refl _ _) (Nat.le_refl _) _).setCell (p := ⟨w.heap.size, 1, none⟩) (Nat.le_refl _) _
  clear hy z0 z1 y0 y1 a0 a1 af0 af1
  go_wp2_with fail
  exact bodyPost_ret (v := spV x (x + y)) (by simp [results, Try.results122, go_sem, s0, s1]) rfl ⟨x, x + y, rfl, ⟨by omega, by omega⟩, ⟨by omega, by omega⟩, hD.belowB hp hst⟩
set_option maxHeartbeats 4000000 in
theorem l4Any_any {p : Nat} {w : World} (hC : Cur w p) :
    Calls Try.prog 100 #[curV p] w fun e w' => ∃ f t, e = .returned (spV f t) ∧ I64 f ∧ I64 t ∧ Drawn w w' p := by
  have hp := hC.lt
  obtain ⟨W1, hW1⟩ : ∃ W1, w.alloc (.cells #[.int .i64 0, .int .i64 0] 65) = W1 := ⟨_, rfl⟩
  have z0 : W1.cell? ⟨w.heap.size, 0, none⟩ = some (.int .i64 0) := by rw [← hW1]; simp
  have z1 : W1.cell? ⟨w.heap.size, 1, none⟩ = some (.int .i64 0) := by rw [← hW1]; simp
  have y0 : W1.frozen? ⟨w.heap.size, 0, none⟩ = false := by rw [← hW1]; simp
  have y1 : W1.frozen? ⟨w.heap.size, 1, none⟩ = false := by rw [← hW1]; simp
  have hb1 : Below w.heap.size w W1 := by rw [← hW1]; exact (Below.refl w.heap.size w).alloc (Nat.le_refl _) _
  have HW1 := hide hW1
  clear hW1
  have hne_a : w.heap.size ≠ p := by omega
  go_enter Try.func100, Try.ntmps100
  go_wp2_with fail
  rw [HW1.out]
  clear HW1
  refine (l4Draw_any (hC.below hb1)).mono ?_
  rintro e w1 ⟨f, t, rfl, hf, ht, hd1⟩
  have a0 : w1.cell? ⟨w.heap.size, 0, none⟩ = some (.int .i64 0) := (grown_cell hd1.2 (a := ⟨w.heap.size, 0, none⟩) (cell_lt z0) hne_a).trans z0
  have af0 : w1.frozen? ⟨w.heap.size, 0, none⟩ = false := (grown_frozen hd1.2 (a := ⟨w.heap.size, 0, none⟩) (cell_lt z0) hne_a).trans y0
  have a1 : w1.cell? ⟨w.heap.size, 1, none⟩ = some (.int .i64 0) := (grown_cell hd1.2 (a := ⟨w.heap.size, 1, none⟩) (cell_lt z1) hne_a).trans z1
  have af1 : w1.frozen? ⟨w.heap.size, 1, none⟩ = false := (grown_frozen hd1.2 (a := ⟨w.heap.size, 1, none⟩) (cell_lt z1) hne_a).trans y1
  clear z0 z1 y0 y1
  have hz1 : w.heap.size < w1.heap.size := cell_lt a0
  obtain ⟨W2, hW2⟩ : ∃ W2, w1.alloc (.cells #[.int .i64 f, .int .i64 t] 65) = W2 := ⟨_, rfl⟩
  have hbW2 : Below w1.heap.size w1 W2 := by rw [← hW2]; exact (Below.refl w1.heap.size w1).alloc (Nat.le_refl _) _
  have k0 : W2.cell? ⟨w1.heap.size, 0, none⟩ = some (.int .i64 f) := by rw [← hW2]; simp
  have k1 : W2.cell? ⟨w1.heap.size, 1, none⟩ = some (.int .i64 t) := by rw [← hW2]; simp
  have d0 : W2.frozen? ⟨w1.heap.size, 0, none⟩ = false := by rw [← hW2]; simp
  have d1 : W2.frozen? ⟨w1.heap.size, 1, none⟩ = false := by rw [← hW2]; simp
  have e0 := (hbW2.cell (p := ⟨w.heap.size, 0, none⟩) hz1).trans a0
  have e1 := (hbW2.cell (p := ⟨w.heap.size, 1, none⟩) hz1).trans a1
  have g0 := (hbW2.frozen (p := ⟨w.heap.size, 0, none⟩) hz1).trans af0
  have g1 := (hbW2.frozen (p := ⟨w.heap.size, 1, none⟩) hz1).trans af1
  have HW2 := hide hW2
  clear hW2 a0 a1 af0 af1
  have hDW2 : Drawn w W2 p := (Drawn.of hb1 hd1).below hbW2
  clear hd1 hb1 hbW2
  obtain ⟨q, hq⟩ : ∃ q, w1.heap.size = q := ⟨_, rfl⟩
  rw [hq] at k0 k1 d0 d1 hz1
  have HQ := hide hq
  clear hq
  have hne_b : w.heap.size ≠ p := by omega
  have hne_c : q ≠ p := by omega
  have hqw : ¬ q = w.heap.size := by omega
  have hwq : ¬ w.heap.size = q := by omega
  go_wp2_with fail
  rw [HW2.out, HQ.out]
  clear HW2
  refine (l1Below_any hDW2.1 (by omega)).mono ?_
  rintro e w3 ⟨s, rfl, hs, hsI, hd3⟩
  obtain ⟨hs0, hs1⟩ := hs.2 (by omega)
  have b0 : w3.cell? ⟨w.heap.size, 0, none⟩ = some (.int .i64 0) := (grown_cell hd3.2 (a := ⟨w.heap.size, 0, none⟩) (cell_lt e0) hne_b).trans e0
  have bf0 : w3.frozen? ⟨w.heap.size, 0, none⟩ = false := (grown_frozen hd3.2 (a := ⟨w.heap.size, 0, none⟩) (cell_lt e0) hne_b).trans g0
  have b1 : w3.cell? ⟨w.heap.size, 1, none⟩ = some (.int .i64 0) := (grown_cell hd3.2 (a := ⟨w.heap.size, 1, none⟩) (cell_lt e1) hne_b).trans e1
  have bf1 : w3.frozen? ⟨w.heap.size, 1, none⟩ = false := (grown_frozen hd3.2 (a := ⟨w.heap.size, 1, none⟩) (cell_lt e1) hne_b).trans g1
  have c0 : w3.cell? ⟨q, 0, none⟩ = some (.int .i64 f) := (grown_cell hd3.2 (a := ⟨q, 0, none⟩) (cell_lt k0) hne_c).trans k0
  have cf0 : w3.frozen? ⟨q, 0, none⟩ = false := (grown_frozen hd3.2 (a := ⟨q, 0, none⟩) (cell_lt k0) hne_c).trans d0
  have c1 : w3.cell? ⟨q, 1, none⟩ = some (.int .i64 t) := (grown_cell hd3.2 (a := ⟨q, 1, none⟩) (cell_lt k1) hne_c).trans k1
  have cf1 : w3.frozen? ⟨q, 1, none⟩ = false := (grown_frozen hd3.2 (a := ⟨q, 1, none⟩) (cell_lt k1) hne_c).trans d1
  clear hs hsI e0 e1 g0 g1
  have hD3 := hDW2.next hd3
  clear hd3 hDW2
  by_cases h0 : s = 0
  · subst h0
    go_wp2_with fail
    refine (l4Raw_any hD3.1).mono ?_
    rintro e w4 ⟨x, rfl, hxI, hd4⟩
    have hne_m := hne_b
    have hne_r := hne_c
    have m0 : w4.cell? ⟨w.heap.size, 0, none⟩ = some (.int .i64 0) := (grown_cell hd4.2 (a := ⟨w.heap.size, 0, none⟩) (cell_lt b0) hne_m).trans b0
    have mf0 : w4.frozen? ⟨w.heap.size, 0, none⟩ = false := (grown_frozen hd4.2 (a := ⟨w.heap.size, 0, none⟩) (cell_lt b0) hne_m).trans bf0
    have m1 : w4.cell? ⟨w.heap.size, 1, none⟩ = some (.int .i64 0) := (grown_cell hd4.2 (a := ⟨w.heap.size, 1, none⟩) (cell_lt b1) hne_m).trans b1
    have mf1 : w4.frozen? ⟨w.heap.size, 1, none⟩ = false := (grown_frozen hd4.2 (a := ⟨w.heap.size, 1, none⟩) (cell_lt b1) hne_m).trans bf1
    have r0 : w4.cell? ⟨q, 0, none⟩ = some (.int .i64 f) := (grown_cell hd4.2 (a := ⟨q, 0, none⟩) (cell_lt c0) hne_r).trans c0
    have rf0 : w4.frozen? ⟨q, 0, none⟩ = false := (grown_frozen hd4.2 (a := ⟨q, 0, none⟩) (cell_lt c0) hne_r).trans cf0
    have r1 : w4.cell? ⟨q, 1, none⟩ = some (.int .i64 t) := (grown_cell hd4.2 (a := ⟨q, 1, none⟩) (cell_lt c1) hne_r).trans c1
    have rf1 : w4.frozen? ⟨q, 1, none⟩ = false := (grown_frozen hd4.2 (a := ⟨q, 1, none⟩) (cell_lt c1) hne_r).trans cf1
    have hD4 := hD3.next hd4
    clear hd4 hD3 b0 b1 bf0 bf1 c0 c1 cf0 cf1
    go_wp2_with fail
    have hbe := (((Below.refl w.heap.size w4).setCell (p := ⟨q, 0, none⟩) (by show w.heap.size ≤ q; omega) (.int .i64 x)).setCell (p := ⟨w.heap.size, 0, none⟩) (Nat.le_refl _) (.int .i64 x)).setCell (p := ⟨w.heap.size, 1, none⟩) (Nat.le_refl _) (.int .i64 t)
    exact bodyPost_ret (v := spV x t) (by simp [results, Try.results100, go_sem, *]) rfl ⟨x, t, rfl, by assumption, by assumption, hD4.belowB hp hbe⟩
  · have v0 : (s == 0) = false := by simpa using h0
    by_cases h1 : s = 1
    · subst h1
      go_wp2_with fail
      refine (l4Raw_any hD3.1).mono ?_
      rintro e w4 ⟨x, rfl, hxI, hd4⟩
      have hne_m := hne_b
      have hne_r := hne_c
      have m0 : w4.cell? ⟨w.heap.size, 0, none⟩ = some (.int .i64 0) := (grown_cell hd4.2 (a := ⟨w.heap.size, 0, none⟩) (cell_lt b0) hne_m).trans b0
      have mf0 : w4.frozen? ⟨w.heap.size, 0, none⟩ = false := (grown_frozen hd4.2 (a := ⟨w.heap.size, 0, none⟩) (cell_lt b0) hne_m).trans bf0
      have m1 : w4.cell? ⟨w.heap.size, 1, none⟩ = some (.int .i64 0) := (grown_cell hd4.2 (a := ⟨w.heap.size, 1, none⟩) (cell_lt b1) hne_m).trans b1
      have mf1 : w4.frozen? ⟨w.heap.size, 1, none⟩ = false := (grown_frozen hd4.2 (a := ⟨w.heap.size, 1, none⟩) (cell_lt b1) hne_m).trans bf1
      have r0 : w4.cell? ⟨q, 0, none⟩ = some (.int .i64 f) := (grown_cell hd4.2 (a := ⟨q, 0, none⟩) (cell_lt c0) hne_r).trans c0
      have rf0 : w4.frozen? ⟨q, 0, none⟩ = false := (grown_frozen hd4.2 (a := ⟨q, 0, none⟩) (cell_lt c0) hne_r).trans cf0
      have r1 : w4.cell? ⟨q, 1, none⟩ = some (.int .i64 t) := (grown_cell hd4.2 (a := ⟨q, 1, none⟩) (cell_lt c1) hne_r).trans c1
      have rf1 : w4.frozen? ⟨q, 1, none⟩ = false := (grown_frozen hd4.2 (a := ⟨q, 1, none⟩) (cell_lt c1) hne_r).trans cf1
      have hD4 := hD3.next hd4
      clear hd4 hD3 b0 b1 bf0 bf1 c0 c1 cf0 cf1
      go_wp2_with fail
      have hbe := (((Below.refl w.heap.size w4).setCell (p := ⟨q, 1, none⟩) (by show w.heap.size ≤ q; omega) (.int .i64 x)).setCell (p := ⟨w.heap.size, 0, none⟩) (Nat.le_refl _) (.int .i64 f)).setCell (p := ⟨w.heap.size, 1, none⟩) (Nat.le_refl _) (.int .i64 x)
      exact bodyPost_ret (v := spV f x) (by simp [results, Try.results100, go_sem, *]) rfl ⟨f, x, rfl, by assumption, by assumption, hD4.belowB hp hbe⟩
    · have v1 : (s == 1) = false := by simpa using h1
      go_wp2_with fail
      have hbe := ((Below.refl w.heap.size w3).setCell (p := ⟨w.heap.size, 0, none⟩) (Nat.le_refl _) (.int .i64 f)).setCell (p := ⟨w.heap.size, 1, none⟩) (Nat.le_refl _) (.int .i64 t)
      exact bodyPost_ret (v := spV f t) (by simp [results, Try.results100, go_sem, *]) rfl ⟨f, t, rfl, by assumption, by assumption, hD3.belowB hp hbe⟩
set_option maxHeartbeats 2000000 in
theorem l4List_any {p : Nat} {w : World} (hC : Cur w p) :
    Calls Try.prog 96 #[curV p] w fun e w' => ∃ B m d, e = .returned (.slice B m d) ∧ m ≤ 4 ∧ ∃ l, w'.ownsRow w.heap.size 65 2 (.slice B m d) m (sps l) ∧ AllS l ∧ Drawn w w' p := by
  obtain ⟨iSp, hiSp, hzSp0, hzSp1, hzSp2⟩ := info_parts Span_info
  have hp := hC.lt
  have ho0 := World.ownsRow_lit (base := w.heap.size) (e := 65) (size := 2) w #[] 0 (Nat.le_refl _) (by unfold maxLen; omega) rfl
  have hb0 := (Below.refl w.heap.size w).alloc (Nat.le_refl _) (.cells #[] 65)
  go_enter Try.func96, Try.ntmps96
  go_wp2_with fail
  refine (l1Below_any (hC.below hb0) (by omega)).mono ?_
  rintro e w1 ⟨x, rfl, hx, hxI, hd1⟩
  obtain ⟨hx0, hx1⟩ := hx.2 (by omega)
  obtain ⟨M, rfl⟩ := Int.eq_ofNat_of_zero_le hx0
  have ho1 := own_cur ho0 hd1.2 hp
  have hD1 := Drawn.of hb0 hd1
  clear hx hxI ho0 hb0
  go_wp2_with fail
  go_loopw [3, 4] (fun ov i wr => ∃ (k j : Nat) (l : List Sp) (B : Option Addr) (d : Nat), k + j = M ∧ i = .int .i64 k ∧ ov = .slice B j d ∧ wr.ownsRow w.heap.size 65 2 (.slice B j d) j (sps l) ∧ Hid (AllS l) ∧ Drawn w wr p) (fun _ i _ => (intOf i).toNat)
  case atStart => exact ⟨M, 0, [], _, _, by omega, rfl, rfl, ho1, (fun x hx => absurd hx (by simp)), hD1⟩
  case round =>
    clear ho1 hD1
    obtain ⟨k, j, l, B, d, hk, rfl, rfl, ho, hl, hd⟩ := hrel
    have hz : w.heap.size ≤ wr.heap.size := hd.2.size
    by_cases h0 : (k : Int) > 0
    · obtain ⟨k', rfl⟩ : ∃ k', k = k' + 1 := ⟨k - 1, by omega⟩
      go_wp2_with fail
      refine (l4Any_any hd.1).mono ?_
      rintro e w2 ⟨f, t, rfl, hf, ht, hd2⟩
      have ho2 := own_cur ho hd2.2 hp
      have hz2 := hd2.2.size
      have hzz : w.heap.size ≤ w2.heap.size := by omega
      go_wp2_with (at_builtin; refine wpList_app2 _ rfl (.tmp 12) (.tmp 15) 61 rfl 65 iSp (sqV ⟨0, 0⟩) 2 16 Try.underlying61 hiSp hzSp0 hzSp1 hzSp2 rfl (by omega) rfl (ho2.alloc _) rfl (Rd.two_ _ ⟨f, t⟩ _ (by simp)) (sps_one _) (by unfold maxLen; omega) (by omega) rfl (sps_snoc _ _) (B := w.heap.size) (w0 := w2) ((Below.refl w.heap.size w2).alloc hzz _) (by simp; omega) (Nat.le_refl _) (by simp; omega) ?_; intro A3 c3 w3 ho3 hb3 hg3 hat3)
      go_roundw
      case rel => exact ⟨k', j + 1, l ++ [⟨f, t⟩], A3, c3, by omega, by go_num, rfl, ho3, snoc_all (Q := fun m : Sp => I64 m.f ∧ I64 m.t) hl.out ⟨hf, ht⟩, (hd.next hd2).belowB hp hb3⟩
      case measure => simp [intOf]
    · go_wp2_with fail
      go_ret
      exact ⟨B, j, d, rfl, by omega, l, ho, hl.out, hd⟩
set_option maxHeartbeats 2000000 in
theorem DrawJoinAll_any {A : Option Addr} {n c : Nat} {l : List Int} {w : World} (h : Rd w 1 A n (u8s l)) (hn : n ≤ 1048576) (hB : ∀ x ∈ l, 0 ≤ x ∧ x ≤ 255) :
    Calls Try.prog 39 #[.slice A n c] w fun e w' => ∃ B m d, e = .returned (.slice B m d) ∧ m ≤ 4 ∧ ∃ l, w'.ownsRow w.heap.size 65 2 (.slice B m d) m (sps l) ∧ AllS l ∧ Below w.heap.size w w' := by
  go_enter Try.func39, Try.ntmps39
  go_wp2_with fail
  refine (l1New_any h hn hB).mono ?_
  rintro e w1 ⟨p, rfl, hp, hC, hb1⟩
  go_wp2_with fail
  refine (l4List_any hC).mono ?_
  rintro e w2 ⟨B, m, d, rfl, hm, l, ho, hl, hD⟩
  have hz := hb1.size
  go_wp2_with fail
  go_ret
  exact ⟨B, m, d, rfl, hm, l, own_base ho (by omega), hl, Below.cur hb1 hD.2 hz hp⟩
set_option maxHeartbeats 2000000 in
theorem DrawMeetAll_any {A : Option Addr} {n c : Nat} {l : List Int} {w : World} (h : Rd w 1 A n (u8s l)) (hn : n ≤ 1048576) (hB : ∀ x ∈ l, 0 ≤ x ∧ x ≤ 255) :
    Calls Try.prog 44 #[.slice A n c] w fun e w' => ∃ B m d B2 m2 d2, e = .returned (.tuple #[.slice B m d, .slice B2 m2 d2]) ∧ m ≤ 4 ∧ m2 ≤ 4 ∧ ∃ l l2, w'.ownsRow w.heap.size 65 2 (.slice B m d) m (sps l) ∧ w'.ownsRow w.heap.size 65 2 (.slice B2 m2 d2) m2 (sps l2) ∧ AllS l ∧ AllS l2 ∧ Below w.heap.size w w' := by
  go_enter Try.func44, Try.ntmps44
  go_wp2_with fail
  refine (l1New_any h hn hB).mono ?_
  rintro e w1 ⟨p, rfl, hp, hC, hb1⟩
  go_wp2_with fail
  refine (l4List_any hC).mono ?_
  rintro e w2 ⟨B, m, d, rfl, hm, l, ho, hl, hd2⟩
  go_wp2_with fail
  refine (l4List_any hd2.1).mono ?_
  rintro e w3 ⟨B2, m2, d2, rfl, hm2, l2, ho2, hl2, hd3⟩
  have hD := hd2.next hd3
  have hz := hb1.size
  have hz2 := hd2.2.size
  have ho' := own_cur ho hd3.2 hC.lt
  go_wp2_with fail
  exact bodyPost_ret (v := .tuple #[.slice B m d, .slice B2 m2 d2]) (by simp [results, Try.results44, go_sem, *]) rfl ⟨B, m, d, B2, m2, d2, rfl, hm, hm2, l, l2, own_base ho' (by omega), own_base ho2 (by omega), hl, hl2, Below.cur hb1 hD.2 hz hp⟩
set_option maxHeartbeats 2000000 in
theorem DrawMakeSpan_any {A : Option Addr} {n c : Nat} {l : List Int} {w : World} (h : Rd w 1 A n (u8s l)) (hn : n ≤ 1048576) (hB : ∀ x ∈ l, 0 ≤ x ∧ x ≤ 255) :
    Calls Try.prog 50 #[.slice A n c] w fun e w' => ∃ x y, e = .returned (.tuple #[.int .i64 x, .int .i64 y]) ∧ I64 x ∧ I64 y ∧ Below w.heap.size w w' := by
  go_enter Try.func50, Try.ntmps50
  go_wp2_with fail
  refine (l1New_any h hn hB).mono ?_
  rintro e w1 ⟨p, rfl, hp, hC, hb1⟩
  go_wp2_with fail
  refine (l4Raw_any hC).mono ?_
  rintro e w2 ⟨x, rfl, hx, hd2⟩
  go_wp2_with fail
  refine (l4Raw_any hd2.1).mono ?_
  rintro e w3 ⟨y, rfl, hy, hd3⟩
  have hD := hd2.next hd3
  have hz := hb1.size
  go_wp2_with fail
  exact bodyPost_ret (v := .tuple #[.int .i64 x, .int .i64 y]) (by simp [results, Try.results50, go_sem, *]) rfl ⟨x, y, rfl, hx, hy, Below.cur hb1 hD.2 hz hp⟩
set_option maxHeartbeats 4000000 in
theorem DrawMeetSpans_any {A : Option Addr} {n c : Nat} {l : List Int} {w : World} (h : Rd w 1 A n (u8s l)) (hn : n ≤ 1048576) (hB : ∀ x ∈ l, 0 ≤ x ∧ x ≤ 255) :
    Calls Try.prog 48 #[.slice A n c] w fun e w' => ∃ f t f2 t2, e = .returned (.tuple #[spV f t, spV f2 t2]) ∧ I64 f ∧ I64 t ∧ I64 f2 ∧ I64 t2 ∧ Below w.heap.size w w' := by
  obtain ⟨W1, hW1⟩ : ∃ W1, (w.alloc (.cells #[.int .i64 0, .int .i64 0] 65)).alloc (.cells #[.int .i64 0, .int .i64 0] 65) = W1 := ⟨_, rfl⟩
  have z0 : W1.cell? ⟨w.heap.size, 0, none⟩ = some (.int .i64 0) := by rw [← hW1]; simp
  have y0 : W1.frozen? ⟨w.heap.size, 0, none⟩ = false := by rw [← hW1]; simp
  have z1 : W1.cell? ⟨w.heap.size, 1, none⟩ = some (.int .i64 0) := by rw [← hW1]; simp
  have y1 : W1.frozen? ⟨w.heap.size, 1, none⟩ = false := by rw [← hW1]; simp
  have z2 : W1.cell? ⟨w.heap.size + 1, 0, none⟩ = some (.int .i64 0) := by rw [← hW1]; simp
  have y2 : W1.frozen? ⟨w.heap.size + 1, 0, none⟩ = false := by rw [← hW1]; simp
  have z3 : W1.cell? ⟨w.heap.size + 1, 1, none⟩ = some (.int .i64 0) := by rw [← hW1]; simp
  have y3 : W1.frozen? ⟨w.heap.size + 1, 1, none⟩ = false := by rw [← hW1]; simp
  have hb1 : Below w.heap.size w W1 := by rw [← hW1]; repeat (first | exact Below.refl _ _ | assumption | refine Below.next_ ?_ ?_ (by assumption) | refine Below.drew ?_ | refine below_drewN ?_ _ | refine Below.alloc ?_ ?_ _ | refine Below.setCell ?_ ?_ _ | omega | (simp <;> omega) | (simp at * <;> omega))
  have hz1 : W1.heap.size = w.heap.size + 1 + 1 := by rw [← hW1]; simp
  have HW1 := hide hW1
  clear hW1
  go_enter Try.func48, Try.ntmps48
  go_wp2_with fail
  rw [HW1.out]
  clear HW1
  refine (l1New_any (h.below hb1) hn hB).mono ?_
  rintro e w2 ⟨p, rfl, hp, hC, hb2⟩
  have a0 := (hb2.cell (p := ⟨w.heap.size, 0, none⟩) (by show w.heap.size < W1.heap.size; omega)).trans z0
  have e0 := (hb2.frozen (p := ⟨w.heap.size, 0, none⟩) (by show w.heap.size < W1.heap.size; omega)).trans y0
  have a1 := (hb2.cell (p := ⟨w.heap.size, 1, none⟩) (by show w.heap.size < W1.heap.size; omega)).trans z1
  have e1 := (hb2.frozen (p := ⟨w.heap.size, 1, none⟩) (by show w.heap.size < W1.heap.size; omega)).trans y1
  have a2 := (hb2.cell (p := ⟨w.heap.size + 1, 0, none⟩) (by show w.heap.size + 1 < W1.heap.size; omega)).trans z2
  have e2 := (hb2.frozen (p := ⟨w.heap.size + 1, 0, none⟩) (by show w.heap.size + 1 < W1.heap.size; omega)).trans y2
  have a3 := (hb2.cell (p := ⟨w.heap.size + 1, 1, none⟩) (by show w.heap.size + 1 < W1.heap.size; omega)).trans z3
  have e3 := (hb2.frozen (p := ⟨w.heap.size + 1, 1, none⟩) (by show w.heap.size + 1 < W1.heap.size; omega)).trans y3
  clear z0 z1 z2 z3 y0 y1 y2 y3
  have hne_0 : w.heap.size ≠ p := by omega
  have hne_1 : w.heap.size + 1 ≠ p := by omega
  have hz2 := hb2.size
  go_wp2_with fail
  refine (l4Any_any hC).mono ?_
  rintro e w3 ⟨f, t, rfl, hf, ht, hd3⟩
  have b0 : w3.cell? ⟨w.heap.size, 0, none⟩ = some (.int .i64 0) := (grown_cell hd3.2 (a := ⟨w.heap.size, 0, none⟩) (cell_lt a0) hne_0).trans a0
  have g0 : w3.frozen? ⟨w.heap.size, 0, none⟩ = false := (grown_frozen hd3.2 (a := ⟨w.heap.size, 0, none⟩) (cell_lt a0) hne_0).trans e0
  have b1 : w3.cell? ⟨w.heap.size, 1, none⟩ = some (.int .i64 0) := (grown_cell hd3.2 (a := ⟨w.heap.size, 1, none⟩) (cell_lt a1) hne_0).trans a1
  have g1 : w3.frozen? ⟨w.heap.size, 1, none⟩ = false := (grown_frozen hd3.2 (a := ⟨w.heap.size, 1, none⟩) (cell_lt a1) hne_0).trans e1
  have b2 : w3.cell? ⟨w.heap.size + 1, 0, none⟩ = some (.int .i64 0) := (grown_cell hd3.2 (a := ⟨w.heap.size + 1, 0, none⟩) (cell_lt a2) hne_1).trans a2
  have g2 : w3.frozen? ⟨w.heap.size + 1, 0, none⟩ = false := (grown_frozen hd3.2 (a := ⟨w.heap.size + 1, 0, none⟩) (cell_lt a2) hne_1).trans e2
  have b3 : w3.cell? ⟨w.heap.size + 1, 1, none⟩ = some (.int .i64 0) := (grown_cell hd3.2 (a := ⟨w.heap.size + 1, 1, none⟩) (cell_lt a3) hne_1).trans a3
  have g3 : w3.frozen? ⟨w.heap.size + 1, 1, none⟩ = false := (grown_frozen hd3.2 (a := ⟨w.heap.size + 1, 1, none⟩) (cell_lt a3) hne_1).trans e3
  clear a0 a1 a2 a3 e0 e1 e2 e3
  have hz3 := hd3.2.size
  obtain ⟨W4, hW4⟩ : ∃ W4, w3.alloc (.cells #[.int .i64 f, .int .i64 t] 65) = W4 := ⟨_, rfl⟩
  have hb4 : Below w3.heap.size w3 W4 := by rw [← hW4]; exact (Below.refl w3.heap.size w3).alloc (Nat.le_refl _) _
  have k0 : W4.cell? ⟨w3.heap.size, 0, none⟩ = some (.int .i64 f) := by rw [← hW4]; simp
  have k1 : W4.cell? ⟨w3.heap.size, 1, none⟩ = some (.int .i64 t) := by rw [← hW4]; simp
  have HW4 := hide hW4
  clear hW4
  have c0_ := (hb4.cell (p := ⟨w.heap.size, 0, none⟩) (cell_lt b0)).trans b0
  have d0_ := (hb4.frozen (p := ⟨w.heap.size, 0, none⟩) (cell_lt b0)).trans g0
  have c1_ := (hb4.cell (p := ⟨w.heap.size, 1, none⟩) (cell_lt b1)).trans b1
  have d1_ := (hb4.frozen (p := ⟨w.heap.size, 1, none⟩) (cell_lt b1)).trans g1
  have c2_ := (hb4.cell (p := ⟨w.heap.size + 1, 0, none⟩) (cell_lt b2)).trans b2
  have d2_ := (hb4.frozen (p := ⟨w.heap.size + 1, 0, none⟩) (cell_lt b2)).trans g2
  have c3_ := (hb4.cell (p := ⟨w.heap.size + 1, 1, none⟩) (cell_lt b3)).trans b3
  have d3_ := (hb4.frozen (p := ⟨w.heap.size + 1, 1, none⟩) (cell_lt b3)).trans g3
  clear b0 b1 b2 b3 g0 g1 g2 g3
  obtain ⟨q, hq⟩ : ∃ q, w3.heap.size = q := ⟨_, rfl⟩
  rw [hq] at k0 k1
  have hne_q : q ≠ p := by have := hd3.1.lt; omega
  have hqa : ¬ q = w.heap.size := by omega
  have hqb : ¬ q = w.heap.size + 1 := by omega
  have hD4 : Drawn w2 W4 p := hd3.below hb4
  have hbb : Below w.heap.size w w2 := Below.next_ hb1 (by omega) hb2
  have HQ := hide hq
  clear hq hd3 hb4 hb1 hb2
  go_wp2_with fail
  rw [HW4.out, HQ.out]
  clear HW4
  go_region_with (first | (go_at_call 100; refine (l4Any_any (p := p) (w := World.drew W4) hD4.1).mono ?_; rintro e w5 ⟨f2, t2, rfl, hf2, ht2, hd5⟩; have m0 := (grown_cell hd5.2 (a := ⟨q, 0, none⟩) (cell_lt k0) hne_q).trans k0; have m1 := (grown_cell hd5.2 (a := ⟨q, 1, none⟩) (cell_lt k1) hne_q).trans k1; have n0_ := (grown_cell hd5.2 (a := ⟨w.heap.size, 0, none⟩) (cell_lt c0_) hne_0).trans c0_; have o0_ := (grown_frozen hd5.2 (a := ⟨w.heap.size, 0, none⟩) (cell_lt c0_) hne_0).trans d0_; have n1_ := (grown_cell hd5.2 (a := ⟨w.heap.size, 1, none⟩) (cell_lt c1_) hne_0).trans c1_; have o1_ := (grown_frozen hd5.2 (a := ⟨w.heap.size, 1, none⟩) (cell_lt c1_) hne_0).trans d1_; have n2_ := (grown_cell hd5.2 (a := ⟨w.heap.size + 1, 0, none⟩) (cell_lt c2_) hne_1).trans c2_; have o2_ := (grown_frozen hd5.2 (a := ⟨w.heap.size + 1, 0, none⟩) (cell_lt c2_) hne_1).trans d2_; have n3_ := (grown_cell hd5.2 (a := ⟨w.heap.size + 1, 1, none⟩) (cell_lt c3_) hne_1).trans c3_; have o3_ := (grown_frozen hd5.2 (a := ⟨w.heap.size + 1, 1, none⟩) (cell_lt c3_) hne_1).trans d3_))
  all_goals (
    have hbe : Below w.heap.size w w5 := Below.cur (p := p) (Below.drew (Below.cur (p := p) hbb hD4.2 (by omega) (by omega))) hd5.2 (Nat.le_trans (show w.heap.size ≤ w2.heap.size by omega) hD4.2.size) (by omega)
    have hbs := (((hbe.setCell (p := ⟨w.heap.size, 0, none⟩) (Nat.le_refl _) (.int .i64 f)).setCell (p := ⟨w.heap.size, 1, none⟩) (Nat.le_refl _) (.int .i64 t)).setCell (p := ⟨w.heap.size + 1, 0, none⟩) (Nat.le_succ _) (.int .i64 f2)).setCell (p := ⟨w.heap.size + 1, 1, none⟩) (Nat.le_succ _) (.int .i64 t2)
    go_wp2_with fail
    exact bodyPost_ret (v := .tuple #[spV f t, spV f2 t2]) (by simp [results, Try.results48, go_sem, *]) rfl ⟨f, t, f2, t2, rfl, hf, ht, hf2, ht2, hbs⟩)
end Go.Proofs.Ytgeffaohdoeclaa
