/- The program's MakeDocument returns what the reference's returns, changes no argument, and shares no memory. For every input. -/
import Derived.Test.YtgeffaohdoeclaaArgs
import Derived.Test.YtgeffaohdoeclaaArgD
import Derived.Test.YtgeffaohdoeclaaDocE
import Derived.Test.YtgeffaohdoeclaaMkDs
import Derived.Test.YtgeffaohdoeclaaMkDi
import Derived.Test.YtgeffaohdoeclaaMarkD
namespace Go.Proofs.Ytgeffaohdoeclaa.lawFnExactMakeDocument
open Go.ChangeShapes Go.WideShapes Go.ChangeAt Go.RowKit
set_option maxRecDepth 1000000
set_option linter.unusedSimpArgs false
set_option linter.unusedVariables false
theorem own : ownKnob Try.prog.godebug = none := by kernel_rfl
theorem md_len (t : Int) (ps : List ByteArray) (seed : Int) : (mdP t ps seed).length ≤ ps.length ∧ (mdS t ps seed).length ≤ ps.length := by
  unfold mdP mdS
  split
  · exact ⟨Nat.le_refl _, by rw [saltF_len]; exact Nat.le_refl _⟩
  · simp
set_option maxHeartbeats 16000000 in
theorem law_any {v0 v1 v2 : Value} {W : World} (i0 : InInt W v0) (i1 : InStrings W v1) (i2 : InInt W v2) (w : World) (hWw : w = W) :
    Calls Try.prog 9 #[v0, v1, v2] w fun e w' => e = .returned (.bool true) ∧ Below w.heap.size w w' := by
  subst hWw
  obtain ⟨x0, rfl, hx0⟩ := i0
  obtain ⟨A1, k1, c1, l1, rfl, hn1, hr1, hsz1⟩ := i1
  obtain ⟨x2, rfl, hx2⟩ := i2
  by_cases hgd : szS l1 1048576 < 0
  · go_enter Try.func9, Try.ntmps9
    go_wp2_with fail
    refine (szStringS_any hr1 (by omega) (by omega) hn1 hsz1).mono ?_
    rintro e _ ⟨rfl, q, rfl⟩
    go_wp2_with fail
    go_ret
    exact ⟨rfl, by repeat (first | exact Below.refl _ _ | assumption | refine Below.next_ ?_ ?_ (by assumption) | refine Below.drew ?_ | refine below_drewN ?_ _ | refine Below.alloc ?_ ?_ _ | refine Below.setCell ?_ ?_ _ | omega | (dsimp only; omega) | (simp <;> omega) | (simp at * <;> omega))⟩
  have hle1 : k1 ≤ 1048576 ∧ ∀ p ∈ l1, p.size ≤ 1048576 := by
    have hl := hr1.maplen
    rcases szS_le (ps := l1) (l := 1048576) (by omega) with h | ⟨_, _, h1, h2⟩
    · omega
    · exact ⟨by omega, fun p hp => by have := h2 p hp; omega⟩
  obtain ⟨hk1s, hpz⟩ := hle1
  have hpz2 : ∀ p ∈ l1, p.size ≤ 137438953472 := fun p hp => by have := hpz p hp; omega
  have HLN := hide (show (mdP x0 l1 x2).length ≤ k1 ∧ (mdS x0 l1 x2).length ≤ k1 from by have hl := hr1.maplen; have := md_len x0 l1 x2; omega)
  go_enter Try.func9, Try.ntmps9
  go_wp2_with fail
  refine (szStringS_any hr1 (by omega) (by omega) hn1 hsz1).mono ?_
  rintro e _ ⟨rfl, q0, rfl⟩
  obtain ⟨w1, hw1⟩ : ∃ x, w.drewN q0 = x := ⟨_, rfl⟩
  have hb_1 : Below w.heap.size w w1 := by rw [← hw1]; exact below_drewN (Below.refl _ _) _
  have hz_1 := hb_1.size
  rw [hw1]
  clear hw1
  go_wp2_with fail
  refine (toStringS_any (hr1.below (by repeat (first | exact Below.refl _ _ | assumption | refine Below.next_ ?_ ?_ (by assumption) | refine Below.drew ?_ | refine below_drewN ?_ _ | refine Below.alloc ?_ ?_ _ | refine Below.setCell ?_ ?_ _ | omega | (dsimp only; omega) | (simp <;> omega) | (simp at * <;> omega)))) (by omega)).mono ?_
  rintro e w2 ⟨B2, e2, rfl, ho2, hb_2⟩
  have hz_2 := hb_2.size; (try simp at hz_2)
  go_wp2_with fail
  refine (specMakeDocument_any ((Rd.of_own ho2).below (by repeat (first | exact Below.refl _ _ | assumption | refine Below.next_ ?_ ?_ (by assumption) | refine Below.drew ?_ | refine below_drewN ?_ _ | refine Below.alloc ?_ ?_ _ | refine Below.setCell ?_ ?_ _ | omega | (dsimp only; omega) | (simp <;> omega) | (simp at * <;> omega)))) (by omega) hx0 hx2 hpz2).mono ?_
  rintro e w3 ⟨P3, S3, n3, m3, c3, d3, rfl, hp3, hs3, hx3_, hb_3⟩
  have hz_3 := hb_3.size; (try simp at hz_3)
  have hN3 : n3 ≤ 1048576 ∧ m3 ≤ 1048576 := by have h1 := (Rd.of_own hp3).maplen; have h2 := (Rd.of_own hs3).maplen; have := HLN.out; omega
  obtain ⟨hN3, hM3⟩ := hN3
  go_wp2_with fail
  refine (toStringS_any (hr1.below (by repeat (first | exact Below.refl _ _ | assumption | refine Below.next_ ?_ ?_ (by assumption) | refine Below.drew ?_ | refine below_drewN ?_ _ | refine Below.alloc ?_ ?_ _ | refine Below.setCell ?_ ?_ _ | omega | (dsimp only; omega) | (simp <;> omega) | (simp at * <;> omega)))) (by omega)).mono ?_
  rintro e w4 ⟨B4, e4, rfl, ho4, hb_4⟩
  have hz_4 := hb_4.size; (try simp at hz_4)
  have bk8 : Blk w4 w3.heap.size [.int .i64 (mdT x0 l1 x2), .slice P3 n3 c3, .slice S3 m3 d3] := Blk.below (Blk.new w3 #[.int .i64 (mdT x0 l1 x2), .slice P3 n3 c3, .slice S3 m3 d3] 27) hb_4
  go_wp2_with fail
  refine (implMakeDocument_any ((Rd.of_own ho4).below (by repeat (first | exact Below.refl _ _ | assumption | refine Below.next_ ?_ ?_ (by assumption) | refine Below.drew ?_ | refine below_drewN ?_ _ | refine Below.alloc ?_ ?_ _ | refine Below.setCell ?_ ?_ _ | omega | (dsimp only; omega) | (simp <;> omega) | (simp at * <;> omega)))) (by omega) hx0 hx2 hpz2).mono ?_
  rintro e w5 ⟨P5, S5, n5, m5, c5, d5, rfl, hp5, hs5, hx5_, hb_5⟩
  have hz_5 := hb_5.size; (try simp at hz_5)
  have hN5 : n5 ≤ 1048576 ∧ m5 ≤ 1048576 := by have h1 := (Rd.of_own hp5).maplen; have h2 := (Rd.of_own hs5).maplen; have := HLN.out; omega
  obtain ⟨hN5, hM5⟩ := hN5
  replace bk8 := Blk.below bk8 (w' := w5) (by repeat (first | exact Below.refl _ _ | assumption | refine Below.next_ ?_ ?_ (by assumption) | refine Below.drew ?_ | refine below_drewN ?_ _ | refine Below.alloc ?_ ?_ _ | refine Below.setCell ?_ ?_ _ | omega | (dsimp only; omega) | (simp <;> omega) | (simp at * <;> omega)))
  have ba8 : Blk (w5.alloc (.cells #[.int .i64 (mdT x0 l1 x2), .slice P5 n5 c5, .slice S5 m5 d5] 27)) w3.heap.size [.int .i64 (mdT x0 l1 x2), .slice P3 n3 c3, .slice S3 m3 d3] := bk8.alloc _
  obtain ⟨⟨r0, r1, r2⟩, r3, r4, r5⟩ := ba8.three
  go_wp2_with fail
  refine (eqDocument_any ((Rd.of_own hp5).below (by repeat (first | exact Below.refl _ _ | assumption | refine Below.next_ ?_ ?_ (by assumption) | refine Below.drew ?_ | refine below_drewN ?_ _ | refine Below.alloc ?_ ?_ _ | refine Below.setCell ?_ ?_ _ | omega | (dsimp only; omega) | (simp <;> omega) | (simp at * <;> omega)))) ((Rd.of_own hs5).below (by repeat (first | exact Below.refl _ _ | assumption | refine Below.next_ ?_ ?_ (by assumption) | refine Below.drew ?_ | refine below_drewN ?_ _ | refine Below.alloc ?_ ?_ _ | refine Below.setCell ?_ ?_ _ | omega | (dsimp only; omega) | (simp <;> omega) | (simp at * <;> omega)))) ((Rd.of_own hp3).below (by repeat (first | exact Below.refl _ _ | assumption | refine Below.next_ ?_ ?_ (by assumption) | refine Below.drew ?_ | refine below_drewN ?_ _ | refine Below.alloc ?_ ?_ _ | refine Below.setCell ?_ ?_ _ | omega | (dsimp only; omega) | (simp <;> omega) | (simp at * <;> omega)))) ((Rd.of_own hs3).below (by repeat (first | exact Below.refl _ _ | assumption | refine Below.next_ ?_ ?_ (by assumption) | refine Below.drew ?_ | refine below_drewN ?_ _ | refine Below.alloc ?_ ?_ _ | refine Below.setCell ?_ ?_ _ | omega | (dsimp only; omega) | (simp <;> omega) | (simp at * <;> omega)))) (by omega) (by omega) (by omega) (by omega)).mono ?_
  rintro e w6 ⟨rfl, hb_6⟩
  have hz_6 := hb_6.size; (try simp at hz_6)
  clear r0 r1 r2 r3 r4 r5 ba8
  replace bk8 := Blk.below bk8 (w' := w6) (by repeat (first | exact Below.refl _ _ | assumption | refine Below.next_ ?_ ?_ (by assumption) | refine Below.drew ?_ | refine below_drewN ?_ _ | refine Below.alloc ?_ ?_ _ | refine Below.setCell ?_ ?_ _ | omega | (dsimp only; omega) | (simp <;> omega) | (simp at * <;> omega)))
  have bk11 : Blk w6 w5.heap.size [.int .i64 (mdT x0 l1 x2), .slice P5 n5 c5, .slice S5 m5 d5] := Blk.below (Blk.new w5 #[.int .i64 (mdT x0 l1 x2), .slice P5 n5 c5, .slice S5 m5 d5] 27) hb_6
  go_wp2_with fail
  refine (toStringS_any (hr1.below (by repeat (first | exact Below.refl _ _ | assumption | refine Below.next_ ?_ ?_ (by assumption) | refine Below.drew ?_ | refine below_drewN ?_ _ | refine Below.alloc ?_ ?_ _ | refine Below.setCell ?_ ?_ _ | omega | (dsimp only; omega) | (simp <;> omega) | (simp at * <;> omega)))) (by omega)).mono ?_
  rintro e w7 ⟨B7, e7, rfl, ho7, hb_7⟩
  have hz_7 := hb_7.size; (try simp at hz_7)
  go_wp2_with fail
  refine (eqStringS_any ((Rd.of_own ho4).below (by repeat (first | exact Below.refl _ _ | assumption | refine Below.next_ ?_ ?_ (by assumption) | refine Below.drew ?_ | refine below_drewN ?_ _ | refine Below.alloc ?_ ?_ _ | refine Below.setCell ?_ ?_ _ | omega | (dsimp only; omega) | (simp <;> omega) | (simp at * <;> omega)))) ((Rd.of_own ho7).below (by repeat (first | exact Below.refl _ _ | assumption | refine Below.next_ ?_ ?_ (by assumption) | refine Below.drew ?_ | refine below_drewN ?_ _ | refine Below.alloc ?_ ?_ _ | refine Below.setCell ?_ ?_ _ | omega | (dsimp only; omega) | (simp <;> omega) | (simp at * <;> omega)))) (by omega) (by omega)).mono ?_
  rintro e _ ⟨rfl, q7, rfl⟩
  obtain ⟨w8, hw8⟩ : ∃ x, w7.drewN q7 = x := ⟨_, rfl⟩
  have hb_8 : Below w7.heap.size w7 w8 := by rw [← hw8]; exact below_drewN (Below.refl _ _) _
  have hz_8 := hb_8.size
  rw [hw8]
  clear hw8
  go_wp2_with fail
  refine (markStringS_any (own_below ho4 (by repeat (first | exact Below.refl _ _ | assumption | refine Below.next_ ?_ ?_ (by assumption) | refine Below.drew ?_ | refine below_drewN ?_ _ | refine Below.alloc ?_ ?_ _ | refine Below.setCell ?_ ?_ _ | omega | (dsimp only; omega) | (simp <;> omega) | (simp at * <;> omega)))) (by omega) (by omega) (by omega)).mono ?_
  rintro e w9 ⟨rfl, ho9, hg_9⟩
  have hz_9 := hg_9.size
  have hb_9 : Below w.heap.size w w9 := below_mark (w := w8) (by repeat (first | exact Below.refl _ _ | assumption | refine Below.next_ ?_ ?_ (by assumption) | refine Below.drew ?_ | refine below_drewN ?_ _ | refine Below.alloc ?_ ?_ _ | refine Below.setCell ?_ ?_ _ | omega | (dsimp only; omega) | (simp <;> omega) | (simp at * <;> omega))) (own_below ho4 (by repeat (first | exact Below.refl _ _ | assumption | refine Below.next_ ?_ ?_ (by assumption) | refine Below.drew ?_ | refine below_drewN ?_ _ | refine Below.alloc ?_ ?_ _ | refine Below.setCell ?_ ?_ _ | omega | (dsimp only; omega) | (simp <;> omega) | (simp at * <;> omega)))) (by first | omega | (simp <;> omega) | (simp at * <;> omega)) hg_9
  have hk9_P3 := kept_old (w := w8) (own_below hp3 (by repeat (first | exact Below.refl _ _ | assumption | refine Below.next_ ?_ ?_ (by assumption) | refine Below.drew ?_ | refine below_drewN ?_ _ | refine Below.alloc ?_ ?_ _ | refine Below.setCell ?_ ?_ _ | omega | (dsimp only; omega) | (simp <;> omega) | (simp at * <;> omega)))) hp3 (own_below ho4 (by repeat (first | exact Below.refl _ _ | assumption | refine Below.next_ ?_ ?_ (by assumption) | refine Below.drew ?_ | refine below_drewN ?_ _ | refine Below.alloc ?_ ?_ _ | refine Below.setCell ?_ ?_ _ | omega | (dsimp only; omega) | (simp <;> omega) | (simp at * <;> omega)))) (by first | omega | (simp <;> omega) | (simp at * <;> omega)) hg_9
  have hk9_S3 := kept_old (w := w8) (own_below hs3 (by repeat (first | exact Below.refl _ _ | assumption | refine Below.next_ ?_ ?_ (by assumption) | refine Below.drew ?_ | refine below_drewN ?_ _ | refine Below.alloc ?_ ?_ _ | refine Below.setCell ?_ ?_ _ | omega | (dsimp only; omega) | (simp <;> omega) | (simp at * <;> omega)))) hs3 (own_below ho4 (by repeat (first | exact Below.refl _ _ | assumption | refine Below.next_ ?_ ?_ (by assumption) | refine Below.drew ?_ | refine below_drewN ?_ _ | refine Below.alloc ?_ ?_ _ | refine Below.setCell ?_ ?_ _ | omega | (dsimp only; omega) | (simp <;> omega) | (simp at * <;> omega)))) (by first | omega | (simp <;> omega) | (simp at * <;> omega)) hg_9
  have hk9_P5 := kept_new (w := w8) (own_below hp5 (by repeat (first | exact Below.refl _ _ | assumption | refine Below.next_ ?_ ?_ (by assumption) | refine Below.drew ?_ | refine below_drewN ?_ _ | refine Below.alloc ?_ ?_ _ | refine Below.setCell ?_ ?_ _ | omega | (dsimp only; omega) | (simp <;> omega) | (simp at * <;> omega)))) ho4 (by first | omega | (simp <;> omega) | (simp at * <;> omega)) hg_9
  have hk9_S5 := kept_new (w := w8) (own_below hs5 (by repeat (first | exact Below.refl _ _ | assumption | refine Below.next_ ?_ ?_ (by assumption) | refine Below.drew ?_ | refine below_drewN ?_ _ | refine Below.alloc ?_ ?_ _ | refine Below.setCell ?_ ?_ _ | omega | (dsimp only; omega) | (simp <;> omega) | (simp at * <;> omega)))) ho4 (by first | omega | (simp <;> omega) | (simp at * <;> omega)) hg_9
  replace bk8 := bx_old (w := w8) (Blk.below bk8 (by repeat (first | exact Below.refl _ _ | assumption | refine Below.next_ ?_ ?_ (by assumption) | refine Below.drew ?_ | refine below_drewN ?_ _ | refine Below.alloc ?_ ?_ _ | refine Below.setCell ?_ ?_ _ | omega | (dsimp only; omega) | (simp <;> omega) | (simp at * <;> omega)))) (own_below ho4 (by repeat (first | exact Below.refl _ _ | assumption | refine Below.next_ ?_ ?_ (by assumption) | refine Below.drew ?_ | refine below_drewN ?_ _ | refine Below.alloc ?_ ?_ _ | refine Below.setCell ?_ ?_ _ | omega | (dsimp only; omega) | (simp <;> omega) | (simp at * <;> omega)))) (by first | omega | (simp <;> omega) | (simp at * <;> omega)) hg_9
  replace bk11 := bx_new (w := w8) (Blk.below bk11 (by repeat (first | exact Below.refl _ _ | assumption | refine Below.next_ ?_ ?_ (by assumption) | refine Below.drew ?_ | refine below_drewN ?_ _ | refine Below.alloc ?_ ?_ _ | refine Below.setCell ?_ ?_ _ | omega | (dsimp only; omega) | (simp <;> omega) | (simp at * <;> omega)))) ho4 (by first | omega | (simp <;> omega) | (simp at * <;> omega)) hg_9
  obtain ⟨⟨r0, r1, r2⟩, r3, r4, r5⟩ := bk8.three
  obtain ⟨⟨s0, s1, s2⟩, s3, s4, s5⟩ := bk11.three
  have hkk : ¬ (1 + (k1 : Int)) < 0 := by omega
  go_wp2_with fail
  refine (eqDocument_any ((Rd.of_own hk9_P5).below (by repeat (first | exact Below.refl _ _ | assumption | refine Below.next_ ?_ ?_ (by assumption) | refine Below.drew ?_ | refine below_drewN ?_ _ | refine Below.alloc ?_ ?_ _ | refine Below.setCell ?_ ?_ _ | omega | (dsimp only; omega) | (simp <;> omega) | (simp at * <;> omega)))) ((Rd.of_own hk9_S5).below (by repeat (first | exact Below.refl _ _ | assumption | refine Below.next_ ?_ ?_ (by assumption) | refine Below.drew ?_ | refine below_drewN ?_ _ | refine Below.alloc ?_ ?_ _ | refine Below.setCell ?_ ?_ _ | omega | (dsimp only; omega) | (simp <;> omega) | (simp at * <;> omega)))) ((Rd.of_own hk9_P3).below (by repeat (first | exact Below.refl _ _ | assumption | refine Below.next_ ?_ ?_ (by assumption) | refine Below.drew ?_ | refine below_drewN ?_ _ | refine Below.alloc ?_ ?_ _ | refine Below.setCell ?_ ?_ _ | omega | (dsimp only; omega) | (simp <;> omega) | (simp at * <;> omega)))) ((Rd.of_own hk9_S3).below (by repeat (first | exact Below.refl _ _ | assumption | refine Below.next_ ?_ ?_ (by assumption) | refine Below.drew ?_ | refine below_drewN ?_ _ | refine Below.alloc ?_ ?_ _ | refine Below.setCell ?_ ?_ _ | omega | (dsimp only; omega) | (simp <;> omega) | (simp at * <;> omega)))) (by omega) (by omega) (by omega) (by omega)).mono ?_
  rintro e w10 ⟨rfl, hb_10⟩
  have hz_10 := hb_10.size; (try simp at hz_10)
  clear r0 r1 r2 r3 r4 r5
  clear s0 s1 s2 s3 s4 s5
  replace bk8 := Blk.below bk8 (w' := w10) (by repeat (first | exact Below.refl _ _ | assumption | refine Below.next_ ?_ ?_ (by assumption) | refine Below.drew ?_ | refine below_drewN ?_ _ | refine Below.alloc ?_ ?_ _ | refine Below.setCell ?_ ?_ _ | omega | (dsimp only; omega) | (simp <;> omega) | (simp at * <;> omega)))
  replace bk11 := Blk.below bk11 (w' := w10) (by repeat (first | exact Below.refl _ _ | assumption | refine Below.next_ ?_ ?_ (by assumption) | refine Below.drew ?_ | refine below_drewN ?_ _ | refine Below.alloc ?_ ?_ _ | refine Below.setCell ?_ ?_ _ | omega | (dsimp only; omega) | (simp <;> omega) | (simp at * <;> omega)))
  obtain ⟨⟨r0, r1, r2⟩, r3, r4, r5⟩ := bk8.three
  obtain ⟨⟨s0, s1, s2⟩, s3, s4, s5⟩ := bk11.three
  go_wp2_with fail
  refine (markDocument_any (own_below hk9_P5 (by repeat (first | exact Below.refl _ _ | assumption | refine Below.next_ ?_ ?_ (by assumption) | refine Below.drew ?_ | refine below_drewN ?_ _ | refine Below.alloc ?_ ?_ _ | refine Below.setCell ?_ ?_ _ | omega | (dsimp only; omega) | (simp <;> omega) | (simp at * <;> omega)))) (own_below hk9_S5 (by repeat (first | exact Below.refl _ _ | assumption | refine Below.next_ ?_ ?_ (by assumption) | refine Below.drew ?_ | refine below_drewN ?_ _ | refine Below.alloc ?_ ?_ _ | refine Below.setCell ?_ ?_ _ | omega | (dsimp only; omega) | (simp <;> omega) | (simp at * <;> omega)))) hx5_ (by omega) (by omega) (by omega) (by omega)).mono ?_
  rintro e w11 ⟨rfl, wb, wm, hb_wb, hg_wm, hpm, hsm, hg_11, hp11, hs11⟩
  clear r0 r1 r2 r3 r4 r5
  clear s0 s1 s2 s3 s4 s5
  have hz_wb := hb_wb.size; have hz_wm := hg_wm.size; have hz_11 := hg_11.size
  have hb_wm : Below w.heap.size w wm := below_mark (w := wb) (by repeat (first | exact Below.refl _ _ | assumption | refine Below.next_ ?_ ?_ (by assumption) | refine Below.drew ?_ | refine below_drewN ?_ _ | refine Below.alloc ?_ ?_ _ | refine Below.setCell ?_ ?_ _ | omega | (dsimp only; omega) | (simp <;> omega) | (simp at * <;> omega))) (own_below hk9_P5 (by repeat (first | exact Below.refl _ _ | assumption | refine Below.next_ ?_ ?_ (by assumption) | refine Below.drew ?_ | refine below_drewN ?_ _ | refine Below.alloc ?_ ?_ _ | refine Below.setCell ?_ ?_ _ | omega | (dsimp only; omega) | (simp <;> omega) | (simp at * <;> omega)))) (by first | omega | (simp <;> omega) | (simp at * <;> omega)) hg_wm
  have hkwm_P3 := kept_old (w := wb) (own_below hk9_P3 (by repeat (first | exact Below.refl _ _ | assumption | refine Below.next_ ?_ ?_ (by assumption) | refine Below.drew ?_ | refine below_drewN ?_ _ | refine Below.alloc ?_ ?_ _ | refine Below.setCell ?_ ?_ _ | omega | (dsimp only; omega) | (simp <;> omega) | (simp at * <;> omega)))) hp3 (own_below hk9_P5 (by repeat (first | exact Below.refl _ _ | assumption | refine Below.next_ ?_ ?_ (by assumption) | refine Below.drew ?_ | refine below_drewN ?_ _ | refine Below.alloc ?_ ?_ _ | refine Below.setCell ?_ ?_ _ | omega | (dsimp only; omega) | (simp <;> omega) | (simp at * <;> omega)))) (by first | omega | (simp <;> omega) | (simp at * <;> omega)) hg_wm
  have hkwm_S3 := kept_old (w := wb) (own_below hk9_S3 (by repeat (first | exact Below.refl _ _ | assumption | refine Below.next_ ?_ ?_ (by assumption) | refine Below.drew ?_ | refine below_drewN ?_ _ | refine Below.alloc ?_ ?_ _ | refine Below.setCell ?_ ?_ _ | omega | (dsimp only; omega) | (simp <;> omega) | (simp at * <;> omega)))) hs3 (own_below hk9_P5 (by repeat (first | exact Below.refl _ _ | assumption | refine Below.next_ ?_ ?_ (by assumption) | refine Below.drew ?_ | refine below_drewN ?_ _ | refine Below.alloc ?_ ?_ _ | refine Below.setCell ?_ ?_ _ | omega | (dsimp only; omega) | (simp <;> omega) | (simp at * <;> omega)))) (by first | omega | (simp <;> omega) | (simp at * <;> omega)) hg_wm
  replace bk8 := bx_old (w := wb) (Blk.below bk8 (by repeat (first | exact Below.refl _ _ | assumption | refine Below.next_ ?_ ?_ (by assumption) | refine Below.drew ?_ | refine below_drewN ?_ _ | refine Below.alloc ?_ ?_ _ | refine Below.setCell ?_ ?_ _ | omega | (dsimp only; omega) | (simp <;> omega) | (simp at * <;> omega)))) (own_below hk9_P5 (by repeat (first | exact Below.refl _ _ | assumption | refine Below.next_ ?_ ?_ (by assumption) | refine Below.drew ?_ | refine below_drewN ?_ _ | refine Below.alloc ?_ ?_ _ | refine Below.setCell ?_ ?_ _ | omega | (dsimp only; omega) | (simp <;> omega) | (simp at * <;> omega)))) (by first | omega | (simp <;> omega) | (simp at * <;> omega)) hg_wm
  replace bk11 := bx_new (w := wb) (Blk.below bk11 (by repeat (first | exact Below.refl _ _ | assumption | refine Below.next_ ?_ ?_ (by assumption) | refine Below.drew ?_ | refine below_drewN ?_ _ | refine Below.alloc ?_ ?_ _ | refine Below.setCell ?_ ?_ _ | omega | (dsimp only; omega) | (simp <;> omega) | (simp at * <;> omega)))) hp5 (by first | omega | (simp <;> omega) | (simp at * <;> omega)) hg_wm
  have hb_11 : Below w.heap.size w w11 := below_mark (w := wm) (by repeat (first | exact Below.refl _ _ | assumption | refine Below.next_ ?_ ?_ (by assumption) | refine Below.drew ?_ | refine below_drewN ?_ _ | refine Below.alloc ?_ ?_ _ | refine Below.setCell ?_ ?_ _ | omega | (dsimp only; omega) | (simp <;> omega) | (simp at * <;> omega))) hsm (by first | omega | (simp <;> omega) | (simp at * <;> omega)) hg_11
  have hk11_P3 := kept_old (w := wm) (own_below hkwm_P3 (by repeat (first | exact Below.refl _ _ | assumption | refine Below.next_ ?_ ?_ (by assumption) | refine Below.drew ?_ | refine below_drewN ?_ _ | refine Below.alloc ?_ ?_ _ | refine Below.setCell ?_ ?_ _ | omega | (dsimp only; omega) | (simp <;> omega) | (simp at * <;> omega)))) hp3 (own_below hsm (by repeat (first | exact Below.refl _ _ | assumption | refine Below.next_ ?_ ?_ (by assumption) | refine Below.drew ?_ | refine below_drewN ?_ _ | refine Below.alloc ?_ ?_ _ | refine Below.setCell ?_ ?_ _ | omega | (dsimp only; omega) | (simp <;> omega) | (simp at * <;> omega)))) (by first | omega | (simp <;> omega) | (simp at * <;> omega)) hg_11
  have hk11_S3 := kept_old (w := wm) (own_below hkwm_S3 (by repeat (first | exact Below.refl _ _ | assumption | refine Below.next_ ?_ ?_ (by assumption) | refine Below.drew ?_ | refine below_drewN ?_ _ | refine Below.alloc ?_ ?_ _ | refine Below.setCell ?_ ?_ _ | omega | (dsimp only; omega) | (simp <;> omega) | (simp at * <;> omega)))) hs3 (own_below hsm (by repeat (first | exact Below.refl _ _ | assumption | refine Below.next_ ?_ ?_ (by assumption) | refine Below.drew ?_ | refine below_drewN ?_ _ | refine Below.alloc ?_ ?_ _ | refine Below.setCell ?_ ?_ _ | omega | (dsimp only; omega) | (simp <;> omega) | (simp at * <;> omega)))) (by first | omega | (simp <;> omega) | (simp at * <;> omega)) hg_11
  replace bk8 := bx_old (w := wm) (Blk.below bk8 (by repeat (first | exact Below.refl _ _ | assumption | refine Below.next_ ?_ ?_ (by assumption) | refine Below.drew ?_ | refine below_drewN ?_ _ | refine Below.alloc ?_ ?_ _ | refine Below.setCell ?_ ?_ _ | omega | (dsimp only; omega) | (simp <;> omega) | (simp at * <;> omega)))) (own_below hsm (by repeat (first | exact Below.refl _ _ | assumption | refine Below.next_ ?_ ?_ (by assumption) | refine Below.drew ?_ | refine below_drewN ?_ _ | refine Below.alloc ?_ ?_ _ | refine Below.setCell ?_ ?_ _ | omega | (dsimp only; omega) | (simp <;> omega) | (simp at * <;> omega)))) (by first | omega | (simp <;> omega) | (simp at * <;> omega)) hg_11
  replace bk11 := bx_new (w := wm) (Blk.below bk11 (by repeat (first | exact Below.refl _ _ | assumption | refine Below.next_ ?_ ?_ (by assumption) | refine Below.drew ?_ | refine below_drewN ?_ _ | refine Below.alloc ?_ ?_ _ | refine Below.setCell ?_ ?_ _ | omega | (dsimp only; omega) | (simp <;> omega) | (simp at * <;> omega)))) hs5 (by first | omega | (simp <;> omega) | (simp at * <;> omega)) hg_11
  have hk3 : ¬ (1 + (n5 : Int) + (m5 : Int)) < 0 := by omega
  obtain ⟨⟨r0, r1, r2⟩, r3, r4, r5⟩ := bk8.three
  obtain ⟨⟨s0, s1, s2⟩, s3, s4, s5⟩ := bk11.three
  go_wp2_with fail
  refine (heldDocument_any ((Rd.of_own hp11).below (by repeat (first | exact Below.refl _ _ | assumption | refine Below.next_ ?_ ?_ (by assumption) | refine Below.drew ?_ | refine below_drewN ?_ _ | refine Below.alloc ?_ ?_ _ | refine Below.setCell ?_ ?_ _ | omega | (dsimp only; omega) | (simp <;> omega) | (simp at * <;> omega)))) ((Rd.of_own hs11).below (by repeat (first | exact Below.refl _ _ | assumption | refine Below.next_ ?_ ?_ (by assumption) | refine Below.drew ?_ | refine below_drewN ?_ _ | refine Below.alloc ?_ ?_ _ | refine Below.setCell ?_ ?_ _ | omega | (dsimp only; omega) | (simp <;> omega) | (simp at * <;> omega)))) (by omega) (by omega) (by omega) (by omega)).mono ?_
  rintro e w12 ⟨rfl, hb_12⟩
  have hz_12 := hb_12.size; (try simp at hz_12)
  clear r0 r1 r2 r3 r4 r5
  clear s0 s1 s2 s3 s4 s5
  replace bk8 := Blk.below bk8 (w' := w12) (by repeat (first | exact Below.refl _ _ | assumption | refine Below.next_ ?_ ?_ (by assumption) | refine Below.drew ?_ | refine below_drewN ?_ _ | refine Below.alloc ?_ ?_ _ | refine Below.setCell ?_ ?_ _ | omega | (dsimp only; omega) | (simp <;> omega) | (simp at * <;> omega)))
  replace bk11 := Blk.below bk11 (w' := w12) (by repeat (first | exact Below.refl _ _ | assumption | refine Below.next_ ?_ ?_ (by assumption) | refine Below.drew ?_ | refine below_drewN ?_ _ | refine Below.alloc ?_ ?_ _ | refine Below.setCell ?_ ?_ _ | omega | (dsimp only; omega) | (simp <;> omega) | (simp at * <;> omega)))
  go_wp2_with fail
  refine (toStringS_any (hr1.below (by repeat (first | exact Below.refl _ _ | assumption | refine Below.next_ ?_ ?_ (by assumption) | refine Below.drew ?_ | refine below_drewN ?_ _ | refine Below.alloc ?_ ?_ _ | refine Below.setCell ?_ ?_ _ | omega | (dsimp only; omega) | (simp <;> omega) | (simp at * <;> omega)))) (by omega)).mono ?_
  rintro e w13 ⟨B13, e13, rfl, ho13, hb_13⟩
  have hz_13 := hb_13.size; (try simp at hz_13)
  go_wp2_with fail
  refine (implMakeDocument_any ((Rd.of_own ho13).below (by repeat (first | exact Below.refl _ _ | assumption | refine Below.next_ ?_ ?_ (by assumption) | refine Below.drew ?_ | refine below_drewN ?_ _ | refine Below.alloc ?_ ?_ _ | refine Below.setCell ?_ ?_ _ | omega | (dsimp only; omega) | (simp <;> omega) | (simp at * <;> omega)))) (by omega) hx0 hx2 hpz2).mono ?_
  rintro e w14 ⟨P14, S14, n14, m14, c14, d14, rfl, hp14, hs14, hx14_, hb_14⟩
  have hz_14 := hb_14.size; (try simp at hz_14)
  have hN14 : n14 ≤ 1048576 ∧ m14 ≤ 1048576 := by have h1 := (Rd.of_own hp14).maplen; have h2 := (Rd.of_own hs14).maplen; have := HLN.out; omega
  obtain ⟨hN14, hM14⟩ := hN14
  replace bk8 := Blk.below bk8 (w' := w14) (by repeat (first | exact Below.refl _ _ | assumption | refine Below.next_ ?_ ?_ (by assumption) | refine Below.drew ?_ | refine below_drewN ?_ _ | refine Below.alloc ?_ ?_ _ | refine Below.setCell ?_ ?_ _ | omega | (dsimp only; omega) | (simp <;> omega) | (simp at * <;> omega)))
  replace bk11 := Blk.below bk11 (w' := w14) (by repeat (first | exact Below.refl _ _ | assumption | refine Below.next_ ?_ ?_ (by assumption) | refine Below.drew ?_ | refine below_drewN ?_ _ | refine Below.alloc ?_ ?_ _ | refine Below.setCell ?_ ?_ _ | omega | (dsimp only; omega) | (simp <;> omega) | (simp at * <;> omega)))
  have ba8 : Blk (w14.alloc (.cells #[.int .i64 (mdT x0 l1 x2), .slice P14 n14 c14, .slice S14 m14 d14] 27)) w3.heap.size [.int .i64 (mdT x0 l1 x2), .slice P3 n3 c3, .slice S3 m3 d3] := bk8.alloc _
  obtain ⟨⟨r0, r1, r2⟩, r3, r4, r5⟩ := ba8.three
  go_wp2_with fail
  refine (eqDocument_any ((Rd.of_own hp14).below (by repeat (first | exact Below.refl _ _ | assumption | refine Below.next_ ?_ ?_ (by assumption) | refine Below.drew ?_ | refine below_drewN ?_ _ | refine Below.alloc ?_ ?_ _ | refine Below.setCell ?_ ?_ _ | omega | (dsimp only; omega) | (simp <;> omega) | (simp at * <;> omega)))) ((Rd.of_own hs14).below (by repeat (first | exact Below.refl _ _ | assumption | refine Below.next_ ?_ ?_ (by assumption) | refine Below.drew ?_ | refine below_drewN ?_ _ | refine Below.alloc ?_ ?_ _ | refine Below.setCell ?_ ?_ _ | omega | (dsimp only; omega) | (simp <;> omega) | (simp at * <;> omega)))) ((Rd.of_own hk11_P3).below (by repeat (first | exact Below.refl _ _ | assumption | refine Below.next_ ?_ ?_ (by assumption) | refine Below.drew ?_ | refine below_drewN ?_ _ | refine Below.alloc ?_ ?_ _ | refine Below.setCell ?_ ?_ _ | omega | (dsimp only; omega) | (simp <;> omega) | (simp at * <;> omega)))) ((Rd.of_own hk11_S3).below (by repeat (first | exact Below.refl _ _ | assumption | refine Below.next_ ?_ ?_ (by assumption) | refine Below.drew ?_ | refine below_drewN ?_ _ | refine Below.alloc ?_ ?_ _ | refine Below.setCell ?_ ?_ _ | omega | (dsimp only; omega) | (simp <;> omega) | (simp at * <;> omega)))) (by omega) (by omega) (by omega) (by omega)).mono ?_
  rintro e w15 ⟨rfl, hb_15⟩
  have hz_15 := hb_15.size; (try simp at hz_15)
  clear r0 r1 r2 r3 r4 r5 ba8
  replace bk8 := Blk.below bk8 (w' := w15) (by repeat (first | exact Below.refl _ _ | assumption | refine Below.next_ ?_ ?_ (by assumption) | refine Below.drew ?_ | refine below_drewN ?_ _ | refine Below.alloc ?_ ?_ _ | refine Below.setCell ?_ ?_ _ | omega | (dsimp only; omega) | (simp <;> omega) | (simp at * <;> omega)))
  replace bk11 := Blk.below bk11 (w' := w15) (by repeat (first | exact Below.refl _ _ | assumption | refine Below.next_ ?_ ?_ (by assumption) | refine Below.drew ?_ | refine below_drewN ?_ _ | refine Below.alloc ?_ ?_ _ | refine Below.setCell ?_ ?_ _ | omega | (dsimp only; omega) | (simp <;> omega) | (simp at * <;> omega)))
  obtain ⟨⟨r0, r1, r2⟩, r3, r4, r5⟩ := bk8.three
  obtain ⟨⟨s0, s1, s2⟩, s3, s4, s5⟩ := bk11.three
  go_wp2_with fail
  refine (heldDocument_any ((Rd.of_own hp11).below (by repeat (first | exact Below.refl _ _ | assumption | refine Below.next_ ?_ ?_ (by assumption) | refine Below.drew ?_ | refine below_drewN ?_ _ | refine Below.alloc ?_ ?_ _ | refine Below.setCell ?_ ?_ _ | omega | (dsimp only; omega) | (simp <;> omega) | (simp at * <;> omega)))) ((Rd.of_own hs11).below (by repeat (first | exact Below.refl _ _ | assumption | refine Below.next_ ?_ ?_ (by assumption) | refine Below.drew ?_ | refine below_drewN ?_ _ | refine Below.alloc ?_ ?_ _ | refine Below.setCell ?_ ?_ _ | omega | (dsimp only; omega) | (simp <;> omega) | (simp at * <;> omega)))) (by omega) (by omega) (by omega) (by omega)).mono ?_
  rintro e w16 ⟨rfl, hb_16⟩
  have hz_16 := hb_16.size; (try simp at hz_16)
  clear r0 r1 r2 r3 r4 r5
  clear s0 s1 s2 s3 s4 s5
  replace bk8 := Blk.below bk8 (w' := w16) (by repeat (first | exact Below.refl _ _ | assumption | refine Below.next_ ?_ ?_ (by assumption) | refine Below.drew ?_ | refine below_drewN ?_ _ | refine Below.alloc ?_ ?_ _ | refine Below.setCell ?_ ?_ _ | omega | (dsimp only; omega) | (simp <;> omega) | (simp at * <;> omega)))
  replace bk11 := Blk.below bk11 (w' := w16) (by repeat (first | exact Below.refl _ _ | assumption | refine Below.next_ ?_ ?_ (by assumption) | refine Below.drew ?_ | refine below_drewN ?_ _ | refine Below.alloc ?_ ?_ _ | refine Below.setCell ?_ ?_ _ | omega | (dsimp only; omega) | (simp <;> omega) | (simp at * <;> omega)))
  go_wp2_with fail
  go_ret
  exact ⟨rfl, by repeat (first | exact Below.refl _ _ | assumption | refine Below.next_ ?_ ?_ (by assumption) | refine Below.drew ?_ | refine below_drewN ?_ _ | refine Below.alloc ?_ ?_ _ | refine Below.setCell ?_ ?_ _ | omega | (dsimp only; omega) | (simp <;> omega) | (simp at * <;> omega))⟩
theorem lifted (os : Os) (started : os.Started) (H : Type) (enc : TypeId × Value → H) :
    ReturnsInHanded {} Try.checked os 9 .any (Rows.fnExactMakeDocumentSpec.pre6 enc Try.prog Try.f9 Rows.fnExactMakeDocumentRow.domain false) (Rows.fnExactMakeDocumentSpec.post enc Try.prog Try.f9 false true false false) := by
  refine returnsInHanded_of_change (C := Try.checked) own started (by kernel_rfl) Try.func9
    (ChangeSpec.witness6 (enc := enc) (C := Try.checked) false ⟨#[], #[.int .i64 0, .slice none 0 0, .int .i64 0], []⟩ 8 (by kernel_rfl) (by kernel_rfl) (by kernel_rfl) (by kernel_rfl)) ?_
  intro W base args ds gs before hval0 hW _ _
  have hval : ∀ (j : Nat) t v, Try.f9.params[j]? = some t → args[j]? = some v → Value.okWide Try.prog W .any base t v := hval0
  have hW' := hW
  obtain ⟨p, q, hA0, hV, rfl, _, _⟩ := hW
  have hA : DataW.TrodAll enc Try.prog W 0 (fun _ => true) true Try.f9.params.toList args.toList ds p := hA0
  have hlt : ∀ x ∈ p, x.block < W.heap.size := fun x hx => hW'.lt x (by simp [hx])
  have hkeep : ∀ W' : World, Below W.heap.size W W' → ∀ sp : Nat → Bool, (∀ x ∈ p ++ q, sp x.block = true) → DataW.TrodAll enc Try.prog W' 0 sp true Try.f9.params.toList args.toList ds p :=
    fun W' hb sp hsp => trodAll_stays laid hb _ _ _ _ (by kernel_rfl) hlt (fun x hx => hsp x (by simp [hx])) hA
  rw [Try.params9] at hA hval
  obtain ⟨v0, vs0, d0, ds0, p0, q0, hargs, rfl, rfl, h0, r0⟩ := trodAll_cons hA
  obtain ⟨v1, vs1, d1, ds1, p1, q1, rfl, rfl, rfl, h1, r1⟩ := trodAll_cons r0
  obtain ⟨v2, vs2, d2, ds2, p2, q2, rfl, rfl, rfl, h2, r2⟩ := trodAll_cons r1
  obtain ⟨rfl, rfl, rfl⟩ := trodAll_nil r2
  obtain rfl : args = #[v0, v1, v2] := by cases args; simp_all
  obtain ⟨rfl, rfl⟩ := trodVars_none hV
  have i0 : InInt W v0 := InInt.of (hval 0 3 v0 rfl rfl) h0
  have i1 : InStrings W v1 := InStrings.of (hval 1 25 v1 rfl rfl) h1
  have i2 : InInt W v2 := InInt.of (hval 2 3 v2 rfl rfl) h2
  refine (law_any i0 i1 i2 W rfl).mono fun e W' ⟨he, hb⟩ => ?_
  subst he
  exact ⟨_, rfl, post_of_below (pv := []) hW' (fun _ _ _ => (trodAll_cons_mk (shut_bool Try.underlying4 _) trodAll_mk0)) (hkeep W' hb) (fun _ _ => rfl) rfl
    hb (ok_one (by kernel_rfl) rfl (okWide_bool_mk Try.underlying4 _))⟩

theorem over : Rows.fnExactMakeDocumentRow.holds Try.pinned (OpenSpec.ofChange Rows.fnExactMakeDocumentSpec) :=
  OpenClaim.holds_of_wide 9 Try.f9 rfl rfl rfl rfl rfl rfl rfl ⟨rfl, rfl, rfl, rfl, rfl⟩ rfl rfl rfl rfl rfl (by kernel_rfl) Try.func9 (by kernel_rfl)
    (of_decide_eq_true (by kernel_rfl)) (by unfold Func.isWrapper; first | (rw [if_pos (by decide +kernel)]; kernel_rfl) | (rw [if_neg (by decide +kernel)]; exact ⟨rfl, rfl⟩))
    (fun os started H enc _ => lifted os started H enc)

theorem proved : Rows.FnExactMakeDocumentSaid :=
  over
#print axioms proved
end Go.Proofs.Ytgeffaohdoeclaa.lawFnExactMakeDocument
