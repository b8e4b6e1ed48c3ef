/- Contracts of the laws' own helpers on methods and slices of methods. For slices of at most 2^40 elements. -/
import Derived.Test.YtmlkhgekacjidacMeF
import Derived.Deep.RegionHeld3
namespace Go.Proofs.Ytmlkhgekacjidac
open Go.RowKit Go.WideShapes Go.ChangeShapes Go.Deep
set_option linter.unusedSimpArgs false
set_option linter.unusedVariables false
abbrev mtV (m : Mt) : Value := .agg #[.int .i64 m.a, .int .i64 m.b, .int .i64 m.c, .int .i64 m.d]
theorem Mt.eq_iff {x y : Mt} : x = y ↔ x.a = y.a ∧ x.b = y.b ∧ x.c = y.c ∧ x.d = y.d := by cases x; cases y; simp
set_option maxHeartbeats 1600000 in
theorem eqMethod_any (x y : Mt) (w : World) :
    Calls Try.prog 58 #[mtV x, mtV y] w fun e w' => e = .returned (.bool (decide (x = y))) ∧ Below w.heap.size w w' := by
  by_cases h0 : x.a = y.a
  · have b0 : (x.a == y.a) = true := by simpa using h0
    by_cases h1 : x.b = y.b
    · have b1 : (x.b == y.b) = true := by simpa using h1
      by_cases h2 : x.c = y.c
      · have b2 : (x.c == y.c) = true := by simpa using h2
        by_cases h3 : x.d = y.d
        · have b3 : (x.d == y.d) = true := by simpa using h3
          have hfin := hide (show decide (x = y) = true by simp [Mt.eq_iff, *])
          go_enter Try.func58, Try.ntmps58
          go_wp2
          go_ret
          exact ⟨ret_b hfin.out.symm, by repeat (first | exact Below.refl _ _ | assumption | refine Below.next_ ?_ ?_ (by assumption) | refine Below.drew ?_ | refine below_drewN ?_ _ | refine Below.alloc ?_ ?_ _ | refine Below.setCell ?_ ?_ _ | omega | (simp <;> omega) | (simp at * <;> omega))⟩
        · have b3 : (x.d == y.d) = false := by simpa using h3
          have hfin := hide (show decide (x = y) = false by simp [Mt.eq_iff, *])
          clear h3
          go_enter Try.func58, Try.ntmps58
          go_wp2
          go_ret
          exact ⟨ret_b hfin.out.symm, by repeat (first | exact Below.refl _ _ | assumption | refine Below.next_ ?_ ?_ (by assumption) | refine Below.drew ?_ | refine below_drewN ?_ _ | refine Below.alloc ?_ ?_ _ | refine Below.setCell ?_ ?_ _ | omega | (simp <;> omega) | (simp at * <;> omega))⟩
      · have b2 : (x.c == y.c) = false := by simpa using h2
        have hfin := hide (show decide (x = y) = false by simp [Mt.eq_iff, *])
        clear h2
        go_enter Try.func58, Try.ntmps58
        go_wp2
        go_ret
        exact ⟨ret_b hfin.out.symm, by repeat (first | exact Below.refl _ _ | assumption | refine Below.next_ ?_ ?_ (by assumption) | refine Below.drew ?_ | refine below_drewN ?_ _ | refine Below.alloc ?_ ?_ _ | refine Below.setCell ?_ ?_ _ | omega | (simp <;> omega) | (simp at * <;> omega))⟩
    · have b1 : (x.b == y.b) = false := by simpa using h1
      have hfin := hide (show decide (x = y) = false by simp [Mt.eq_iff, *])
      clear h1
      go_enter Try.func58, Try.ntmps58
      go_wp2
      go_ret
      exact ⟨ret_b hfin.out.symm, by repeat (first | exact Below.refl _ _ | assumption | refine Below.next_ ?_ ?_ (by assumption) | refine Below.drew ?_ | refine below_drewN ?_ _ | refine Below.alloc ?_ ?_ _ | refine Below.setCell ?_ ?_ _ | omega | (simp <;> omega) | (simp at * <;> omega))⟩
  · have b0 : (x.a == y.a) = false := by simpa using h0
    have hfin := hide (show decide (x = y) = false by simp [Mt.eq_iff, *])
    clear h0
    go_enter Try.func58, Try.ntmps58
    go_wp2
    go_ret
    exact ⟨ret_b hfin.out.symm, by repeat (first | exact Below.refl _ _ | assumption | refine Below.next_ ?_ ?_ (by assumption) | refine Below.drew ?_ | refine below_drewN ?_ _ | refine Below.alloc ?_ ?_ _ | refine Below.setCell ?_ ?_ _ | omega | (simp <;> omega) | (simp at * <;> omega))⟩
theorem szMethodS_any {A : Option Addr} {n c : Nat} {left : Int} (w : World) (hl0 : 0 ≤ left) (hl1 : left ≤ 1048576) (hn : n ≤ 9223372036854775807) :
    Calls Try.prog 30 #[.slice A n c, .int .i64 left] w fun e w' => e = .returned (.int .i64 (if left - n < 0 then -1 else left - n)) ∧ w = w' := by
  have hw : wrap64 (left - n) = left - n := by simp only [wrap64]; omega
  by_cases h : left - n < 0
  · have hfin := hide (show (if left - n < 0 then (-1 : Int) else left - n) = -1 from if_pos h)
    go_enter Try.func30, Try.ntmps30
    go_wp2
    go_ret
    exact ⟨rfl, rfl⟩
  · have hfin := hide (show (if left - n < 0 then (-1 : Int) else left - n) = left - n from if_neg h)
    go_enter Try.func30, Try.ntmps30
    go_wp2
    go_ret
    exact ⟨rfl, rfl⟩
theorem szMethodS_ok {A : Option Addr} {n c : Nat} {left : Int} (w : World) (hl0 : 0 ≤ left) (hl1 : left ≤ 1048576) (hn : (n : Int) ≤ left) :
    Calls Try.prog 30 #[.slice A n c, .int .i64 left] w fun e w' => e = .returned (.int .i64 (left - n)) ∧ w = w' := by
  have h := szMethodS_any (A := A) (c := c) w hl0 hl1 (by omega : n ≤ 9223372036854775807)
  rw [if_neg (by omega)] at h
  exact h
theorem szMethodS_no {A : Option Addr} {n c : Nat} {left : Int} (w : World) (hl0 : 0 ≤ left) (hl1 : left ≤ 1048576) (hn : n ≤ 9223372036854775807) (hg : left < (n : Int)) :
    Calls Try.prog 30 #[.slice A n c, .int .i64 left] w fun e w' => e = .returned (.int .i64 (-1)) ∧ w = w' := by
  have h := szMethodS_any (A := A) (c := c) w hl0 hl1 hn
  rw [if_pos (by omega)] at h
  exact h
set_option maxHeartbeats 1600000 in
theorem eqMethodS_any {A B : Option Addr} {n m c d : Nat} {l1 l2 : List Mt} {w : World} (h1 : Rd w 4 A n (mts l1)) (h2 : Rd w 4 B m (mts l2)) (hn : n ≤ 1099511627776) (hm : m ≤ 1099511627776) :
    Calls Try.prog 34 #[.slice A n c, .slice B m d] w fun e w' => e = .returned (.bool (decide (l1 = l2))) ∧ Below w.heap.size w w' := by
  have e1 : l1.length = n := h1.mtlen
  have e2 : l2.length = m := h2.mtlen
  by_cases hnm : n = m
  · subst hnm
    have E1 := hide e1
    have E2 := hide e2
    clear e1 e2
    go_enter Try.func34, Try.ntmps34
    go_wp2
    go_loopw [5] (fun i wr => ∃ k : Nat, k ≤ n ∧ i = .int .i64 k ∧ Hid (l1.take k = l2.take k) ∧ Below w.heap.size w wr) (fun i _ => n - (intOf i).toNat)
    case atStart => exact ⟨0, Nat.zero_le _, rfl, rfl, Below.refl _ _⟩
    case round =>
      obtain ⟨k, hk, rfl, ht, hb⟩ := hrel
      by_cases hlt : k < n
      · obtain ⟨ad, x, rfl, hx, hc0, hc1, hc2, hc3⟩ := Rd.mt (h1.below hb) hlt
        obtain ⟨bd, y, rfl, hy, hd0, hd1, hd2, hd3⟩ := Rd.mt (h2.below hb) hlt
        have hk0 : (0 : Int) ≤ (k : Int) := by omega
        have hkn : (k : Int) < (n : Int) := by omega
        have hA := cell_lt hc0
        have hB := cell_lt hd0
        have HX := hide hx
        have HY := hide hy
        clear hx hy
        have hz := hb.size
        by_cases hxy : x = y
        · have hq : decide (x = y) = true := by simpa using hxy
          have hst := hide (take_step HX.out (hxy ▸ HY.out) ht)
          clear hxy
          go_wp2
          go_region_held3 (fun w' => w'.cell? ((ad.add (k * 4))) = some (.int .i64 x.a) ∧ w'.cell? (⟨(ad.add (k * 4)).block, (ad.add (k * 4)).off + 1, none⟩) = some (.int .i64 x.b) ∧ w'.cell? (⟨(ad.add (k * 4)).block, (ad.add (k * 4)).off + 2, none⟩) = some (.int .i64 x.c) ∧ w'.cell? (⟨(ad.add (k * 4)).block, (ad.add (k * 4)).off + 3, none⟩) = some (.int .i64 x.d) ∧ w'.cell? ((bd.add (k * 4))) = some (.int .i64 y.a) ∧ w'.cell? (⟨(bd.add (k * 4)).block, (bd.add (k * 4)).off + 1, none⟩) = some (.int .i64 y.b) ∧ w'.cell? (⟨(bd.add (k * 4)).block, (bd.add (k * 4)).off + 2, none⟩) = some (.int .i64 y.c) ∧ w'.cell? (⟨(bd.add (k * 4)).block, (bd.add (k * 4)).off + 3, none⟩) = some (.int .i64 y.d)) (((try dsimp only); (repeat' apply And.intro); all_goals (first | assumption | (go_keep; done) | (simp [*]; done) | (exact (hb_w1.cell (by first | omega | (simp <;> omega) | (simp at * <;> omega))).trans (by first | assumption | exact (World.cell?_alloc_lt _ _ _ (by first | omega | (simp <;> omega) | (simp at * <;> omega))).trans (by assumption))))))
            (first | (go_at_call 58; refine (eqMethod_any x y _).mono ?_; rintro e w1 ⟨rfl, hb_w1⟩; have hs_w1 := hb_w1.size; obtain ⟨hc_w1, hf_w1⟩ := bcell hb_w1; (try simp only [World.size_drew, World.heap_drewN] at hc_w1 hf_w1); (try simp at hs_w1); (try have z_ : wr.heap.size ≤ w1.heap.size := (by omega)); (try (have z_ : wr.heap.size < w1.heap.size := (by omega); have y_ : ¬ wr.heap.size = w1.heap.size := (by omega); have x_ : ¬ w1.heap.size = wr.heap.size := (by omega))); (try (have z_ : wr.heap.size + 1 < w1.heap.size := (by omega); have y_ : ¬ wr.heap.size + 1 = w1.heap.size := (by omega); have x_ : ¬ w1.heap.size = wr.heap.size + 1 := (by omega))); (try (have z_ : wr.heap.size + 1 + 1 < w1.heap.size := (by omega); have y_ : ¬ wr.heap.size + 1 + 1 = w1.heap.size := (by omega); have x_ : ¬ w1.heap.size = wr.heap.size + 1 + 1 := (by omega))); (try (have z_ : wr.heap.size + 1 + 1 + 1 < w1.heap.size := (by omega); have y_ : ¬ wr.heap.size + 1 + 1 + 1 = w1.heap.size := (by omega); have x_ : ¬ w1.heap.size = wr.heap.size + 1 + 1 + 1 := (by omega))); (try (have z_ : wr.heap.size + 1 + 1 + 1 + 1 < w1.heap.size := (by omega); have y_ : ¬ wr.heap.size + 1 + 1 + 1 + 1 = w1.heap.size := (by omega); have x_ : ¬ w1.heap.size = wr.heap.size + 1 + 1 + 1 + 1 := (by omega))); (refine lay (p := w1.cell? (ad.add (k * 4)) = some (.int .i64 x.a)) ?_ ?_; (focus (refine (hb_w1.cell ?_).trans ?_; (focus (first | omega | (simp <;> omega) | (simp at * <;> omega))); (first | assumption | (simp only [World.cell?_drew, World.cell?_drewN]; assumption) | (simp; done) | (refine (World.cell?_alloc_lt _ _ _ ?_).trans ?_; (focus (first | omega | (simp <;> omega) | (simp at * <;> omega))); first | assumption | (simp only [World.cell?_drew, World.cell?_drewN]; assumption)) | (refine (World.cell?_alloc_lt _ _ _ ?_).trans ((World.cell?_alloc_lt _ _ _ ?_).trans ?_); (focus (first | omega | (simp <;> omega) | (simp at * <;> omega))); (focus (first | omega | (simp <;> omega) | (simp at * <;> omega))); first | assumption | (simp only [World.cell?_drew, World.cell?_drewN]; assumption))))); intro c_); (refine lay (p := w1.cell? ⟨(ad.add (k * 4)).block, (ad.add (k * 4)).off + 1, none⟩ = some (.int .i64 x.b)) ?_ ?_; (focus (refine (hb_w1.cell ?_).trans ?_; (focus (first | omega | (simp <;> omega) | (simp at * <;> omega))); (first | assumption | (simp only [World.cell?_drew, World.cell?_drewN]; assumption) | (simp; done) | (refine (World.cell?_alloc_lt _ _ _ ?_).trans ?_; (focus (first | omega | (simp <;> omega) | (simp at * <;> omega))); first | assumption | (simp only [World.cell?_drew, World.cell?_drewN]; assumption)) | (refine (World.cell?_alloc_lt _ _ _ ?_).trans ((World.cell?_alloc_lt _ _ _ ?_).trans ?_); (focus (first | omega | (simp <;> omega) | (simp at * <;> omega))); (focus (first | omega | (simp <;> omega) | (simp at * <;> omega))); first | assumption | (simp only [World.cell?_drew, World.cell?_drewN]; assumption))))); intro c_); (refine lay (p := w1.cell? ⟨(ad.add (k * 4)).block, (ad.add (k * 4)).off + 2, none⟩ = some (.int .i64 x.c)) ?_ ?_; (focus (refine (hb_w1.cell ?_).trans ?_; (focus (first | omega | (simp <;> omega) | (simp at * <;> omega))); (first | assumption | (simp only [World.cell?_drew, World.cell?_drewN]; assumption) | (simp; done) | (refine (World.cell?_alloc_lt _ _ _ ?_).trans ?_; (focus (first | omega | (simp <;> omega) | (simp at * <;> omega))); first | assumption | (simp only [World.cell?_drew, World.cell?_drewN]; assumption)) | (refine (World.cell?_alloc_lt _ _ _ ?_).trans ((World.cell?_alloc_lt _ _ _ ?_).trans ?_); (focus (first | omega | (simp <;> omega) | (simp at * <;> omega))); (focus (first | omega | (simp <;> omega) | (simp at * <;> omega))); first | assumption | (simp only [World.cell?_drew, World.cell?_drewN]; assumption))))); intro c_); (refine lay (p := w1.cell? ⟨(ad.add (k * 4)).block, (ad.add (k * 4)).off + 3, none⟩ = some (.int .i64 x.d)) ?_ ?_; (focus (refine (hb_w1.cell ?_).trans ?_; (focus (first | omega | (simp <;> omega) | (simp at * <;> omega))); (first | assumption | (simp only [World.cell?_drew, World.cell?_drewN]; assumption) | (simp; done) | (refine (World.cell?_alloc_lt _ _ _ ?_).trans ?_; (focus (first | omega | (simp <;> omega) | (simp at * <;> omega))); first | assumption | (simp only [World.cell?_drew, World.cell?_drewN]; assumption)) | (refine (World.cell?_alloc_lt _ _ _ ?_).trans ((World.cell?_alloc_lt _ _ _ ?_).trans ?_); (focus (first | omega | (simp <;> omega) | (simp at * <;> omega))); (focus (first | omega | (simp <;> omega) | (simp at * <;> omega))); first | assumption | (simp only [World.cell?_drew, World.cell?_drewN]; assumption))))); intro c_); (refine lay (p := w1.cell? (bd.add (k * 4)) = some (.int .i64 y.a)) ?_ ?_; (focus (refine (hb_w1.cell ?_).trans ?_; (focus (first | omega | (simp <;> omega) | (simp at * <;> omega))); (first | assumption | (simp only [World.cell?_drew, World.cell?_drewN]; assumption) | (simp; done) | (refine (World.cell?_alloc_lt _ _ _ ?_).trans ?_; (focus (first | omega | (simp <;> omega) | (simp at * <;> omega))); first | assumption | (simp only [World.cell?_drew, World.cell?_drewN]; assumption)) | (refine (World.cell?_alloc_lt _ _ _ ?_).trans ((World.cell?_alloc_lt _ _ _ ?_).trans ?_); (focus (first | omega | (simp <;> omega) | (simp at * <;> omega))); (focus (first | omega | (simp <;> omega) | (simp at * <;> omega))); first | assumption | (simp only [World.cell?_drew, World.cell?_drewN]; assumption))))); intro c_); (refine lay (p := w1.cell? ⟨(bd.add (k * 4)).block, (bd.add (k * 4)).off + 1, none⟩ = some (.int .i64 y.b)) ?_ ?_; (focus (refine (hb_w1.cell ?_).trans ?_; (focus (first | omega | (simp <;> omega) | (simp at * <;> omega))); (first | assumption | (simp only [World.cell?_drew, World.cell?_drewN]; assumption) | (simp; done) | (refine (World.cell?_alloc_lt _ _ _ ?_).trans ?_; (focus (first | omega | (simp <;> omega) | (simp at * <;> omega))); first | assumption | (simp only [World.cell?_drew, World.cell?_drewN]; assumption)) | (refine (World.cell?_alloc_lt _ _ _ ?_).trans ((World.cell?_alloc_lt _ _ _ ?_).trans ?_); (focus (first | omega | (simp <;> omega) | (simp at * <;> omega))); (focus (first | omega | (simp <;> omega) | (simp at * <;> omega))); first | assumption | (simp only [World.cell?_drew, World.cell?_drewN]; assumption))))); intro c_); (refine lay (p := w1.cell? ⟨(bd.add (k * 4)).block, (bd.add (k * 4)).off + 2, none⟩ = some (.int .i64 y.c)) ?_ ?_; (focus (refine (hb_w1.cell ?_).trans ?_; (focus (first | omega | (simp <;> omega) | (simp at * <;> omega))); (first | assumption | (simp only [World.cell?_drew, World.cell?_drewN]; assumption) | (simp; done) | (refine (World.cell?_alloc_lt _ _ _ ?_).trans ?_; (focus (first | omega | (simp <;> omega) | (simp at * <;> omega))); first | assumption | (simp only [World.cell?_drew, World.cell?_drewN]; assumption)) | (refine (World.cell?_alloc_lt _ _ _ ?_).trans ((World.cell?_alloc_lt _ _ _ ?_).trans ?_); (focus (first | omega | (simp <;> omega) | (simp at * <;> omega))); (focus (first | omega | (simp <;> omega) | (simp at * <;> omega))); first | assumption | (simp only [World.cell?_drew, World.cell?_drewN]; assumption))))); intro c_); (refine lay (p := w1.cell? ⟨(bd.add (k * 4)).block, (bd.add (k * 4)).off + 3, none⟩ = some (.int .i64 y.d)) ?_ ?_; (focus (refine (hb_w1.cell ?_).trans ?_; (focus (first | omega | (simp <;> omega) | (simp at * <;> omega))); (first | assumption | (simp only [World.cell?_drew, World.cell?_drewN]; assumption) | (simp; done) | (refine (World.cell?_alloc_lt _ _ _ ?_).trans ?_; (focus (first | omega | (simp <;> omega) | (simp at * <;> omega))); first | assumption | (simp only [World.cell?_drew, World.cell?_drewN]; assumption)) | (refine (World.cell?_alloc_lt _ _ _ ?_).trans ((World.cell?_alloc_lt _ _ _ ?_).trans ?_); (focus (first | omega | (simp <;> omega) | (simp at * <;> omega))); (focus (first | omega | (simp <;> omega) | (simp at * <;> omega))); first | assumption | (simp only [World.cell?_drew, World.cell?_drewN]; assumption))))); intro c_)))
          go_wp2
          go_roundw
          case rel => exact ⟨k + 1, by omega, by go_num, hst, by repeat (first | exact Below.refl _ _ | assumption | refine Below.next_ ?_ ?_ (by assumption) | refine Below.drew ?_ | refine below_drewN ?_ _ | refine Below.alloc ?_ ?_ _ | refine Below.setCell ?_ ?_ _ | omega | (simp <;> omega) | (simp at * <;> omega))⟩
          case measure => simp [intOf]; omega
        · have hq : decide (x = y) = false := by simpa using hxy
          have hfin := hide (show decide (l1 = l2) = false by simpa using ne_of_at HX.out HY.out hxy)
          clear hxy
          go_wp2
          go_region_held3 (fun w' => w'.cell? ((ad.add (k * 4))) = some (.int .i64 x.a) ∧ w'.cell? (⟨(ad.add (k * 4)).block, (ad.add (k * 4)).off + 1, none⟩) = some (.int .i64 x.b) ∧ w'.cell? (⟨(ad.add (k * 4)).block, (ad.add (k * 4)).off + 2, none⟩) = some (.int .i64 x.c) ∧ w'.cell? (⟨(ad.add (k * 4)).block, (ad.add (k * 4)).off + 3, none⟩) = some (.int .i64 x.d) ∧ w'.cell? ((bd.add (k * 4))) = some (.int .i64 y.a) ∧ w'.cell? (⟨(bd.add (k * 4)).block, (bd.add (k * 4)).off + 1, none⟩) = some (.int .i64 y.b) ∧ w'.cell? (⟨(bd.add (k * 4)).block, (bd.add (k * 4)).off + 2, none⟩) = some (.int .i64 y.c) ∧ w'.cell? (⟨(bd.add (k * 4)).block, (bd.add (k * 4)).off + 3, none⟩) = some (.int .i64 y.d)) (((try dsimp only); (repeat' apply And.intro); all_goals (first | assumption | (go_keep; done) | (simp [*]; done) | (exact (hb_w1.cell (by first | omega | (simp <;> omega) | (simp at * <;> omega))).trans (by first | assumption | exact (World.cell?_alloc_lt _ _ _ (by first | omega | (simp <;> omega) | (simp at * <;> omega))).trans (by assumption))))))
            (first | (go_at_call 58; refine (eqMethod_any x y _).mono ?_; rintro e w1 ⟨rfl, hb_w1⟩; have hs_w1 := hb_w1.size; obtain ⟨hc_w1, hf_w1⟩ := bcell hb_w1; (try simp only [World.size_drew, World.heap_drewN] at hc_w1 hf_w1); (try simp at hs_w1); (try have z_ : wr.heap.size ≤ w1.heap.size := (by omega)); (try (have z_ : wr.heap.size < w1.heap.size := (by omega); have y_ : ¬ wr.heap.size = w1.heap.size := (by omega); have x_ : ¬ w1.heap.size = wr.heap.size := (by omega))); (try (have z_ : wr.heap.size + 1 < w1.heap.size := (by omega); have y_ : ¬ wr.heap.size + 1 = w1.heap.size := (by omega); have x_ : ¬ w1.heap.size = wr.heap.size + 1 := (by omega))); (try (have z_ : wr.heap.size + 1 + 1 < w1.heap.size := (by omega); have y_ : ¬ wr.heap.size + 1 + 1 = w1.heap.size := (by omega); have x_ : ¬ w1.heap.size = wr.heap.size + 1 + 1 := (by omega))); (try (have z_ : wr.heap.size + 1 + 1 + 1 < w1.heap.size := (by omega); have y_ : ¬ wr.heap.size + 1 + 1 + 1 = w1.heap.size := (by omega); have x_ : ¬ w1.heap.size = wr.heap.size + 1 + 1 + 1 := (by omega))); (try (have z_ : wr.heap.size + 1 + 1 + 1 + 1 < w1.heap.size := (by omega); have y_ : ¬ wr.heap.size + 1 + 1 + 1 + 1 = w1.heap.size := (by omega); have x_ : ¬ w1.heap.size = wr.heap.size + 1 + 1 + 1 + 1 := (by omega))); (refine lay (p := w1.cell? (ad.add (k * 4)) = some (.int .i64 x.a)) ?_ ?_; (focus (refine (hb_w1.cell ?_).trans ?_; (focus (first | omega | (simp <;> omega) | (simp at * <;> omega))); (first | assumption | (simp only [World.cell?_drew, World.cell?_drewN]; assumption) | (simp; done) | (refine (World.cell?_alloc_lt _ _ _ ?_).trans ?_; (focus (first | omega | (simp <;> omega) | (simp at * <;> omega))); first | assumption | (simp only [World.cell?_drew, World.cell?_drewN]; assumption)) | (refine (World.cell?_alloc_lt _ _ _ ?_).trans ((World.cell?_alloc_lt _ _ _ ?_).trans ?_); (focus (first | omega | (simp <;> omega) | (simp at * <;> omega))); (focus (first | omega | (simp <;> omega) | (simp at * <;> omega))); first | assumption | (simp only [World.cell?_drew, World.cell?_drewN]; assumption))))); intro c_); (refine lay (p := w1.cell? ⟨(ad.add (k * 4)).block, (ad.add (k * 4)).off + 1, none⟩ = some (.int .i64 x.b)) ?_ ?_; (focus (refine (hb_w1.cell ?_).trans ?_; (focus (first | omega | (simp <;> omega) | (simp at * <;> omega))); (first | assumption | (simp only [World.cell?_drew, World.cell?_drewN]; assumption) | (simp; done) | (refine (World.cell?_alloc_lt _ _ _ ?_).trans ?_; (focus (first | omega | (simp <;> omega) | (simp at * <;> omega))); first | assumption | (simp only [World.cell?_drew, World.cell?_drewN]; assumption)) | (refine (World.cell?_alloc_lt _ _ _ ?_).trans ((World.cell?_alloc_lt _ _ _ ?_).trans ?_); (focus (first | omega | (simp <;> omega) | (simp at * <;> omega))); (focus (first | omega | (simp <;> omega) | (simp at * <;> omega))); first | assumption | (simp only [World.cell?_drew, World.cell?_drewN]; assumption))))); intro c_); (refine lay (p := w1.cell? ⟨(ad.add (k * 4)).block, (ad.add (k * 4)).off + 2, none⟩ = some (.int .i64 x.c)) ?_ ?_; (focus (refine (hb_w1.cell ?_).trans ?_; (focus (first | omega | (simp <;> omega) | (simp at * <;> omega))); (first | assumption | (simp only [World.cell?_drew, World.cell?_drewN]; assumption) | (simp; done) | (refine (World.cell?_alloc_lt _ _ _ ?_).trans ?_; (focus (first | omega | (simp <;> omega) | (simp at * <;> omega))); first | assumption | (simp only [World.cell?_drew, World.cell?_drewN]; assumption)) | (refine (World.cell?_alloc_lt _ _ _ ?_).trans ((World.cell?_alloc_lt _ _ _ ?_).trans ?_); (focus (first | omega | (simp <;> omega) | (simp at * <;> omega))); (focus (first | omega | (simp <;> omega) | (simp at * <;> omega))); first | assumption | (simp only [World.cell?_drew, World.cell?_drewN]; assumption))))); intro c_); (refine lay (p := w1.cell? ⟨(ad.add (k * 4)).block, (ad.add (k * 4)).off + 3, none⟩ = some (.int .i64 x.d)) ?_ ?_; (focus (refine (hb_w1.cell ?_).trans ?_; (focus (first | omega | (simp <;> omega) | (simp at * <;> omega))); (first | assumption | (simp only [World.cell?_drew, World.cell?_drewN]; assumption) | (simp; done) | (refine (World.cell?_alloc_lt _ _ _ ?_).trans ?_; (focus (first | omega | (simp <;> omega) | (simp at * <;> omega))); first | assumption | (simp only [World.cell?_drew, World.cell?_drewN]; assumption)) | (refine (World.cell?_alloc_lt _ _ _ ?_).trans ((World.cell?_alloc_lt _ _ _ ?_).trans ?_); (focus (first | omega | (simp <;> omega) | (simp at * <;> omega))); (focus (first | omega | (simp <;> omega) | (simp at * <;> omega))); first | assumption | (simp only [World.cell?_drew, World.cell?_drewN]; assumption))))); intro c_); (refine lay (p := w1.cell? (bd.add (k * 4)) = some (.int .i64 y.a)) ?_ ?_; (focus (refine (hb_w1.cell ?_).trans ?_; (focus (first | omega | (simp <;> omega) | (simp at * <;> omega))); (first | assumption | (simp only [World.cell?_drew, World.cell?_drewN]; assumption) | (simp; done) | (refine (World.cell?_alloc_lt _ _ _ ?_).trans ?_; (focus (first | omega | (simp <;> omega) | (simp at * <;> omega))); first | assumption | (simp only [World.cell?_drew, World.cell?_drewN]; assumption)) | (refine (World.cell?_alloc_lt _ _ _ ?_).trans ((World.cell?_alloc_lt _ _ _ ?_).trans ?_); (focus (first | omega | (simp <;> omega) | (simp at * <;> omega))); (focus (first | omega | (simp <;> omega) | (simp at * <;> omega))); first | assumption | (simp only [World.cell?_drew, World.cell?_drewN]; assumption))))); intro c_); (refine lay (p := w1.cell? ⟨(bd.add (k * 4)).block, (bd.add (k * 4)).off + 1, none⟩ = some (.int .i64 y.b)) ?_ ?_; (focus (refine (hb_w1.cell ?_).trans ?_; (focus (first | omega | (simp <;> omega) | (simp at * <;> omega))); (first | assumption | (simp only [World.cell?_drew, World.cell?_drewN]; assumption) | (simp; done) | (refine (World.cell?_alloc_lt _ _ _ ?_).trans ?_; (focus (first | omega | (simp <;> omega) | (simp at * <;> omega))); first | assumption | (simp only [World.cell?_drew, World.cell?_drewN]; assumption)) | (refine (World.cell?_alloc_lt _ _ _ ?_).trans ((World.cell?_alloc_lt _ _ _ ?_).trans ?_); (focus (first | omega | (simp <;> omega) | (simp at * <;> omega))); (focus (first | omega | (simp <;> omega) | (simp at * <;> omega))); first | assumption | (simp only [World.cell?_drew, World.cell?_drewN]; assumption))))); intro c_); (refine lay (p := w1.cell? ⟨(bd.add (k * 4)).block, (bd.add (k * 4)).off + 2, none⟩ = some (.int .i64 y.c)) ?_ ?_; (focus (refine (hb_w1.cell ?_).trans ?_; (focus (first | omega | (simp <;> omega) | (simp at * <;> omega))); (first | assumption | (simp only [World.cell?_drew, World.cell?_drewN]; assumption) | (simp; done) | (refine (World.cell?_alloc_lt _ _ _ ?_).trans ?_; (focus (first | omega | (simp <;> omega) | (simp at * <;> omega))); first | assumption | (simp only [World.cell?_drew, World.cell?_drewN]; assumption)) | (refine (World.cell?_alloc_lt _ _ _ ?_).trans ((World.cell?_alloc_lt _ _ _ ?_).trans ?_); (focus (first | omega | (simp <;> omega) | (simp at * <;> omega))); (focus (first | omega | (simp <;> omega) | (simp at * <;> omega))); first | assumption | (simp only [World.cell?_drew, World.cell?_drewN]; assumption))))); intro c_); (refine lay (p := w1.cell? ⟨(bd.add (k * 4)).block, (bd.add (k * 4)).off + 3, none⟩ = some (.int .i64 y.d)) ?_ ?_; (focus (refine (hb_w1.cell ?_).trans ?_; (focus (first | omega | (simp <;> omega) | (simp at * <;> omega))); (first | assumption | (simp only [World.cell?_drew, World.cell?_drewN]; assumption) | (simp; done) | (refine (World.cell?_alloc_lt _ _ _ ?_).trans ?_; (focus (first | omega | (simp <;> omega) | (simp at * <;> omega))); first | assumption | (simp only [World.cell?_drew, World.cell?_drewN]; assumption)) | (refine (World.cell?_alloc_lt _ _ _ ?_).trans ((World.cell?_alloc_lt _ _ _ ?_).trans ?_); (focus (first | omega | (simp <;> omega) | (simp at * <;> omega))); (focus (first | omega | (simp <;> omega) | (simp at * <;> omega))); first | assumption | (simp only [World.cell?_drew, World.cell?_drewN]; assumption))))); intro c_)))
          go_wp2
          go_ret
          exact ⟨ret_b hfin.out.symm, by repeat (first | exact Below.refl _ _ | assumption | refine Below.next_ ?_ ?_ (by assumption) | refine Below.drew ?_ | refine below_drewN ?_ _ | refine Below.alloc ?_ ?_ _ | refine Below.setCell ?_ ?_ _ | omega | (simp <;> omega) | (simp at * <;> omega))⟩
      · have hfin := hide (show decide (l1 = l2) = true by
          have hkn : k = n := by omega
          subst hkn
          simpa using eq_of_takes E1.out E2.out ht.out)
        have hkn : ¬ (k : Int) < (n : Int) := by omega
        go_wp2
        go_ret
        exact ⟨ret_b hfin.out.symm, hb⟩
  · have hfin := hide (show decide (l1 = l2) = false by
      simp only [decide_eq_false_iff_not]
      rintro rfl
      omega)
    have hb : ((n : Int) == (m : Int)) = false := by simpa using (by omega : ¬ (n : Int) = m)
    clear hnm e1 e2
    go_enter Try.func34, Try.ntmps34
    go_wp2
    go_ret
    exact ⟨ret_b hfin.out.symm, Below.refl _ _⟩
theorem Method_info : (Try.prog.info? 64).map (fun i => (i.zero, i.size, i.bytes)) = some (some (mtV ⟨0, 0, 0, 0⟩), 4, 32) := by kernel_rfl
set_option maxHeartbeats 1600000 in
theorem toMethodS_any {A : Option Addr} {n c : Nat} {l : List Mt} {w : World} (h : Rd w 4 A n (mts l)) (hn : n ≤ 1099511627776) :
    Calls Try.prog 32 #[.slice A n c] w fun e w' => ∃ B d, e = .returned (.slice B n d) ∧ w'.ownsRow w.heap.size 64 4 (.slice B n d) n (mts l) ∧ Below w.heap.size w w' := by
  obtain ⟨i0, hi, hz0, hz1, hz2⟩ := info_parts Method_info
  have HL := hide h.mtlen
  go_enter Try.func32, Try.ntmps32
  go_wp2_with (at_make; refine wpList_make_full _ rfl _ _ _ rfl w.heap.size 64 i0 (mtV ⟨0, 0, 0, 0⟩) 4 Try.underlying43 hi hz0 hz1 _ _ _ _ n rfl rfl rfl rfl (by rw [hz2]; omega) (by unfold maxLen; omega) (Nat.le_refl _) ?_; intro w1 ho hg)
  have hB := (Below.refl w.heap.size w).grown hg (Nat.le_refl _) (by simp)
  generalize hz : (madeCells (mtV ⟨0, 0, 0, 0⟩).cells (n * 4)).toList = zs at ho
  have HZ := hide hz
  clear hz
  have HN := hide (show zs.length = n * 4 by simpa using ho.1)
  go_loopw [4] (fun i wr => ∃ j : Nat, j ≤ n ∧ i = .int .i64 j ∧ wr.ownsRow w.heap.size 64 4 (.slice (some ⟨w.heap.size, 0, none⟩) n n) n (mts (l.take j) ++ zs.drop (j * 4)) ∧ Below w.heap.size w wr) (fun i _ => n - (intOf i).toNat)
  case atStart => exact ⟨0, Nat.zero_le _, rfl, by simpa [mts] using ho, hB⟩
  case round =>
    clear hB ho hg
    obtain ⟨j, hj, rfl, ho, hb⟩ := hrel
    by_cases hlt : j < n
    · obtain ⟨ad, x, rfl, hx, hc0, hc1, hc2, hc3⟩ := Rd.mt (h.below hb) hlt
      have HX := hide hx
      clear hx
      have hj4 : j * 4 + 4 ≤ n * 4 := by omega
      go_wp2_with fail
      refine (toMethod_any _ _ _ _ _).mono ?_
      rintro e w2 ⟨rfl, hb2⟩
      have ho2 := own_below ho hb2
      have hz := hb.size
      have hb3 := Below.next_ hb hz hb2
      obtain ⟨u0, g0, f0⟩ := own_cell ho2 (j := j * 4) (by omega)
      obtain ⟨u1, g1, f1⟩ := own_cell ho2 (j := j * 4 + 1) (by omega)
      obtain ⟨u2, g2, f2⟩ := own_cell ho2 (j := j * 4 + 2) (by omega)
      obtain ⟨u3, g3, f3⟩ := own_cell ho2 (j := j * 4 + 3) (by omega)
      go_wp2_with fail
      have S1 := hide (own_mt ho2 HX.out HN.out hlt)
      have S2 := hide ((((hb3.setCell (p := ⟨w.heap.size, j * 4, none⟩) (Nat.le_refl _) (.int .i64 x.a)).setCell (p := ⟨w.heap.size, j * 4 + 1, none⟩) (Nat.le_refl _) (.int .i64 x.b)).setCell (p := ⟨w.heap.size, j * 4 + 2, none⟩) (Nat.le_refl _) (.int .i64 x.c)).setCell (p := ⟨w.heap.size, j * 4 + 3, none⟩) (Nat.le_refl _) (.int .i64 x.d))
      go_roundw
      case rel => exact ⟨j + 1, by omega, by go_num, S1.out, S2.out⟩
      case measure => simp [intOf]; omega
    · have hjn : j = n := by omega
      subst hjn
      go_wp2
      go_ret
      have hzl := HN.out
      have hll := HL.out
      refine ⟨_, _, rfl, ?_, hb⟩
      rw [List.drop_of_length_le (by omega), List.append_nil, List.take_of_length_le (by omega)] at ho
      exact ho
end Go.Proofs.Ytmlkhgekacjidac
