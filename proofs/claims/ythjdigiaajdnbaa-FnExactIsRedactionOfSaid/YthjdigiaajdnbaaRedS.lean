/- The contract of szRedacted. -/
import Derived.Test.YthjdigiaajdnbaaRed
namespace Go.Proofs.Ythjdigiaajdnbaa
open Go.RowKit Go.WideShapes Go.ChangeShapes Go.Deep
set_option linter.unusedSimpArgs false
set_option linter.unusedVariables false
set_option maxRecDepth 1000000
def szN (n : Nat) (left : Int) : Int := if left - n < 0 then -1 else left - n
theorem szN_le {n : Nat} {left : Int} (h : 0 ≤ szN n left) : (n : Int) ≤ left ∧ szN n left ≤ left := by
  unfold szN at *
  split at h
  · omega
  · rw [if_neg (by omega)]; omega
def szGoL : List (List Int) → Int → Int
  | [], l => l
  | p :: ps, l => if l - p.length < 0 then -1 else szGoL ps (l - p.length)
def szSS (ps : List (List Int)) (left : Int) : Int := if left - ps.length < 0 then -1 else szGoL ps (left - ps.length)
theorem szGoL_le : ∀ (ps : List (List Int)) (l : Int), 0 ≤ l → (szGoL ps l = -1 ∨ (0 ≤ szGoL ps l ∧ szGoL ps l ≤ l ∧ ∀ p ∈ ps, (p.length : Int) ≤ l)) := by
  intro ps
  induction ps with
  | nil => intro l h; right; simp [szGoL, h]
  | cons p ps ih =>
    intro l h
    simp only [szGoL]
    split
    · left; rfl
    · rcases ih (l - p.length) (by omega) with h1 | ⟨h1, h2, h3⟩
      · left; exact h1
      · right
        refine ⟨h1, by omega, ?_⟩
        intro q hq
        rcases List.mem_cons.1 hq with rfl | hq
        · omega
        · have := h3 q hq; omega
theorem szSS_le {ps : List (List Int)} {l : Int} (h : 0 ≤ l) : szSS ps l = -1 ∨ (0 ≤ szSS ps l ∧ szSS ps l ≤ l ∧ (ps.length : Int) ≤ l ∧ ∀ p ∈ ps, (p.length : Int) ≤ l) := by
  unfold szSS
  split
  · left; rfl
  · rcases szGoL_le ps (l - ps.length) (by omega) with h1 | ⟨h1, h2, h3⟩
    · left; exact h1
    · right; exact ⟨h1, by omega, by omega, fun p hp => by have := h3 p hp; omega⟩
theorem szGoL_bad {ps : List (List Int)} {k : Nat} {l : Int} {x : List Int} (hx : ps[k]? = some x) (h : szN x.length l < 0) : szGoL (ps.drop k) l = -1 := by
  have hl := get_lt hx
  rw [List.getElem?_eq_getElem hl] at hx
  injection hx with hx
  rw [List.drop_eq_getElem_cons hl, hx, szGoL]
  unfold szN at h
  split
  · rfl
  · rw [if_neg (by assumption)] at h; omega
theorem szGoL_go {ps : List (List Int)} {k : Nat} {l : Int} {x : List Int} (hx : ps[k]? = some x) (h : ¬ szN x.length l < 0) : szGoL (ps.drop k) l = szGoL (ps.drop (k + 1)) (szN x.length l) := by
  have hl := get_lt hx
  rw [List.getElem?_eq_getElem hl] at hx
  injection hx with hx
  unfold szN at *
  rw [List.drop_eq_getElem_cons hl, hx, szGoL]
  split
  · rw [if_pos (by assumption)] at h; omega
  · rfl
theorem szIntS_any {A : Option Addr} {n c : Nat} {left : Int} (w : World) (hl0 : 0 ≤ left) (hl1 : left ≤ 1048576) (hn : n ≤ 9223372036854775807) :
    Calls Try.prog 45 #[.slice A n c, .int .i64 left] w fun e w' => e = .returned (.int .i64 (szN n left)) ∧ w = w' := by
  have hw : wrap64 (left - n) = left - n := by simp only [wrap64]; omega
  by_cases h : left - n < 0
  · have hfin := hide (show szN n left = -1 from if_pos h)
    go_enter Try.func45, Try.ntmps45
    go_wp2
    go_ret
    exact ⟨ret_i hfin.out.symm, rfl⟩
  · have hfin := hide (show szN n left = left - n from if_neg h)
    go_enter Try.func45, Try.ntmps45
    go_wp2
    go_ret
    exact ⟨ret_i hfin.out.symm, rfl⟩
theorem szBoolS_any {A : Option Addr} {n c : Nat} {left : Int} (w : World) (hl0 : 0 ≤ left) (hl1 : left ≤ 1048576) (hn : n ≤ 9223372036854775807) :
    Calls Try.prog 46 #[.slice A n c, .int .i64 left] w fun e w' => e = .returned (.int .i64 (szN n left)) ∧ w = w' := by
  have hw : wrap64 (left - n) = left - n := by simp only [wrap64]; omega
  by_cases h : left - n < 0
  · have hfin := hide (show szN n left = -1 from if_pos h)
    go_enter Try.func46, Try.ntmps46
    go_wp2
    go_ret
    exact ⟨ret_i hfin.out.symm, rfl⟩
  · have hfin := hide (show szN n left = left - n from if_neg h)
    go_enter Try.func46, Try.ntmps46
    go_wp2
    go_ret
    exact ⟨ret_i hfin.out.symm, rfl⟩
set_option maxHeartbeats 1000000 in
theorem szIntSS_any {A : Option Addr} {n c : Nat} {left : Int} {ps : List (List Int)} {w : World} (h : RdSS w A n ps) (hl0 : 0 ≤ left) (hl1 : left ≤ 1048576) (hn : n ≤ 9223372036854775807) (hsz : ∀ p ∈ ps, p.length ≤ 9223372036854775807) :
    Calls Try.prog 48 #[.slice A n c, .int .i64 left] w fun e w' => e = .returned (.int .i64 (szSS ps left)) ∧ w = w' := by
  have HL := hide h.len
  have hlen := h.len
  have hw : wrap64 (left - n) = left - n := by simp only [wrap64]; omega
  by_cases hneg : left - (n : Int) < 0
  · have hfin := hide (show szSS ps left = -1 by unfold szSS; rw [hlen, if_pos hneg])
    clear hlen
    go_enter Try.func48, Try.ntmps48
    go_wp2_with fail
    go_ret
    exact ⟨ret_i hfin.out.symm, rfl⟩
  · have HF := hide (show szSS ps left = szGoL ps (left - n) by unfold szSS; rw [hlen, if_neg hneg])
    have HSZ := hide hsz
    clear hlen hsz
    go_enter Try.func48, Try.ntmps48
    go_wp2_with fail
    go_loopw [1, 5] (fun lv i wr => ∃ (k : Nat) (x : Int), k ≤ n ∧ i = .int .i64 k ∧ lv = .int .i64 x ∧ 0 ≤ x ∧ x ≤ 1048576 ∧ Hid (szGoL (ps.drop k) x = szSS ps left) ∧ wr = w) (fun _ i _ => n - (intOf i).toNat)
    case atStart => exact ⟨0, left - n, Nat.zero_le _, rfl, rfl, by omega, by omega, HF.out.symm, rfl⟩
    case round =>
      obtain ⟨k, x, hk, rfl, rfl, hx0, hx1, hs, rfl⟩ := hrel
      have hk0 : (0 : Int) ≤ (k : Int) := by omega
      by_cases hlt : k < n
      · obtain ⟨ad, B, m, c2, l, rfl, hl, hcl, hrl⟩ := h.at_ hlt
        have hkn : (k : Int) < (n : Int) := by omega
        have hml := hrl.len
        have hps := HSZ.out l (List.mem_of_getElem? hl)
        have hm : m ≤ 9223372036854775807 := by omega
        have HML := hide hml
        by_cases hb : szN m x < 0
        · have hfin := hide (hs.out.symm.trans (szGoL_bad hl (by rw [HML.out]; exact hb)))
          clear hl hml hrl hps
          go_wp2_with fail
          refine (szIntS_any _ hx0 hx1 hm).mono ?_
          rintro e _ ⟨rfl, rfl⟩
          go_wp2_with fail
          go_ret
          exact ⟨ret_i hfin.out.symm, rfl⟩
        · have hst := hide ((szGoL_go hl (by rw [HML.out]; exact hb)).symm.trans hs.out)
          rw [hml] at hst
          have hle := (szN_le (by omega : 0 ≤ szN m x)).2
          clear hl hml hrl hps
          go_wp2_with fail
          refine (szIntS_any _ hx0 hx1 hm).mono ?_
          rintro e _ ⟨rfl, rfl⟩
          go_wp2_with fail
          go_roundw
          case rel => exact ⟨k + 1, szN m x, by omega, by go_num, by go_num, by omega, by omega, hst, trivial⟩
          case measure => simp [intOf]; omega
      · have hfin := hide (show szSS ps left = x by have := hs.out; rw [List.drop_of_length_le (by have := HL.out; omega)] at this; exact this.symm)
        have hkn : ¬ (k : Int) < (n : Int) := by omega
        go_wp2_with fail
        go_ret
        exact ⟨ret_i hfin.out.symm, rfl⟩
def szC (f : Int → Int) (x : Int) : Int := if x < 0 then -1 else f x
theorem szC_neg {f : Int → Int} {x : Int} (h : x < 0) : szC f x = -1 := if_pos h
theorem szC_pos {f : Int → Int} {x : Int} (h : ¬ x < 0) : szC f x = f x := if_neg h
def szR (nm nb : Nat) (ps : List ByteArray) (ns : Nat) (ds : List (List Int)) (left : Int) : Int := szC (szSS ds) (szC (szN ns) (szC (szS ps) (szC (szN nb) (szN nm left))))
theorem szC_at {f : Int → Int} {x : Int} (h : 0 ≤ szC f x) : 0 ≤ x ∧ szC f x = f x := by
  unfold szC at *
  split at h
  · omega
  · rw [if_neg (by assumption)]; exact ⟨by omega, rfl⟩
theorem szR_ok {nm nb ns : Nat} {ps : List ByteArray} {ds : List (List Int)} {left : Int} (hl : 0 ≤ left) (h : 0 ≤ szR nm nb ps ns ds left) :
    (nm : Int) ≤ left ∧ (nb : Int) ≤ left ∧ (ps.length : Int) ≤ left ∧ (ns : Int) ≤ left ∧ (ds.length : Int) ≤ left ∧ (∀ p ∈ ps, (p.size : Int) ≤ left) ∧ (∀ x ∈ ds, (x.length : Int) ≤ left) ∧ szR nm nb ps ns ds left ≤ left := by
  obtain ⟨h4, e4⟩ := szC_at (f := szSS ds) h
  obtain ⟨h3, e3⟩ := szC_at h4
  obtain ⟨h2, e2⟩ := szC_at h3
  obtain ⟨h1, e1⟩ := szC_at h2
  have a1 := szN_le h1
  rw [e1] at h2 e2
  have a2 := szN_le h2
  have a3 := szS_le (ps := ps) h2
  rw [e1] at h3 e3 h4 e4
  rw [e2] at h3 e3 h4 e4
  rw [e3] at h4 e4
  have a4 := szN_le h4
  have e5 : szR nm nb ps ns ds left = szSS ds (szN ns (szS ps (szN nb (szN nm left)))) := by unfold szR; rw [e1, e2, e3, e4]
  rw [e5] at h ⊢
  have a5 := szSS_le (ps := ds) h4
  rcases a3 with a3 | ⟨_, a32, a33, a34⟩
  · omega
  rcases a5 with a5 | ⟨_, a52, a53, a54⟩
  · omega
  exact ⟨by omega, by omega, by omega, by omega, by omega, fun p hp => by have := a34 p hp; omega, fun x hx => by have := a54 x hx; omega, by omega⟩
set_option maxHeartbeats 2000000 in
theorem szRedacted_any {t : Int} {M B P S D : Option Addr} {nm nb np ns nd cm cb cp cs cd : Nat} {ms : List Int} {bs : List Bool} {ps : List ByteArray} {ss : List Int} {ds : List (List Int)} {left : Int} {w : World} (h : RdR w M B P S D nm nb np ns nd ms bs ps ss ds) (hl0 : 0 ≤ left) (hl1 : left ≤ 1048576) (hB : BdR 9223372036854775807 nm nb np ns nd ds) (hsz : ∀ p ∈ ps, p.size ≤ 9223372036854775807) :
    Calls Try.prog 18 #[reV t M B P S D nm nb np ns nd cm cb cp cs cd, .int .i64 left] w fun e w' => e = .returned (.int .i64 (szR nm nb ps ns ds left)) ∧ Below w.heap.size w w' := by
  have b0 := hB.m
  have b1 := hB.b
  have b2 := hB.p
  have b3 := hB.s
  have b4 := hB.d
  obtain ⟨W1, hW_W1⟩ : ∃ W1, w.alloc (.cells #[.int .i64 t, .slice M nm cm, .slice B nb cb, .slice P np cp, .slice S ns cs, .slice D nd cd] 45) = W1 := ⟨_, rfl⟩
  have hc_W10 : W1.cell? ⟨w.heap.size, 0, none⟩ = some (.int .i64 t) := by rw [← hW_W1]; simp
  have hc_W11 : W1.cell? ⟨w.heap.size, 1, none⟩ = some (.slice M nm cm) := by rw [← hW_W1]; simp
  have hc_W12 : W1.cell? ⟨w.heap.size, 2, none⟩ = some (.slice B nb cb) := by rw [← hW_W1]; simp
  have hc_W13 : W1.cell? ⟨w.heap.size, 3, none⟩ = some (.slice P np cp) := by rw [← hW_W1]; simp
  have hc_W14 : W1.cell? ⟨w.heap.size, 4, none⟩ = some (.slice S ns cs) := by rw [← hW_W1]; simp
  have hc_W15 : W1.cell? ⟨w.heap.size, 5, none⟩ = some (.slice D nd cd) := by rw [← hW_W1]; simp
  have hs_W1 : w.heap.size < W1.heap.size := by rw [← hW_W1]; simp
  have hb_W1 : Below w.heap.size w W1 := by rw [← hW_W1]; repeat (first | exact Below.refl _ _ | assumption | refine Below.next_ ?_ ?_ (by assumption) | refine Below.drew ?_ | refine below_drewN ?_ _ | refine Below.alloc ?_ ?_ _ | refine Below.setCell ?_ ?_ _ | omega | (simp <;> omega) | (simp at * <;> omega))
  have HW_W1 := hide hW_W1
  clear hW_W1
  obtain ⟨x0, ex0⟩ : ∃ x, szN nm left = x := ⟨_, rfl⟩
  have e0 := hide ex0
  by_cases g0 : x0 < 0
  · have hfin := hide (show szR nm nb ps ns ds left = -1 by
      unfold szR
      rw [ex0]
      rw [szC_neg g0]
      rw [szC_neg (show (-1 : Int) < 0 by omega)]
      rw [szC_neg (show (-1 : Int) < 0 by omega)]
      rw [szC_neg (show (-1 : Int) < 0 by omega)]
      )
    clear ex0
    go_enter Try.func18, Try.ntmps18
    go_wp2_with fail
    rw [HW_W1.out]
    clear HW_W1
    refine (szIntS_any _ hl0 hl1 (by omega)).mono ?_
    rintro e _ ⟨rfl, rfl⟩
    rw [e0.out]
    go_wp2_with fail
    go_ret
    exact ⟨ret_i (by rw [hfin.out]), by repeat (first | exact Below.refl _ _ | assumption | refine Below.next_ ?_ ?_ (by assumption) | refine Below.drew ?_ | refine below_drewN ?_ _ | refine Below.alloc ?_ ?_ _ | refine Below.setCell ?_ ?_ _ | omega | (dsimp only; omega) | (simp <;> omega) | (simp at * <;> omega))⟩
  have l0 := (szN_le (by rw [ex0]; omega)).2
  rw [ex0] at l0
  obtain ⟨x1, ex1⟩ : ∃ x, szN nb x0 = x := ⟨_, rfl⟩
  have e1 := hide ex1
  by_cases g1 : x1 < 0
  · have hfin := hide (show szR nm nb ps ns ds left = -1 by
      unfold szR
      rw [ex0]
      rw [szC_pos g0, ex1]
      rw [szC_neg g1]
      rw [szC_neg (show (-1 : Int) < 0 by omega)]
      rw [szC_neg (show (-1 : Int) < 0 by omega)]
      )
    clear ex1
    clear ex0
    go_enter Try.func18, Try.ntmps18
    go_wp2_with fail
    rw [HW_W1.out]
    clear HW_W1
    refine (szIntS_any _ hl0 hl1 (by omega)).mono ?_
    rintro e _ ⟨rfl, rfl⟩
    rw [e0.out]
    go_wp2_with fail
    refine (szBoolS_any _ (by omega) (by omega) (by omega)).mono ?_
    rintro e _ ⟨rfl, rfl⟩
    rw [e1.out]
    go_wp2_with fail
    go_ret
    exact ⟨ret_i (by rw [hfin.out]), by repeat (first | exact Below.refl _ _ | assumption | refine Below.next_ ?_ ?_ (by assumption) | refine Below.drew ?_ | refine below_drewN ?_ _ | refine Below.alloc ?_ ?_ _ | refine Below.setCell ?_ ?_ _ | omega | (dsimp only; omega) | (simp <;> omega) | (simp at * <;> omega))⟩
  have l1 := (szN_le (by rw [ex1]; omega)).2
  rw [ex1] at l1
  obtain ⟨x2, ex2⟩ : ∃ x, szS ps x1 = x := ⟨_, rfl⟩
  have e2 := hide ex2
  by_cases g2 : x2 < 0
  · have hfin := hide (show szR nm nb ps ns ds left = -1 by
      unfold szR
      rw [ex0]
      rw [szC_pos g0, ex1]
      rw [szC_pos g1, ex2]
      rw [szC_neg g2]
      rw [szC_neg (show (-1 : Int) < 0 by omega)]
      )
    clear ex2
    clear ex0
    clear ex1
    go_enter Try.func18, Try.ntmps18
    go_wp2_with fail
    rw [HW_W1.out]
    clear HW_W1
    refine (szIntS_any _ hl0 hl1 (by omega)).mono ?_
    rintro e _ ⟨rfl, rfl⟩
    rw [e0.out]
    go_wp2_with fail
    refine (szBoolS_any _ (by omega) (by omega) (by omega)).mono ?_
    rintro e _ ⟨rfl, rfl⟩
    rw [e1.out]
    go_wp2_with fail
    refine (szStringS_any (h.p.below (by repeat (first | exact Below.refl _ _ | assumption | refine Below.next_ ?_ ?_ (by assumption) | refine Below.drew ?_ | refine below_drewN ?_ _ | refine Below.alloc ?_ ?_ _ | refine Below.setCell ?_ ?_ _ | omega | (dsimp only; omega) | (simp <;> omega) | (simp at * <;> omega)))) (by omega) (by omega) (by omega) hsz).mono ?_
    rintro e _ ⟨rfl, q, rfl⟩
    rw [e2.out]
    go_wp2_with fail
    go_ret
    exact ⟨ret_i (by rw [hfin.out]), by repeat (first | exact Below.refl _ _ | assumption | refine Below.next_ ?_ ?_ (by assumption) | refine Below.drew ?_ | refine below_drewN ?_ _ | refine Below.alloc ?_ ?_ _ | refine Below.setCell ?_ ?_ _ | omega | (dsimp only; omega) | (simp <;> omega) | (simp at * <;> omega))⟩
  have l2 : x2 ≤ x1 := by
    rcases szS_le (ps := ps) (show 0 ≤ x1 by omega) with h | h
    · omega
    · omega
  obtain ⟨x3, ex3⟩ : ∃ x, szN ns x2 = x := ⟨_, rfl⟩
  have e3 := hide ex3
  by_cases g3 : x3 < 0
  · have hfin := hide (show szR nm nb ps ns ds left = -1 by
      unfold szR
      rw [ex0]
      rw [szC_pos g0, ex1]
      rw [szC_pos g1, ex2]
      rw [szC_pos g2, ex3]
      rw [szC_neg g3]
      )
    clear ex3
    clear ex0
    clear ex1
    clear ex2
    go_enter Try.func18, Try.ntmps18
    go_wp2_with fail
    rw [HW_W1.out]
    clear HW_W1
    refine (szIntS_any _ hl0 hl1 (by omega)).mono ?_
    rintro e _ ⟨rfl, rfl⟩
    rw [e0.out]
    go_wp2_with fail
    refine (szBoolS_any _ (by omega) (by omega) (by omega)).mono ?_
    rintro e _ ⟨rfl, rfl⟩
    rw [e1.out]
    go_wp2_with fail
    refine (szStringS_any (h.p.below (by repeat (first | exact Below.refl _ _ | assumption | refine Below.next_ ?_ ?_ (by assumption) | refine Below.drew ?_ | refine below_drewN ?_ _ | refine Below.alloc ?_ ?_ _ | refine Below.setCell ?_ ?_ _ | omega | (dsimp only; omega) | (simp <;> omega) | (simp at * <;> omega)))) (by omega) (by omega) (by omega) hsz).mono ?_
    rintro e _ ⟨rfl, q, rfl⟩
    rw [e2.out]
    go_wp2_with fail
    refine (szIntS_any _ (by omega) (by omega) (by omega)).mono ?_
    rintro e _ ⟨rfl, rfl⟩
    rw [e3.out]
    go_wp2_with fail
    go_ret
    exact ⟨ret_i (by rw [hfin.out]), by repeat (first | exact Below.refl _ _ | assumption | refine Below.next_ ?_ ?_ (by assumption) | refine Below.drew ?_ | refine below_drewN ?_ _ | refine Below.alloc ?_ ?_ _ | refine Below.setCell ?_ ?_ _ | omega | (dsimp only; omega) | (simp <;> omega) | (simp at * <;> omega))⟩
  have l3 := (szN_le (by rw [ex3]; omega)).2
  rw [ex3] at l3
  obtain ⟨x4, ex4⟩ : ∃ x, szSS ds x3 = x := ⟨_, rfl⟩
  have e4 := hide ex4
  by_cases g4 : x4 < 0
  · have hfin := hide (show szR nm nb ps ns ds left = -1 by
      unfold szR
      rw [ex0]
      rw [szC_pos g0, ex1]
      rw [szC_pos g1, ex2]
      rw [szC_pos g2, ex3]
      rw [szC_pos g3, ex4]
      rcases szSS_le (ps := ds) (show 0 ≤ x3 by omega) with h | h
      · omega
      · omega)
    clear ex0
    clear ex1
    clear ex2
    clear ex3
    clear ex4
    go_enter Try.func18, Try.ntmps18
    go_wp2_with fail
    rw [HW_W1.out]
    clear HW_W1
    refine (szIntS_any _ hl0 hl1 (by omega)).mono ?_
    rintro e _ ⟨rfl, rfl⟩
    rw [e0.out]
    go_wp2_with fail
    refine (szBoolS_any _ (by omega) (by omega) (by omega)).mono ?_
    rintro e _ ⟨rfl, rfl⟩
    rw [e1.out]
    go_wp2_with fail
    refine (szStringS_any (h.p.below (by repeat (first | exact Below.refl _ _ | assumption | refine Below.next_ ?_ ?_ (by assumption) | refine Below.drew ?_ | refine below_drewN ?_ _ | refine Below.alloc ?_ ?_ _ | refine Below.setCell ?_ ?_ _ | omega | (dsimp only; omega) | (simp <;> omega) | (simp at * <;> omega)))) (by omega) (by omega) (by omega) hsz).mono ?_
    rintro e _ ⟨rfl, q, rfl⟩
    rw [e2.out]
    go_wp2_with fail
    refine (szIntS_any _ (by omega) (by omega) (by omega)).mono ?_
    rintro e _ ⟨rfl, rfl⟩
    rw [e3.out]
    go_wp2_with fail
    refine (szIntSS_any (h.d.below (by repeat (first | exact Below.refl _ _ | assumption | refine Below.next_ ?_ ?_ (by assumption) | refine Below.drew ?_ | refine below_drewN ?_ _ | refine Below.alloc ?_ ?_ _ | refine Below.setCell ?_ ?_ _ | omega | (dsimp only; omega) | (simp <;> omega) | (simp at * <;> omega)))) (by omega) (by omega) (by omega) hB.l).mono ?_
    rintro e _ ⟨rfl, rfl⟩
    rw [e4.out]
    go_wp2_with fail
    go_ret
    exact ⟨ret_i (by rw [hfin.out]), by repeat (first | exact Below.refl _ _ | assumption | refine Below.next_ ?_ ?_ (by assumption) | refine Below.drew ?_ | refine below_drewN ?_ _ | refine Below.alloc ?_ ?_ _ | refine Below.setCell ?_ ?_ _ | omega | (dsimp only; omega) | (simp <;> omega) | (simp at * <;> omega))⟩
  have hfin := hide (show szR nm nb ps ns ds left = x4 by
      unfold szR
      rw [ex0]
      rw [szC_pos g0, ex1]
      rw [szC_pos g1, ex2]
      rw [szC_pos g2, ex3]
      rw [szC_pos g3, ex4]
      )
  clear ex0
  clear ex1
  clear ex2
  clear ex3
  clear ex4
  go_enter Try.func18, Try.ntmps18
  go_wp2_with fail
  rw [HW_W1.out]
  clear HW_W1
  refine (szIntS_any _ hl0 hl1 (by omega)).mono ?_
  rintro e _ ⟨rfl, rfl⟩
  rw [e0.out]
  go_wp2_with fail
  refine (szBoolS_any _ (by omega) (by omega) (by omega)).mono ?_
  rintro e _ ⟨rfl, rfl⟩
  rw [e1.out]
  go_wp2_with fail
  refine (szStringS_any (h.p.below (by repeat (first | exact Below.refl _ _ | assumption | refine Below.next_ ?_ ?_ (by assumption) | refine Below.drew ?_ | refine below_drewN ?_ _ | refine Below.alloc ?_ ?_ _ | refine Below.setCell ?_ ?_ _ | omega | (dsimp only; omega) | (simp <;> omega) | (simp at * <;> omega)))) (by omega) (by omega) (by omega) hsz).mono ?_
  rintro e _ ⟨rfl, q, rfl⟩
  rw [e2.out]
  go_wp2_with fail
  refine (szIntS_any _ (by omega) (by omega) (by omega)).mono ?_
  rintro e _ ⟨rfl, rfl⟩
  rw [e3.out]
  go_wp2_with fail
  refine (szIntSS_any (h.d.below (by repeat (first | exact Below.refl _ _ | assumption | refine Below.next_ ?_ ?_ (by assumption) | refine Below.drew ?_ | refine below_drewN ?_ _ | refine Below.alloc ?_ ?_ _ | refine Below.setCell ?_ ?_ _ | omega | (dsimp only; omega) | (simp <;> omega) | (simp at * <;> omega)))) (by omega) (by omega) (by omega) hB.l).mono ?_
  rintro e _ ⟨rfl, rfl⟩
  rw [e4.out]
  go_wp2_with fail
  go_ret
  exact ⟨ret_i (by rw [hfin.out]), by repeat (first | exact Below.refl _ _ | assumption | refine Below.next_ ?_ ?_ (by assumption) | refine Below.drew ?_ | refine below_drewN ?_ _ | refine Below.alloc ?_ ?_ _ | refine Below.setCell ?_ ?_ _ | omega | (dsimp only; omega) | (simp <;> omega) | (simp at * <;> omega))⟩
end Go.Proofs.Ythjdigiaajdnbaa
