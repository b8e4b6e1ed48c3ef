/- Contracts of the laws' own comparison and size of documents. For slices of at most 2^40 elements. -/
import Derived.Test.YthjdigiaajdnbaaDoc
namespace Go.Proofs.Ythjdigiaajdnbaa
open Go.RowKit Go.WideShapes Go.ChangeShapes Go.Deep
set_option linter.unusedSimpArgs false
set_option linter.unusedVariables false
set_option maxRecDepth 100000
set_option maxHeartbeats 2000000 in
theorem eqDocument_any {P S P2 S2 : Option Addr} {n m c d n2 m2 c2 d2 : Nat} {t t2 : Int} {ps ps2 : List ByteArray} {ss ss2 : List Int} {w : World} (h1 : Rd w 1 P n (sts ps)) (h2 : Rd w 1 S m (ints ss)) (k1 : Rd w 1 P2 n2 (sts ps2)) (k2 : Rd w 1 S2 m2 (ints ss2)) (hn : n ≤ 1099511627776) (hm : m ≤ 1099511627776) (hn2 : n2 ≤ 1099511627776) (hm2 : m2 ≤ 1099511627776) :
    Calls Try.prog 24 #[doV t P S n m c d, doV t2 P2 S2 n2 m2 c2 d2] w fun e w' => e = .returned (.bool (decide (t = t2 ∧ ps = ps2 ∧ ss = ss2))) ∧ Below w.heap.size w w' := by
  by_cases ht : t = t2
  · have hb1 : (t == t2) = true := by simpa using ht
    by_cases hp : ps = ps2
    · have HP := hide (show decide (ps = ps2) = true by simpa using hp)
      by_cases hs : ss = ss2
      · have HS := hide (show decide (ss = ss2) = true by simpa using hs)
        have hfin := hide (show decide (t = t2 ∧ ps = ps2 ∧ ss = ss2) = true by simp [ht, hp, hs])
        clear ht hp hs
        go_enter Try.func24, Try.ntmps24
        go_wp2_with fail
        refine (eqStringS_any (h1.below (by repeat (first | exact Below.refl _ _ | assumption | refine Below.next_ ?_ ?_ (by assumption) | refine Below.drew ?_ | refine below_drewN ?_ _ | refine Below.alloc ?_ ?_ _ | refine Below.setCell ?_ ?_ _ | omega | (dsimp only; omega) | (simp <;> omega) | (simp at * <;> omega)))) (k1.below (by repeat (first | exact Below.refl _ _ | assumption | refine Below.next_ ?_ ?_ (by assumption) | refine Below.drew ?_ | refine below_drewN ?_ _ | refine Below.alloc ?_ ?_ _ | refine Below.setCell ?_ ?_ _ | omega | (dsimp only; omega) | (simp <;> omega) | (simp at * <;> omega)))) (by omega) (by omega)).mono ?_
        rintro e _ ⟨rfl, q1, rfl⟩
        rw [HP.out]
        go_wp2_with fail
        refine (eqIntS_any (h2.below (by repeat (first | exact Below.refl _ _ | assumption | refine Below.next_ ?_ ?_ (by assumption) | refine Below.drew ?_ | refine below_drewN ?_ _ | refine Below.alloc ?_ ?_ _ | refine Below.setCell ?_ ?_ _ | omega | (dsimp only; omega) | (simp <;> omega) | (simp at * <;> omega)))) (k2.below (by repeat (first | exact Below.refl _ _ | assumption | refine Below.next_ ?_ ?_ (by assumption) | refine Below.drew ?_ | refine below_drewN ?_ _ | refine Below.alloc ?_ ?_ _ | refine Below.setCell ?_ ?_ _ | omega | (dsimp only; omega) | (simp <;> omega) | (simp at * <;> omega)))) (by omega) (by omega)).mono ?_
        rintro e _ ⟨rfl, q2, rfl⟩
        rw [HS.out]
        go_wp2_with fail
        go_ret
        exact ⟨ret_b hfin.out.symm, by repeat (first | exact Below.refl _ _ | assumption | refine Below.next_ ?_ ?_ (by assumption) | refine Below.drew ?_ | refine below_drewN ?_ _ | refine Below.alloc ?_ ?_ _ | refine Below.setCell ?_ ?_ _ | omega | (dsimp only; omega) | (simp <;> omega) | (simp at * <;> omega))⟩
      · have HS := hide (show decide (ss = ss2) = false by simpa using hs)
        have hfin := hide (show decide (t = t2 ∧ ps = ps2 ∧ ss = ss2) = false by simp [hs])
        clear ht hp hs
        go_enter Try.func24, Try.ntmps24
        go_wp2_with fail
        refine (eqStringS_any (h1.below (by repeat (first | exact Below.refl _ _ | assumption | refine Below.next_ ?_ ?_ (by assumption) | refine Below.drew ?_ | refine below_drewN ?_ _ | refine Below.alloc ?_ ?_ _ | refine Below.setCell ?_ ?_ _ | omega | (dsimp only; omega) | (simp <;> omega) | (simp at * <;> omega)))) (k1.below (by repeat (first | exact Below.refl _ _ | assumption | refine Below.next_ ?_ ?_ (by assumption) | refine Below.drew ?_ | refine below_drewN ?_ _ | refine Below.alloc ?_ ?_ _ | refine Below.setCell ?_ ?_ _ | omega | (dsimp only; omega) | (simp <;> omega) | (simp at * <;> omega)))) (by omega) (by omega)).mono ?_
        rintro e _ ⟨rfl, q1, rfl⟩
        rw [HP.out]
        go_wp2_with fail
        refine (eqIntS_any (h2.below (by repeat (first | exact Below.refl _ _ | assumption | refine Below.next_ ?_ ?_ (by assumption) | refine Below.drew ?_ | refine below_drewN ?_ _ | refine Below.alloc ?_ ?_ _ | refine Below.setCell ?_ ?_ _ | omega | (dsimp only; omega) | (simp <;> omega) | (simp at * <;> omega)))) (k2.below (by repeat (first | exact Below.refl _ _ | assumption | refine Below.next_ ?_ ?_ (by assumption) | refine Below.drew ?_ | refine below_drewN ?_ _ | refine Below.alloc ?_ ?_ _ | refine Below.setCell ?_ ?_ _ | omega | (dsimp only; omega) | (simp <;> omega) | (simp at * <;> omega)))) (by omega) (by omega)).mono ?_
        rintro e _ ⟨rfl, q2, rfl⟩
        rw [HS.out]
        go_wp2_with fail
        go_ret
        exact ⟨ret_b hfin.out.symm, by repeat (first | exact Below.refl _ _ | assumption | refine Below.next_ ?_ ?_ (by assumption) | refine Below.drew ?_ | refine below_drewN ?_ _ | refine Below.alloc ?_ ?_ _ | refine Below.setCell ?_ ?_ _ | omega | (dsimp only; omega) | (simp <;> omega) | (simp at * <;> omega))⟩
    · have HP := hide (show decide (ps = ps2) = false by simpa using hp)
      have hfin := hide (show decide (t = t2 ∧ ps = ps2 ∧ ss = ss2) = false by simp [hp])
      clear ht hp
      go_enter Try.func24, Try.ntmps24
      go_wp2_with fail
      refine (eqStringS_any (h1.below (by repeat (first | exact Below.refl _ _ | assumption | refine Below.next_ ?_ ?_ (by assumption) | refine Below.drew ?_ | refine below_drewN ?_ _ | refine Below.alloc ?_ ?_ _ | refine Below.setCell ?_ ?_ _ | omega | (dsimp only; omega) | (simp <;> omega) | (simp at * <;> omega)))) (k1.below (by repeat (first | exact Below.refl _ _ | assumption | refine Below.next_ ?_ ?_ (by assumption) | refine Below.drew ?_ | refine below_drewN ?_ _ | refine Below.alloc ?_ ?_ _ | refine Below.setCell ?_ ?_ _ | omega | (dsimp only; omega) | (simp <;> omega) | (simp at * <;> omega)))) (by omega) (by omega)).mono ?_
      rintro e _ ⟨rfl, q1, rfl⟩
      rw [HP.out]
      go_wp2_with fail
      go_ret
      exact ⟨ret_b hfin.out.symm, by repeat (first | exact Below.refl _ _ | assumption | refine Below.next_ ?_ ?_ (by assumption) | refine Below.drew ?_ | refine below_drewN ?_ _ | refine Below.alloc ?_ ?_ _ | refine Below.setCell ?_ ?_ _ | omega | (dsimp only; omega) | (simp <;> omega) | (simp at * <;> omega))⟩
  · have hb1 : (t == t2) = false := by simpa using ht
    have hfin := hide (show decide (t = t2 ∧ ps = ps2 ∧ ss = ss2) = false by simp [ht])
    clear ht
    go_enter Try.func24, Try.ntmps24
    go_wp2_with fail
    go_ret
    exact ⟨ret_b hfin.out.symm, by repeat (first | exact Below.refl _ _ | assumption | refine Below.next_ ?_ ?_ (by assumption) | refine Below.drew ?_ | refine below_drewN ?_ _ | refine Below.alloc ?_ ?_ _ | refine Below.setCell ?_ ?_ _ | omega | (dsimp only; omega) | (simp <;> omega) | (simp at * <;> omega))⟩
/-- what szStringS leaves of left -/
def szGo : List ByteArray → Int → Int
  | [], l => l
  | p :: ps, l => if l - p.size < 0 then -1 else szGo ps (l - p.size)
def szS (ps : List ByteArray) (left : Int) : Int := if left - ps.length < 0 then -1 else szGo ps (left - ps.length)
theorem szGo_le : ∀ (ps : List ByteArray) (l : Int), 0 ≤ l → (szGo ps l = -1 ∨ (0 ≤ szGo ps l ∧ szGo ps l ≤ l ∧ ∀ p ∈ ps, (p.size : Int) ≤ l)) := by
  intro ps
  induction ps with
  | nil => intro l h; right; simp [szGo, h]
  | cons p ps ih =>
    intro l h
    simp only [szGo]
    split
    · left; rfl
    · rcases ih (l - p.size) (by omega) with h1 | ⟨h1, h2, h3⟩
      · left; exact h1
      · right
        refine ⟨h1, by omega, ?_⟩
        intro q hq
        rcases List.mem_cons.1 hq with rfl | hq
        · omega
        · have := h3 q hq; omega
theorem szS_le {ps : List ByteArray} {l : Int} (h : 0 ≤ l) : szS ps l = -1 ∨ (0 ≤ szS ps l ∧ szS ps l ≤ l ∧ (ps.length : Int) ≤ l ∧ ∀ p ∈ ps, (p.size : Int) ≤ l) := by
  unfold szS
  split
  · left; rfl
  · rcases szGo_le ps (l - ps.length) (by omega) with h1 | ⟨h1, h2, h3⟩
    · left; exact h1
    · right; exact ⟨h1, by omega, by omega, fun p hp => by have := h3 p hp; omega⟩
theorem szGo_bad {ps : List ByteArray} {k : Nat} {l : Int} {x : ByteArray} (hx : ps[k]? = some x) (h : l - x.size < 0) : szGo (ps.drop k) l = -1 := by
  have hl := get_lt hx
  rw [List.getElem?_eq_getElem hl] at hx
  injection hx with hx
  rw [List.drop_eq_getElem_cons hl, hx, szGo, if_pos h]
theorem szGo_go {ps : List ByteArray} {k : Nat} {l : Int} {x : ByteArray} (hx : ps[k]? = some x) (h : ¬ l - x.size < 0) : szGo (ps.drop k) l = szGo (ps.drop (k + 1)) (l - x.size) := by
  have hl := get_lt hx
  rw [List.getElem?_eq_getElem hl] at hx
  injection hx with hx
  rw [List.drop_eq_getElem_cons hl, hx, szGo, if_neg h]
set_option maxHeartbeats 1000000 in
theorem szStringS_any {A : Option Addr} {n c : Nat} {left : Int} {ps : List ByteArray} {w : World} (h : Rd w 1 A n (sts ps)) (hl0 : 0 ≤ left) (hl1 : left ≤ 1048576) (hn : n ≤ 9223372036854775807) (hsz : ∀ p ∈ ps, p.size ≤ 9223372036854775807) :
    Calls Try.prog 47 #[.slice A n c, .int .i64 left] w fun e w' => e = .returned (.int .i64 (szS ps left)) ∧ ∃ q, w' = w.drewN q := by
  have HL := hide h.maplen
  have hlen := h.maplen
  have hw : wrap64 (left - n) = left - n := by simp only [wrap64]; omega
  by_cases hneg : left - (n : Int) < 0
  · have hfin := hide (show szS ps left = -1 by unfold szS; rw [hlen, if_pos hneg])
    clear hlen
    go_enter Try.func47, Try.ntmps47
    go_wp2
    go_ret
    exact ⟨ret_i hfin.out.symm, 0, rfl⟩
  · have HF := hide (show szS ps left = szGo ps (left - n) by unfold szS; rw [hlen, if_neg hneg])
    have HSZ := hide hsz
    clear hlen hsz
    go_enter Try.func47, Try.ntmps47
    go_wp2
    go_loopw [1, 5] (fun lv i wr => ∃ (k q : Nat) (x : Int), k ≤ n ∧ i = .int .i64 k ∧ lv = .int .i64 x ∧ 0 ≤ x ∧ x ≤ 1048576 ∧ Hid (szGo (ps.drop k) x = szS ps left) ∧ wr = w.drewN q) (fun _ i _ => n - (intOf i).toNat)
    case atStart => exact ⟨0, 0, left - n, Nat.zero_le _, rfl, rfl, by omega, by omega, HF.out.symm, rfl⟩
    case round =>
      obtain ⟨k, q, x, hk, rfl, rfl, hx0, hx1, hs, rfl⟩ := hrel
      by_cases hlt : k < n
      · obtain ⟨ad, p, rfl, hp, hcp⟩ := Rd.st h hlt
        have hps := HSZ.out p (List.mem_of_getElem? hp)
        have hw2 : wrap64 (x - p.size) = x - p.size := by simp only [wrap64]; omega
        by_cases hb : x - (p.size : Int) < 0
        · have hfin := hide (hs.out.symm.trans (szGo_bad hp hb))
          clear hp
          go_wp2
          go_ret
          exact ⟨ret_i hfin.out.symm, q, rfl⟩
        · have hst := hide ((szGo_go hp hb).symm.trans hs.out)
          clear hp
          go_wp2
          go_roundw
          case rel => exact ⟨k + 1, q, x - p.size, by omega, by go_num, by go_num, by omega, by omega, hst, rfl⟩
          case measure => simp [intOf]; omega
      · have hfin := hide (show szS ps left = x by have := hs.out; rw [List.drop_of_length_le (by have := HL.out; omega)] at this; exact this.symm)
        go_wp2
        go_ret
        exact ⟨ret_i hfin.out.symm, q, rfl⟩
end Go.Proofs.Ythjdigiaajdnbaa
