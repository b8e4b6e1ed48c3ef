/- Contracts of szDocument and of IsDocument of the program and of the reference. For slices of at most 2^40 elements. -/
import Derived.Test.YthjdigiaajdnbaaDocE
namespace Go.Proofs.Ythjdigiaajdnbaa
open Go.RowKit Go.WideShapes Go.ChangeShapes Go.Deep
set_option linter.unusedSimpArgs false
set_option linter.unusedVariables false
set_option maxRecDepth 100000
theorem szIntS_ok {A : Option Addr} {n c : Nat} {left : Int} (w : World) (hl0 : 0 ≤ left) (hl1 : left ≤ 1048576) (hn : (n : Int) ≤ left) :
    Calls Try.prog 45 #[.slice A n c, .int .i64 left] w fun e w' => e = .returned (.int .i64 (left - n)) ∧ w = w' := by
  have hw : wrap64 (left - n) = left - n := by simp only [wrap64]; omega
  have h1 : ¬ (left - n < 0) := by omega
  go_enter Try.func45, Try.ntmps45
  go_wp2
  go_ret
  exact ⟨rfl, rfl⟩
theorem szIntS_no {A : Option Addr} {n c : Nat} {left : Int} (w : World) (hl0 : 0 ≤ left) (hl1 : left ≤ 1048576) (hn : n ≤ 9223372036854775807) (hg : left < (n : Int)) :
    Calls Try.prog 45 #[.slice A n c, .int .i64 left] w fun e w' => e = .returned (.int .i64 (-1)) ∧ w = w' := by
  have hw : wrap64 (left - n) = left - n := by simp only [wrap64]; omega
  have h1 : left - n < 0 := by omega
  go_enter Try.func45, Try.ntmps45
  go_wp2
  go_ret
  exact ⟨rfl, rfl⟩
def isDoc (t : Int) (ps : List ByteArray) (ss : List Int) : Bool := ps.all (fun p => decide (p.size ≤ 40)) && ss.all (fun x => inR x 1 1000000000000) && inR t 0 999 && inR (ps.length : Int) 1 6 && decide (ss.length = ps.length)
theorem isDoc_part {t : Int} {ps : List ByteArray} {ss : List Int} {k : Nat} {p : ByteArray} (hp : ps[k]? = some p) (h : 40 < p.size) : isDoc t ps ss = false := by
  unfold isDoc
  rw [show ps.all (fun p => decide (p.size ≤ 40)) = false by rw [List.all_eq_false]; exact ⟨p, List.mem_of_getElem? hp, by simp; omega⟩]
  simp
theorem isDoc_salt {t : Int} {ps : List ByteArray} {ss : List Int} {k : Nat} {x : Int} (hp : ss[k]? = some x) (h : inR x 1 1000000000000 = false) : isDoc t ps ss = false := by
  unfold isDoc
  rw [show ss.all (fun x => inR x 1 1000000000000) = false by rw [List.all_eq_false]; exact ⟨x, List.mem_of_getElem? hp, by simp [h]⟩]
  simp
theorem isDoc_rest {t : Int} {ps : List ByteArray} {ss : List Int} (h1 : ∀ (j : Nat) (p : ByteArray), ps[j]? = some p → p.size ≤ 40) (h2 : ∀ (j : Nat) (x : Int), ss[j]? = some x → inR x 1 1000000000000 = true) : isDoc t ps ss = (inR t 0 999 && inR (ps.length : Int) 1 6 && decide (ss.length = ps.length)) := by
  unfold isDoc
  rw [show ps.all (fun p => decide (p.size ≤ 40)) = true by rw [List.all_eq_true]; intro p hp; obtain ⟨j, hj⟩ := List.mem_iff_getElem?.1 hp; simpa using h1 j p hj]
  rw [show ss.all (fun x => inR x 1 1000000000000) = true by rw [List.all_eq_true]; intro p hp; obtain ⟨j, hj⟩ := List.mem_iff_getElem?.1 hp; exact h2 j p hj]
  simp
theorem all_step {α : Type} {l : List α} {Q : α → Prop} {k : Nat} {x : α} (h : ∀ (j : Nat) (p : α), j < k → l[j]? = some p → Q p) (hx : l[k]? = some x) (hq : Q x) : ∀ (j : Nat) (p : α), j < k + 1 → l[j]? = some p → Q p := by
  intro j p hj hp
  rcases Nat.lt_or_ge j k with h1 | h1
  · exact h j p h1 hp
  · obtain rfl : j = k := by omega
    rw [hx] at hp
    injection hp with e
    exact e ▸ hq
theorem all_end {α : Type} {l : List α} {Q : α → Prop} {k : Nat} (h : ∀ (j : Nat) (p : α), j < k → l[j]? = some p → Q p) (hk : l.length ≤ k) : ∀ (j : Nat) (p : α), l[j]? = some p → Q p := fun j p hj => h j p (by have := get_lt hj; omega) hj
set_option maxHeartbeats 4000000 in
theorem specIsDocument_any {P S : Option Addr} {n m c d : Nat} {t : Int} {ps : List ByteArray} {ss : List Int} {w : World} (h1 : Rd w 1 P n (sts ps)) (h2 : Rd w 1 S m (ints ss)) (hn : n ≤ 1099511627776) (hm : m ≤ 1099511627776) :
    Calls Try.prog 36 #[doV t P S n m c d] w fun e w' => e = .returned (.bool (isDoc t ps ss)) ∧ Below w.heap.size w w' := by
  have HP := hide h1.maplen
  have HS := hide h2.maplen
  obtain ⟨W1, hW_W1⟩ : ∃ W1, w.alloc (.cells #[.int .i64 t, .slice P n c, .slice S m d] 27) = W1 := ⟨_, rfl⟩
  have hc_W10 : W1.cell? ⟨w.heap.size, 0, none⟩ = some (.int .i64 t) := by rw [← hW_W1]; simp
  have hc_W11 : W1.cell? ⟨w.heap.size, 1, none⟩ = some (.slice P n c) := by rw [← hW_W1]; simp
  have hc_W12 : W1.cell? ⟨w.heap.size, 2, none⟩ = some (.slice S m d) := by rw [← hW_W1]; simp
  have hs_W1 : w.heap.size < W1.heap.size := by rw [← hW_W1]; simp
  have hb_W1 : Below w.heap.size w W1 := by rw [← hW_W1]; repeat (first | exact Below.refl _ _ | assumption | refine Below.next_ ?_ ?_ (by assumption) | refine Below.drew ?_ | refine below_drewN ?_ _ | refine Below.alloc ?_ ?_ _ | refine Below.setCell ?_ ?_ _ | omega | (simp <;> omega) | (simp at * <;> omega))
  have HW_W1 := hide hW_W1
  clear hW_W1
  have k1 := h1.below hb_W1
  have k2 := h2.below hb_W1
  go_enter Try.func36, Try.ntmps36
  go_wp2_with fail
  rw [HW_W1.out]
  clear HW_W1
  go_loopw [3] (fun i wr => ∃ (k q : Nat), k ≤ n ∧ i = .int .i64 k ∧ Hid (∀ (j : Nat) (p : ByteArray), j < k → ps[j]? = some p → p.size ≤ 40) ∧ wr = W1.drewN q) (fun i _ => n - (intOf i).toNat)
  case atStart => exact ⟨0, 0, Nat.zero_le _, rfl, (fun j p hj => absurd hj (Nat.not_lt_zero _)), rfl⟩
  case round =>
    obtain ⟨k, q, hk, rfl, hall, rfl⟩ := hrel
    by_cases hlt : k < n
    · obtain ⟨ad, p, rfl, hp, hcp⟩ := Rd.st k1 hlt
      have hkn : (k : Int) < (n : Int) := by omega
      have hk0 : (0 : Int) ≤ (k : Int) := by omega
      by_cases hb : 40 < p.size
      · have hfin := hide (isDoc_part (t := t) (ss := ss) hp hb)
        have hb' : (40 : Int) < (p.size : Int) := by omega
        clear hp hb
        go_wp2_with fail
        go_ret
        exact ⟨ret_b hfin.out.symm, by repeat (first | exact Below.refl _ _ | assumption | refine Below.next_ ?_ ?_ (by assumption) | refine Below.drew ?_ | refine below_drewN ?_ _ | refine Below.alloc ?_ ?_ _ | refine Below.setCell ?_ ?_ _ | omega | (dsimp only; omega) | (simp <;> omega) | (simp at * <;> omega))⟩
      · have hst := hide (all_step hall.out hp (show p.size ≤ 40 by omega))
        have hb' : ¬ (40 : Int) < (p.size : Int) := by omega
        clear hp hb
        go_wp2_with fail
        go_roundw
        case rel => exact ⟨k + 1, q, by omega, by go_num, hst, rfl⟩
        case measure => simp [intOf]; omega
    · have hA := hide (all_end hall.out (by have := HP.out; omega))
      have hkn : ¬ (k : Int) < (n : Int) := by omega
      clear hall
      go_wp2_with fail
      go_loopw [4] (fun i wr => ∃ (k2 q : Nat), k2 ≤ m ∧ i = .int .i64 k2 ∧ Hid (∀ (j : Nat) (x : Int), j < k2 → ss[j]? = some x → inR x 1 1000000000000 = true) ∧ wr = W1.drewN q) (fun i _ => m - (intOf i).toNat)
      case atStart => exact ⟨0, q, Nat.zero_le _, rfl, (fun j p hj => absurd hj (Nat.not_lt_zero _)), rfl⟩
      case round =>
        obtain ⟨k3, q2, hk3, rfl, hall, rfl⟩ := hrel
        by_cases hlt2 : k3 < m
        · obtain ⟨ad, x, rfl, hx, hcx⟩ := Rd.int k2 hlt2
          have hkn2 : (k3 : Int) < (m : Int) := by omega
          have hk02 : (0 : Int) ≤ (k3 : Int) := by omega
          have HX := hide hx
          clear hx
          cases hin : inR x 1 1000000000000 with
          | false =>
            have hfin := hide (isDoc_salt (t := t) (ps := ps) HX.out hin)
            go_wp2_with (go_at_call 67; refine (l1In_any _ _ _ _).mono ?_; rintro e w' ⟨rfl, rfl⟩)
            go_ret
            exact ⟨ret_b hfin.out.symm, by repeat (first | exact Below.refl _ _ | assumption | refine Below.next_ ?_ ?_ (by assumption) | refine Below.drew ?_ | refine below_drewN ?_ _ | refine Below.alloc ?_ ?_ _ | refine Below.setCell ?_ ?_ _ | omega | (dsimp only; omega) | (simp <;> omega) | (simp at * <;> omega))⟩
          | true =>
            have hst := hide (all_step (Q := fun x => inR x 1 1000000000000 = true) hall.out HX.out hin)
            go_wp2_with (go_at_call 67; refine (l1In_any _ _ _ _).mono ?_; rintro e w' ⟨rfl, rfl⟩)
            go_roundw
            case rel => exact ⟨k3 + 1, q2, by omega, by go_num, hst, rfl⟩
            case measure => simp [intOf]; omega
        · have hB := hide (all_end hall.out (by have := HS.out; omega))
          have hkn2 : ¬ (k3 : Int) < (m : Int) := by omega
          clear hall
          have hres := hide (isDoc_rest (t := t) hA.out hB.out)
          have hmn : ((m : Int) == (n : Int)) = decide (ss.length = ps.length) := by rw [HS.out, HP.out]; by_cases h : m = n <;> simp [h] <;> omega
          have hln : (ps.length : Int) = (n : Int) := by rw [HP.out]
          have hfin := hide (show isDoc t ps ss = (inR t 0 999 && inR (n : Int) 1 6 && ((m : Int) == (n : Int))) by rw [hres.out, hln, hmn])
          clear hmn hln hres
          cases g1 : inR t 0 999 with
          | false =>
            go_wp2_with (go_at_call 67; refine (l1In_any _ _ _ _).mono ?_; rintro e w' ⟨rfl, rfl⟩)
            go_ret
            exact ⟨ret_b (by rw [hfin.out, g1]; simp), by repeat (first | exact Below.refl _ _ | assumption | refine Below.next_ ?_ ?_ (by assumption) | refine Below.drew ?_ | refine below_drewN ?_ _ | refine Below.alloc ?_ ?_ _ | refine Below.setCell ?_ ?_ _ | omega | (dsimp only; omega) | (simp <;> omega) | (simp at * <;> omega))⟩
          | true =>
            cases g2 : inR (n : Int) 1 6 with
            | false =>
              go_wp2_with (go_at_call 67; refine (l1In_any _ _ _ _).mono ?_; rintro e w' ⟨rfl, rfl⟩)
              go_ret
              exact ⟨ret_b (by rw [hfin.out, g1, g2]; simp), by repeat (first | exact Below.refl _ _ | assumption | refine Below.next_ ?_ ?_ (by assumption) | refine Below.drew ?_ | refine below_drewN ?_ _ | refine Below.alloc ?_ ?_ _ | refine Below.setCell ?_ ?_ _ | omega | (dsimp only; omega) | (simp <;> omega) | (simp at * <;> omega))⟩
            | true =>
              go_wp2_with (go_at_call 67; refine (l1In_any _ _ _ _).mono ?_; rintro e w' ⟨rfl, rfl⟩)
              go_ret
              exact ⟨ret_b (by rw [hfin.out, g1, g2]; simp), by repeat (first | exact Below.refl _ _ | assumption | refine Below.next_ ?_ ?_ (by assumption) | refine Below.drew ?_ | refine below_drewN ?_ _ | refine Below.alloc ?_ ?_ _ | refine Below.setCell ?_ ?_ _ | omega | (dsimp only; omega) | (simp <;> omega) | (simp at * <;> omega))⟩
theorem isDoc_title {t : Int} {ps : List ByteArray} {ss : List Int} (h : inR t 0 999 = false) : isDoc t ps ss = false := by simp [isDoc, h]
theorem isDoc_len {t : Int} {ps : List ByteArray} {ss : List Int} {n : Nat} (hn : ps.length = n) (h : inR (n : Int) 1 6 = false) : isDoc t ps ss = false := by subst hn; simp [isDoc, h]
theorem isDoc_ne {t : Int} {ps : List ByteArray} {ss : List Int} (h : ss.length ≠ ps.length) : isDoc t ps ss = false := by simp [isDoc, h]
set_option maxHeartbeats 4000000 in
theorem implIsDocument_any {P S : Option Addr} {n m c d : Nat} {t : Int} {ps : List ByteArray} {ss : List Int} {w : World} (h1 : Rd w 1 P n (sts ps)) (h2 : Rd w 1 S m (ints ss)) (hn : n ≤ 1099511627776) (hm : m ≤ 1099511627776) :
    Calls Try.prog 10 #[doV t P S n m c d] w fun e w' => e = .returned (.bool (isDoc t ps ss)) ∧ Below w.heap.size w w' := by
  have HP := hide h1.maplen
  have HS := hide h2.maplen
  cases g1 : inR t 0 999 with
  | false =>
    have hfin := hide (isDoc_title (ps := ps) (ss := ss) g1)
    go_enter Try.func10, Try.ntmps10
    go_wp2_with (go_at_call 39; refine (implInRange_any _ _ _ _).mono ?_; rintro e w' ⟨rfl, rfl⟩)
    go_ret
    exact ⟨ret_b hfin.out.symm, by repeat (first | exact Below.refl _ _ | assumption | refine Below.next_ ?_ ?_ (by assumption) | refine Below.drew ?_ | refine below_drewN ?_ _ | refine Below.alloc ?_ ?_ _ | refine Below.setCell ?_ ?_ _ | omega | (dsimp only; omega) | (simp <;> omega) | (simp at * <;> omega))⟩
  | true =>
    cases g2 : inR (n : Int) 1 6 with
    | false =>
      have hfin := hide (isDoc_len (t := t) (ss := ss) HP.out g2)
      go_enter Try.func10, Try.ntmps10
      go_wp2_with (go_at_call 39; refine (implInRange_any _ _ _ _).mono ?_; rintro e w' ⟨rfl, rfl⟩)
      go_ret
      exact ⟨ret_b hfin.out.symm, by repeat (first | exact Below.refl _ _ | assumption | refine Below.next_ ?_ ?_ (by assumption) | refine Below.drew ?_ | refine below_drewN ?_ _ | refine Below.alloc ?_ ?_ _ | refine Below.setCell ?_ ?_ _ | omega | (dsimp only; omega) | (simp <;> omega) | (simp at * <;> omega))⟩
    | true =>
      by_cases hmn : m = n
      · subst hmn
        obtain ⟨W1, hW_W1⟩ : ∃ W1, w.alloc (.cells #[.int .i64 t, .slice P m c, .slice S m d] 27) = W1 := ⟨_, rfl⟩
        have hc_W10 : W1.cell? ⟨w.heap.size, 0, none⟩ = some (.int .i64 t) := by rw [← hW_W1]; simp
        have hc_W11 : W1.cell? ⟨w.heap.size, 1, none⟩ = some (.slice P m c) := by rw [← hW_W1]; simp
        have hc_W12 : W1.cell? ⟨w.heap.size, 2, none⟩ = some (.slice S m d) := by rw [← hW_W1]; simp
        have hs_W1 : w.heap.size < W1.heap.size := by rw [← hW_W1]; simp
        have hb_W1 : Below w.heap.size w W1 := by rw [← hW_W1]; repeat (first | exact Below.refl _ _ | assumption | refine Below.next_ ?_ ?_ (by assumption) | refine Below.drew ?_ | refine below_drewN ?_ _ | refine Below.alloc ?_ ?_ _ | refine Below.setCell ?_ ?_ _ | omega | (simp <;> omega) | (simp at * <;> omega))
        have HW_W1 := hide hW_W1
        clear hW_W1
        have k1 := h1.below hb_W1
        have k2 := h2.below hb_W1
        go_enter Try.func10, Try.ntmps10
        go_wp2_with (go_at_call 39; refine (implInRange_any _ _ _ _).mono ?_; rintro e w' ⟨rfl, rfl⟩)
        rw [HW_W1.out]
        clear HW_W1
        go_loopw [28] (fun i wr => ∃ (k q : Nat), k ≤ m ∧ i = .int .i64 k ∧ Hid (∀ (j : Nat) (p : ByteArray), j < k → ps[j]? = some p → p.size ≤ 40) ∧ Hid (∀ (j : Nat) (x : Int), j < k → ss[j]? = some x → inR x 1 1000000000000 = true) ∧ wr = W1.drewN q) (fun i _ => m - (intOf i).toNat)
        case atStart => exact ⟨0, 0, Nat.zero_le _, rfl, (fun j p hj => absurd hj (Nat.not_lt_zero _)), (fun j p hj => absurd hj (Nat.not_lt_zero _)), rfl⟩
        case round =>
          obtain ⟨k, q, hk, rfl, hall, halls, rfl⟩ := hrel
          by_cases hlt : k < m
          · obtain ⟨ad, p, rfl, hp, hcp⟩ := Rd.st k1 hlt
            obtain ⟨bd, x, rfl, hx, hcx⟩ := Rd.int k2 hlt
            have hkn : (k : Int) < (m : Int) := by omega
            have hk0 : (0 : Int) ≤ (k : Int) := by omega
            by_cases hb : 40 < p.size
            · have hfin := hide (isDoc_part (t := t) (ss := ss) hp hb)
              have hb' : (40 : Int) < (p.size : Int) := by omega
              clear hp hb hx
              go_wp2_with (go_at_call 39; refine (implInRange_any _ _ _ _).mono ?_; rintro e w' ⟨rfl, rfl⟩)
              go_ret
              exact ⟨ret_b hfin.out.symm, by repeat (first | exact Below.refl _ _ | assumption | refine Below.next_ ?_ ?_ (by assumption) | refine Below.drew ?_ | refine below_drewN ?_ _ | refine Below.alloc ?_ ?_ _ | refine Below.setCell ?_ ?_ _ | omega | (dsimp only; omega) | (simp <;> omega) | (simp at * <;> omega))⟩
            · have hst := hide (all_step hall.out hp (show p.size ≤ 40 by omega))
              have hb' : ¬ (40 : Int) < (p.size : Int) := by omega
              have HX := hide hx
              clear hp hb hx
              cases hin : inR x 1 1000000000000 with
              | false =>
                have hfin := hide (isDoc_salt (t := t) (ps := ps) HX.out hin)
                go_wp2_with (go_at_call 39; refine (implInRange_any _ _ _ _).mono ?_; rintro e w' ⟨rfl, rfl⟩)
                go_ret
                exact ⟨ret_b hfin.out.symm, by repeat (first | exact Below.refl _ _ | assumption | refine Below.next_ ?_ ?_ (by assumption) | refine Below.drew ?_ | refine below_drewN ?_ _ | refine Below.alloc ?_ ?_ _ | refine Below.setCell ?_ ?_ _ | omega | (dsimp only; omega) | (simp <;> omega) | (simp at * <;> omega))⟩
              | true =>
                have hst2 := hide (all_step (Q := fun x => inR x 1 1000000000000 = true) halls.out HX.out hin)
                go_wp2_with (go_at_call 39; refine (implInRange_any _ _ _ _).mono ?_; rintro e w' ⟨rfl, rfl⟩)
                go_roundw
                case rel => exact ⟨k + 1, q, by omega, by go_num, hst, hst2, rfl⟩
                case measure => simp [intOf]; omega
          · have hres := hide (isDoc_rest (t := t) (all_end hall.out (by have := HP.out; omega)) (all_end halls.out (by have := HS.out; omega)))
            have hfin := hide (show isDoc t ps ss = true by rw [hres.out, HP.out, HS.out, g1, g2]; simp)
            have hkn : ¬ (k : Int) < (m : Int) := by omega
            go_wp2_with (go_at_call 39; refine (implInRange_any _ _ _ _).mono ?_; rintro e w' ⟨rfl, rfl⟩)
            go_ret
            exact ⟨ret_b hfin.out.symm, by repeat (first | exact Below.refl _ _ | assumption | refine Below.next_ ?_ ?_ (by assumption) | refine Below.drew ?_ | refine below_drewN ?_ _ | refine Below.alloc ?_ ?_ _ | refine Below.setCell ?_ ?_ _ | omega | (dsimp only; omega) | (simp <;> omega) | (simp at * <;> omega))⟩
      · have hq : ((m : Int) == (n : Int)) = false := by simpa using (by omega : ¬ (m : Int) = n)
        have hfin := hide (isDoc_ne (t := t) (show ss.length ≠ ps.length by rw [HP.out, HS.out]; exact hmn))
        go_enter Try.func10, Try.ntmps10
        go_wp2_with (go_at_call 39; refine (implInRange_any _ _ _ _).mono ?_; rintro e w' ⟨rfl, rfl⟩)
        go_ret
        exact ⟨ret_b hfin.out.symm, by repeat (first | exact Below.refl _ _ | assumption | refine Below.next_ ?_ ?_ (by assumption) | refine Below.drew ?_ | refine below_drewN ?_ _ | refine Below.alloc ?_ ?_ _ | refine Below.setCell ?_ ?_ _ | omega | (dsimp only; omega) | (simp <;> omega) | (simp at * <;> omega))⟩
end Go.Proofs.Ythjdigiaajdnbaa
