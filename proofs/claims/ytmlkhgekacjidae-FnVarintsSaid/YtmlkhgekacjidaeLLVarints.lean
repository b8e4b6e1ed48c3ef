/- An integer is decoded from its varint, and a decoded varint is the encoding of its integer. For every input. -/
import Derived.Test.YtmlkhgekacjidaeArgs
import Derived.Test.YtmlkhgekacjidaeDr1
import Derived.Test.YtmlkhgekacjidaePlU
import Derived.Test.YtmlkhgekacjidaeReadI
import Derived.Test.YtmlkhgekacjidaeReadB
import Derived.Test.YtmlkhgekacjidaeEqI
import Derived.BigQuiet
import Derived.Deep.RegionHeld3
namespace Go.Proofs.Ytmlkhgekacjidae.lawFnVarints
open Go.ChangeShapes Go.WideShapes Go.ChangeAt Go.RowKit
set_option maxRecDepth 1000000
set_option linter.unusedSimpArgs false
set_option linter.unusedVariables false
theorem own : ownKnob Try.prog.godebug = none := by kernel_rfl
theorem own_capV {w : World} {b : Nat} {e : TypeId} {s n c : Nat} {A : Option Addr} {xs : List Value} (h : w.ownsRow b e s (.slice A n c) n xs) : n ≤ c := by
  rcases h.2 with ⟨h1, h2⟩ | ⟨g, cap, cur, hv, _, _, hn, _⟩
  · subst h2; exact Nat.zero_le _
  · injection hv with _ _ hc; omega
set_option maxHeartbeats 8000000 in
theorem law_any {v0 : Value} {W : World} (i0 : InBytes W v0) (w : World) (hWw : w = W) :
    Calls Try.prog 4 #[v0] w fun e w' => e = .returned (.bool true) ∧ Below w.heap.size w w' := by
  subst hWw
  obtain ⟨A0, n0, c0, l0, rfl, hn0, hr0, hI0⟩ := i0
  obtain ⟨iByte, hiByte, hzByte0, hzByte1, hzByte2⟩ := info_parts Byte_info
  by_cases hg0 : n0 ≤ 1048576
  rotate_left
  · have hg0' : (1048576 : Int) < (n0 : Int) := by omega
    go_enter Try.func4, Try.ntmps4
    go_wp2_with fail
    refine (big_any _).mono ?_
    rintro e _ ⟨rfl, rfl⟩
    go_wp2_with fail
    go_ret
    exact ⟨rfl, by repeat (first | exact Below.refl _ _ | assumption | refine Below.next_ ?_ ?_ (by assumption) | refine Below.drew ?_ | refine below_drewN ?_ _ | refine Below.alloc ?_ ?_ _ | refine Below.setCell ?_ ?_ _ | omega | (dsimp only; omega) | (simp <;> omega) | (simp at * <;> omega))⟩
  have hg0' : ¬ (1048576 : Int) < (n0 : Int) := by omega
  go_enter Try.func4, Try.ntmps4
  go_wp2_with fail
  refine (big_any _).mono ?_
  rintro e _ ⟨rfl, rfl⟩
  go_wp2_with fail
  refine (DrawAppendUvarint_any hr0 hg0 hI0).mono ?_
  rintro e w1 ⟨B, m, d, n, rfl, hm, hn, bl, ho, hbl, hb1⟩
  have hz1 := hb1.size
  have HL := hide (show bl.length = m from (Rd.of_own ho).maplen)
  obtain ⟨hnlo, hnhi⟩ := hn
  go_wp2_with fail
  refine (implAppendUvarint_any (Rd.of_own ho) (by omega)).mono ?_
  rintro e w2 ⟨B2, m2, d2, rfl, ho2, hb2⟩
  have hz2 := hb2.size
  have HM2 := hide (show (appU bl n).length = m2 from (Rd.of_own ho2).maplen)
  have hm2 : m2 ≤ 8 := by have := appU_len bl n; have := HM2.out; have := HL.out; omega
  have hB2 : ∀ x ∈ appU bl n, 0 ≤ x ∧ x ≤ 255 := by
    by_cases h : 0 ≤ n
    · obtain ⟨k, rfl⟩ := Int.eq_ofNat_of_zero_le h
      exact appU_bytes hbl
    · unfold appU
      rw [if_neg (by rw [inR_false.2 (by omega)]; simp)]
      exact hbl
  go_wp2_with fail
  refine (implReadUvarint_any (Rd.of_own ho2) (by omega) hB2 ⟨by omega, by omega⟩).mono ?_
  rintro e _ ⟨rfl, rfl⟩
  have hcase : (n < 0 ∨ 1000000000000 < n) ∧ appU bl n = bl ∧ rdU (appU bl n) (m : Int) = (0, 0, false) ∨ ¬ n < 0 ∧ ¬ 1000000000000 < n ∧ rdU (appU bl n) (m : Int) = (n, (m2 : Int), true) := by
    by_cases h : 0 ≤ n ∧ n ≤ 1000000000000
    · right
      obtain ⟨k, rfl⟩ := Int.eq_ofNat_of_zero_le h.1
      refine ⟨by omega, by omega, ?_⟩
      have hk : k ≤ 1000000000000 := by omega
      have e1 : appU bl (k : Int) = bl ++ uvl k := by unfold appU; rw [if_pos (inR_true.2 h)]; simp
      have h2 := rdU_uvl (b := bl) (tail := []) (m := k) hk
      rw [List.append_nil] at h2
      have h3 := HM2.out
      rw [e1] at h3
      rw [e1, ← HL.out, h2, ← h3]
      simp
    · left
      have e1 : appU bl n = bl := by unfold appU; rw [if_neg (by rw [inR_false.2 h]; simp)]
      refine ⟨by omega, e1, ?_⟩
      rw [e1]
      exact rdU_end (by rw [HL.out]; omega)
  rcases hcase with ⟨hbad, e1, hr⟩ | ⟨hn0_, hn1_, hr⟩
  · have HR := hide hr
    have HE := hide e1
    clear hr e1
    rw [HR.out]
    rw [HE.out] at ho2
    unfold triV
    dsimp only
    by_cases hlow : n < 0
    · go_wp2_with fail
      refine (sameBytes_any (Rd.of_own ho2) ((Rd.of_own ho).below (by repeat (first | exact Below.refl _ _ | assumption | refine Below.next_ ?_ ?_ (by assumption) | refine Below.drew ?_ | refine below_drewN ?_ _ | refine Below.alloc ?_ ?_ _ | refine Below.setCell ?_ ?_ _ | omega | (dsimp only; omega) | (simp <;> omega) | (simp at * <;> omega)))) (by omega) (by omega)).mono ?_
      rintro e _ ⟨rfl, q3, rfl⟩
      go_wp2_with fail
      refine (DrawReadUvarint_any (hr0.below (by repeat (first | exact Below.refl _ _ | assumption | refine Below.next_ ?_ ?_ (by assumption) | refine Below.drew ?_ | refine below_drewN ?_ _ | refine Below.alloc ?_ ?_ _ | refine Below.setCell ?_ ?_ _ | omega | (dsimp only; omega) | (simp <;> omega) | (simp at * <;> omega)))) hg0 hI0).mono ?_
      rintro e w4 ⟨B4, m4, d4, off, rfl, hm4, hoff, yl, ho4, hyl, hb4⟩
      have hz4 := hb4.size
      obtain ⟨hof0, hof1⟩ := hoff
      have HL4 := hide (show yl.length = m4 from (Rd.of_own ho4).maplen)
      have hbB : Below w.heap.size w w4 := by repeat (first | exact Below.refl _ _ | assumption | refine Below.next_ ?_ ?_ (by assumption) | refine Below.drew ?_ | refine below_drewN ?_ _ | refine Below.alloc ?_ ?_ _ | refine Below.setCell ?_ ?_ _ | omega | (dsimp only; omega) | (simp <;> omega) | (simp at * <;> omega))
      go_wp2_with fail
      refine (implReadUvarint_any (Rd.of_own ho4) (by omega) hyl ⟨hof0, hof1⟩).mono ?_
      rintro e _ ⟨rfl, rfl⟩
      rcases hr4 : rdU yl off with ⟨v, e4, c4⟩
      cases c4 with
      | false =>
        obtain ⟨rfl, rfl⟩ := rdU_false hr4
        have HR4 := hide hr4
        clear hr4
        unfold triV
        dsimp only
        go_wp2_with fail
        refine (specReadUvarint_any (Rd.of_own ho4) (by omega) hyl ⟨hof0, hof1⟩).mono ?_
        rintro e _ ⟨rfl, rfl⟩
        rw [HR4.out]
        unfold triV
        dsimp only
        go_wp2_with fail
        go_ret
        exact ⟨rfl, hbB⟩
      | true =>
        obtain ⟨f0, f1, f2, f3, f4, f5⟩ := rdU_back hyl hr4
        obtain ⟨q, rfl⟩ := Int.eq_ofNat_of_zero_le f0
        obtain ⟨r, rfl⟩ := Int.eq_ofNat_of_zero_le (show 0 ≤ e4 by omega)
        have hqr : q < r := by omega
        have hrm : r ≤ m4 := by have := HL4.out; omega
        have F5 := hide (show (yl.drop q).take (r - q) = appU [] v by rw [← f5]; congr 1; omega)
        clear hr4 f5 f2
        have hcap := own_capV ho4
        have ho106 := World.ownsRow_lit (base := w4.heap.size) (e := 5) (size := 1) w4 #[] 0 (Nat.le_refl _) (by unfold maxLen; omega) rfl
        obtain ⟨ad, rfl, -⟩ := (Rd.of_own ho4).2 (by omega)
        have HSUB := hide (Rd.sub (Rd.of_own ho4) (show q + (r - q) ≤ m4 by omega))
        rw [F5.out] at HSUB
        have hdq : ¬ d4 = q := by omega
        have i1 : (q : Int) < (r : Int) := by omega
        have i2 : (r : Int) ≤ (m4 : Int) := by omega
        have i3 : (0 : Int) ≤ (q : Int) := by omega
        have i4 : (q : Int) ≤ (r : Int) := by omega
        have i5 : (r : Int) ≤ (d4 : Int) := by omega
        have hm4' : r - q ≤ 1099511627776 := by omega
        have hL5 : (appU [] v).length ≤ 6 := by simpa using appU_len [] v
        have H4 := hide ho4
        clear ho4 ho106 hyl HL4 f0 f1 hof0 hof1 hrm hqr
        unfold triV
        dsimp only
        go_wp2_with fail
        go_region_held3 (fun _ => True) (trivial) (first
          | (go_at_call 24; refine (implAppendUvarint_any (l := []) (show Rd _ 1 _ 0 (u8s []) from Rd.nil _ _ _) (by omega)).mono ?_; rintro e w6 ⟨B6, m6, d6, rfl, ho6, hb6⟩; have hz6 := hb6.size; (try simp at hz6); have hm6 : m6 ≤ 1099511627776 := by (have h := (Rd.of_own ho6).maplen; omega))
          | (go_at_call 26; refine (sameBytes_any (Rd.of_own ho6) (HSUB.out.below ?_) hm6 hm4').mono ?_; (focus (repeat (first | exact Below.refl _ _ | assumption | refine Below.next_ ?_ ?_ (by assumption) | refine Below.drew ?_ | refine below_drewN ?_ _ | refine Below.alloc ?_ ?_ _ | refine Below.setCell ?_ ?_ _ | omega | (dsimp only; omega) | (simp <;> omega) | (simp at * <;> omega)))); rintro e _ ⟨rfl, q7, rfl⟩))
        go_wp2_with fail
        go_ret
        exact ⟨ret_b (by simp), by repeat (first | exact Below.refl _ _ | assumption | refine Below.next_ ?_ ?_ (by assumption) | refine Below.drew ?_ | refine below_drewN ?_ _ | refine Below.alloc ?_ ?_ _ | refine Below.setCell ?_ ?_ _ | omega | (dsimp only; omega) | (simp <;> omega) | (simp at * <;> omega))⟩
    · have hhigh : (1000000000000 : Int) < n := by omega
      go_wp2_with fail
      refine (sameBytes_any (Rd.of_own ho2) ((Rd.of_own ho).below (by repeat (first | exact Below.refl _ _ | assumption | refine Below.next_ ?_ ?_ (by assumption) | refine Below.drew ?_ | refine below_drewN ?_ _ | refine Below.alloc ?_ ?_ _ | refine Below.setCell ?_ ?_ _ | omega | (dsimp only; omega) | (simp <;> omega) | (simp at * <;> omega)))) (by omega) (by omega)).mono ?_
      rintro e _ ⟨rfl, q3, rfl⟩
      go_wp2_with fail
      refine (DrawReadUvarint_any (hr0.below (by repeat (first | exact Below.refl _ _ | assumption | refine Below.next_ ?_ ?_ (by assumption) | refine Below.drew ?_ | refine below_drewN ?_ _ | refine Below.alloc ?_ ?_ _ | refine Below.setCell ?_ ?_ _ | omega | (dsimp only; omega) | (simp <;> omega) | (simp at * <;> omega)))) hg0 hI0).mono ?_
      rintro e w4 ⟨B4, m4, d4, off, rfl, hm4, hoff, yl, ho4, hyl, hb4⟩
      have hz4 := hb4.size
      obtain ⟨hof0, hof1⟩ := hoff
      have HL4 := hide (show yl.length = m4 from (Rd.of_own ho4).maplen)
      have hbB : Below w.heap.size w w4 := by repeat (first | exact Below.refl _ _ | assumption | refine Below.next_ ?_ ?_ (by assumption) | refine Below.drew ?_ | refine below_drewN ?_ _ | refine Below.alloc ?_ ?_ _ | refine Below.setCell ?_ ?_ _ | omega | (dsimp only; omega) | (simp <;> omega) | (simp at * <;> omega))
      go_wp2_with fail
      refine (implReadUvarint_any (Rd.of_own ho4) (by omega) hyl ⟨hof0, hof1⟩).mono ?_
      rintro e _ ⟨rfl, rfl⟩
      rcases hr4 : rdU yl off with ⟨v, e4, c4⟩
      cases c4 with
      | false =>
        obtain ⟨rfl, rfl⟩ := rdU_false hr4
        have HR4 := hide hr4
        clear hr4
        unfold triV
        dsimp only
        go_wp2_with fail
        refine (specReadUvarint_any (Rd.of_own ho4) (by omega) hyl ⟨hof0, hof1⟩).mono ?_
        rintro e _ ⟨rfl, rfl⟩
        rw [HR4.out]
        unfold triV
        dsimp only
        go_wp2_with fail
        go_ret
        exact ⟨rfl, hbB⟩
      | true =>
        obtain ⟨f0, f1, f2, f3, f4, f5⟩ := rdU_back hyl hr4
        obtain ⟨q, rfl⟩ := Int.eq_ofNat_of_zero_le f0
        obtain ⟨r, rfl⟩ := Int.eq_ofNat_of_zero_le (show 0 ≤ e4 by omega)
        have hqr : q < r := by omega
        have hrm : r ≤ m4 := by have := HL4.out; omega
        have F5 := hide (show (yl.drop q).take (r - q) = appU [] v by rw [← f5]; congr 1; omega)
        clear hr4 f5 f2
        have hcap := own_capV ho4
        have ho106 := World.ownsRow_lit (base := w4.heap.size) (e := 5) (size := 1) w4 #[] 0 (Nat.le_refl _) (by unfold maxLen; omega) rfl
        obtain ⟨ad, rfl, -⟩ := (Rd.of_own ho4).2 (by omega)
        have HSUB := hide (Rd.sub (Rd.of_own ho4) (show q + (r - q) ≤ m4 by omega))
        rw [F5.out] at HSUB
        have hdq : ¬ d4 = q := by omega
        have i1 : (q : Int) < (r : Int) := by omega
        have i2 : (r : Int) ≤ (m4 : Int) := by omega
        have i3 : (0 : Int) ≤ (q : Int) := by omega
        have i4 : (q : Int) ≤ (r : Int) := by omega
        have i5 : (r : Int) ≤ (d4 : Int) := by omega
        have hm4' : r - q ≤ 1099511627776 := by omega
        have hL5 : (appU [] v).length ≤ 6 := by simpa using appU_len [] v
        have H4 := hide ho4
        clear ho4 ho106 hyl HL4 f0 f1 hof0 hof1 hrm hqr
        unfold triV
        dsimp only
        go_wp2_with fail
        go_region_held3 (fun _ => True) (trivial) (first
          | (go_at_call 24; refine (implAppendUvarint_any (l := []) (show Rd _ 1 _ 0 (u8s []) from Rd.nil _ _ _) (by omega)).mono ?_; rintro e w6 ⟨B6, m6, d6, rfl, ho6, hb6⟩; have hz6 := hb6.size; (try simp at hz6); have hm6 : m6 ≤ 1099511627776 := by (have h := (Rd.of_own ho6).maplen; omega))
          | (go_at_call 26; refine (sameBytes_any (Rd.of_own ho6) (HSUB.out.below ?_) hm6 hm4').mono ?_; (focus (repeat (first | exact Below.refl _ _ | assumption | refine Below.next_ ?_ ?_ (by assumption) | refine Below.drew ?_ | refine below_drewN ?_ _ | refine Below.alloc ?_ ?_ _ | refine Below.setCell ?_ ?_ _ | omega | (dsimp only; omega) | (simp <;> omega) | (simp at * <;> omega)))); rintro e _ ⟨rfl, q7, rfl⟩))
        go_wp2_with fail
        go_ret
        exact ⟨ret_b (by simp), by repeat (first | exact Below.refl _ _ | assumption | refine Below.next_ ?_ ?_ (by assumption) | refine Below.drew ?_ | refine below_drewN ?_ _ | refine Below.alloc ?_ ?_ _ | refine Below.setCell ?_ ?_ _ | omega | (dsimp only; omega) | (simp <;> omega) | (simp at * <;> omega))⟩
  · have HR := hide hr
    clear hr
    rw [HR.out]
    unfold triV
    dsimp only
    go_wp2_with fail
    refine (DrawReadUvarint_any (hr0.below (by repeat (first | exact Below.refl _ _ | assumption | refine Below.next_ ?_ ?_ (by assumption) | refine Below.drew ?_ | refine below_drewN ?_ _ | refine Below.alloc ?_ ?_ _ | refine Below.setCell ?_ ?_ _ | omega | (dsimp only; omega) | (simp <;> omega) | (simp at * <;> omega)))) hg0 hI0).mono ?_
    rintro e w4 ⟨B4, m4, d4, off, rfl, hm4, hoff, yl, ho4, hyl, hb4⟩
    have hz4 := hb4.size
    obtain ⟨hof0, hof1⟩ := hoff
    have HL4 := hide (show yl.length = m4 from (Rd.of_own ho4).maplen)
    have hbB : Below w.heap.size w w4 := by repeat (first | exact Below.refl _ _ | assumption | refine Below.next_ ?_ ?_ (by assumption) | refine Below.drew ?_ | refine below_drewN ?_ _ | refine Below.alloc ?_ ?_ _ | refine Below.setCell ?_ ?_ _ | omega | (dsimp only; omega) | (simp <;> omega) | (simp at * <;> omega))
    go_wp2_with fail
    refine (implReadUvarint_any (Rd.of_own ho4) (by omega) hyl ⟨hof0, hof1⟩).mono ?_
    rintro e _ ⟨rfl, rfl⟩
    rcases hr4 : rdU yl off with ⟨v, e4, c4⟩
    cases c4 with
    | false =>
      obtain ⟨rfl, rfl⟩ := rdU_false hr4
      have HR4 := hide hr4
      clear hr4
      unfold triV
      dsimp only
      go_wp2_with fail
      refine (specReadUvarint_any (Rd.of_own ho4) (by omega) hyl ⟨hof0, hof1⟩).mono ?_
      rintro e _ ⟨rfl, rfl⟩
      rw [HR4.out]
      unfold triV
      dsimp only
      go_wp2_with fail
      go_ret
      exact ⟨rfl, hbB⟩
    | true =>
      obtain ⟨f0, f1, f2, f3, f4, f5⟩ := rdU_back hyl hr4
      obtain ⟨q, rfl⟩ := Int.eq_ofNat_of_zero_le f0
      obtain ⟨r, rfl⟩ := Int.eq_ofNat_of_zero_le (show 0 ≤ e4 by omega)
      have hqr : q < r := by omega
      have hrm : r ≤ m4 := by have := HL4.out; omega
      have F5 := hide (show (yl.drop q).take (r - q) = appU [] v by rw [← f5]; congr 1; omega)
      clear hr4 f5 f2
      have hcap := own_capV ho4
      have ho106 := World.ownsRow_lit (base := w4.heap.size) (e := 5) (size := 1) w4 #[] 0 (Nat.le_refl _) (by unfold maxLen; omega) rfl
      obtain ⟨ad, rfl, -⟩ := (Rd.of_own ho4).2 (by omega)
      have HSUB := hide (Rd.sub (Rd.of_own ho4) (show q + (r - q) ≤ m4 by omega))
      rw [F5.out] at HSUB
      have hdq : ¬ d4 = q := by omega
      have i1 : (q : Int) < (r : Int) := by omega
      have i2 : (r : Int) ≤ (m4 : Int) := by omega
      have i3 : (0 : Int) ≤ (q : Int) := by omega
      have i4 : (q : Int) ≤ (r : Int) := by omega
      have i5 : (r : Int) ≤ (d4 : Int) := by omega
      have hm4' : r - q ≤ 1099511627776 := by omega
      have hL5 : (appU [] v).length ≤ 6 := by simpa using appU_len [] v
      have H4 := hide ho4
      clear ho4 ho106 hyl HL4 f0 f1 hof0 hof1 hrm hqr
      unfold triV
      dsimp only
      go_wp2_with fail
      go_region_held3 (fun _ => True) (trivial) (first
        | (go_at_call 24; refine (implAppendUvarint_any (l := []) (show Rd _ 1 _ 0 (u8s []) from Rd.nil _ _ _) (by omega)).mono ?_; rintro e w6 ⟨B6, m6, d6, rfl, ho6, hb6⟩; have hz6 := hb6.size; (try simp at hz6); have hm6 : m6 ≤ 1099511627776 := by (have h := (Rd.of_own ho6).maplen; omega))
        | (go_at_call 26; refine (sameBytes_any (Rd.of_own ho6) (HSUB.out.below ?_) hm6 hm4').mono ?_; (focus (repeat (first | exact Below.refl _ _ | assumption | refine Below.next_ ?_ ?_ (by assumption) | refine Below.drew ?_ | refine below_drewN ?_ _ | refine Below.alloc ?_ ?_ _ | refine Below.setCell ?_ ?_ _ | omega | (dsimp only; omega) | (simp <;> omega) | (simp at * <;> omega)))); rintro e _ ⟨rfl, q7, rfl⟩))
      go_wp2_with fail
      go_ret
      exact ⟨ret_b (by simp), by repeat (first | exact Below.refl _ _ | assumption | refine Below.next_ ?_ ?_ (by assumption) | refine Below.drew ?_ | refine below_drewN ?_ _ | refine Below.alloc ?_ ?_ _ | refine Below.setCell ?_ ?_ _ | omega | (dsimp only; omega) | (simp <;> omega) | (simp at * <;> omega))⟩
theorem lifted (os : Os) (started : os.Started) (H : Type) (enc : TypeId × Value → H) :
    ReturnsInHanded {} Try.checked os 4 .any (Rows.fnVarintsSpec.pre6 enc Try.prog Try.f4 Rows.fnVarintsRow.domain false) (Rows.fnVarintsSpec.post enc Try.prog Try.f4 false true false false) := by
  refine returnsInHanded_of_change (C := Try.checked) own started (by kernel_rfl) Try.func4
    (ChangeSpec.witness6 (enc := enc) (C := Try.checked) false ⟨#[], #[.slice none 0 0], []⟩ 8 (by kernel_rfl) (by kernel_rfl) (by kernel_rfl) (by kernel_rfl)) ?_
  intro W base args ds gs before hval0 hW _ _
  have hval : ∀ (j : Nat) t v, Try.f4.params[j]? = some t → args[j]? = some v → Value.okWide Try.prog W .any base t v := hval0
  have hW' := hW
  obtain ⟨p, q, hA0, hV, rfl, _, _⟩ := hW
  have hA : DataW.TrodAll enc Try.prog W 0 (fun _ => true) true Try.f4.params.toList args.toList ds p := hA0
  have hlt : ∀ x ∈ p, x.block < W.heap.size := fun x hx => hW'.lt x (by simp [hx])
  have hkeep : ∀ W' : World, Below W.heap.size W W' → ∀ sp : Nat → Bool, (∀ x ∈ p ++ q, sp x.block = true) → DataW.TrodAll enc Try.prog W' 0 sp true Try.f4.params.toList args.toList ds p :=
    fun W' hb sp hsp => trodAll_stays laid hb _ _ _ _ (by kernel_rfl) hlt (fun x hx => hsp x (by simp [hx])) hA
  rw [Try.params4] at hA hval
  obtain ⟨v0, vs0, d0, ds0, p0, q0, hargs, rfl, rfl, h0, r0⟩ := trodAll_cons hA
  obtain ⟨rfl, rfl, rfl⟩ := trodAll_nil r0
  obtain rfl : args = #[v0] := by cases args; simp_all
  obtain ⟨rfl, rfl⟩ := trodVars_none hV
  have i0 : InBytes W v0 := InBytes.of (hval 0 22 v0 rfl rfl) h0
  refine (law_any i0 W rfl).mono fun e W' ⟨he, hb⟩ => ?_
  subst he
  exact ⟨_, rfl, post_of_below (pv := []) hW' (fun _ _ _ => (trodAll_cons_mk (shut_bool Try.underlying4 _) trodAll_mk0)) (hkeep W' hb) (fun _ _ => rfl) rfl
    hb (ok_one (by kernel_rfl) rfl (okWide_bool_mk Try.underlying4 _))⟩

theorem over : Rows.fnVarintsRow.holds Try.pinned (OpenSpec.ofChange Rows.fnVarintsSpec) :=
  OpenClaim.holds_of_wide 4 Try.f4 rfl rfl rfl rfl rfl rfl rfl ⟨rfl, rfl, rfl, rfl, rfl⟩ rfl rfl rfl rfl rfl (by kernel_rfl) Try.func4 (by kernel_rfl)
    (of_decide_eq_true (by kernel_rfl)) (by unfold Func.isWrapper; first | (rw [if_pos (by decide +kernel)]; kernel_rfl) | (rw [if_neg (by decide +kernel)]; exact ⟨rfl, rfl⟩))
    (fun os started H enc _ => lifted os started H enc)

theorem proved : Rows.FnVarintsSaid :=
  over
#print axioms proved
end Go.Proofs.Ytmlkhgekacjidae.lawFnVarints
