/- A method that is the best is alive unless it was broken early, and nothing is alive from its break on. For every input. -/
import Derived.Test.YtmlkhgekacjidaeArgs
import Derived.Test.YtmlkhgekacjidaeDr5
import Derived.Test.YtmlkhgekacjidaePlM
import Derived.Test.YtmlkhgekacjidaePlH
import Derived.BigQuiet
import Derived.Deep.CutRange
namespace Go.Proofs.Ytmlkhgekacjidae.lawFnMethods
open Go.ChangeShapes Go.WideShapes Go.ChangeAt Go.RowKit
set_option maxRecDepth 1000000
set_option linter.unusedSimpArgs false
set_option linter.unusedVariables false
theorem own : ownKnob Try.prog.godebug = none := by kernel_rfl
theorem alive_break {l : List Mt} {id t : Int} (h : aliveF l id t = true) : t < breakF l id := by
  unfold aliveF at h
  unfold breakF
  cases hf : findF l id with
  | none => rw [hf] at h; simp at h
  | some k => rw [hf] at h; simp at h; exact h.2
theorem break_find {l : List Mt} {id : Int} (h : breakF l id ≠ 0) : ¬ findI l id < 0 := by
  unfold breakF at h
  unfold findI
  cases hf : findF l id with
  | none => rw [hf] at h; simp at h
  | some k => simp only; omega
theorem set_I64_ {l : List Int} {j : Nat} {v : Int} (h : ∀ x ∈ l, I64 x) (hv : I64 v) : ∀ x ∈ l.set j v, I64 x := by
  intro x hx
  rcases List.mem_or_eq_of_mem_set hx with h' | h'
  · exact h x h'
  · exact h' ▸ hv
set_option maxHeartbeats 16000000 in
theorem law_any {v0 : Value} {W : World} (i0 : InBytes W v0) (w : World) (hWw : w = W) :
    Calls Try.prog 5 #[v0] w fun e w' => e = .returned (.bool true) ∧ Below w.heap.size w w' := by
  subst hWw
  obtain ⟨A0, n0, c0, l0, rfl, hn0, hr0, hI0⟩ := i0
  obtain ⟨iInt, hiInt, hzInt0, hzInt1, hzInt2⟩ := info_parts Int_info
  by_cases hg0 : n0 ≤ 1048576
  rotate_left
  · have hg0' : (1048576 : Int) < (n0 : Int) := by omega
    go_enter Try.func5, Try.ntmps5
    go_wp2_with fail
    refine (big_any _).mono ?_
    rintro e _ ⟨rfl, rfl⟩
    go_wp2_with fail
    go_ret
    exact ⟨rfl, by repeat (first | exact Below.refl _ _ | assumption | refine Below.next_ ?_ ?_ (by assumption) | refine Below.drew ?_ | refine below_drewN ?_ _ | refine Below.alloc ?_ ?_ _ | refine Below.setCell ?_ ?_ _ | omega | (dsimp only; omega) | (simp <;> omega) | (simp at * <;> omega))⟩
  have hg0' : ¬ (1048576 : Int) < (n0 : Int) := by omega
  go_enter Try.func5, Try.ntmps5
  go_wp2_with fail
  refine (big_any _).mono ?_
  rintro e _ ⟨rfl, rfl⟩
  go_wp2_with fail
  refine (DrawIsAlive_any hr0 hg0 hI0).mono ?_
  rintro e w1 ⟨B, m, d, id, t, rfl, hm, hid, htI, ml, ho, hA, hb1⟩
  have hz1 := hb1.size
  go_upto_region 4 with fail
  go_cut [49] from 23 to 49 (fun v wx => v = .bool false ∧ Below w1.heap.size w1 wx)
  case first =>
    have hAB := hide (alive_break (l := ml) (id := id) (t := t))
    have hBF := hide (break_find (l := ml) (id := id))
    go_wp2_with fail
    refine (specAreMethods_any (Rd.of_own ho) (by omega)).mono ?_
    rintro e w2 ⟨rfl, hb2⟩
    have hz2 := hb2.size
    cases areF ml with
    | true =>
      go_wp2_with fail
      refine (implIsAlive_any ((Rd.of_own ho).below (by repeat (first | exact Below.refl _ _ | assumption | refine Below.next_ ?_ ?_ (by assumption) | refine Below.drew ?_ | refine below_drewN ?_ _ | refine Below.alloc ?_ ?_ _ | refine Below.setCell ?_ ?_ _ | omega | (dsimp only; omega) | (simp <;> omega) | (simp at * <;> omega)))) (by omega)).mono ?_
      rintro e w3 ⟨rfl, hb3⟩
      have hz3 := hb3.size
      cases hal : aliveF ml id t with
      | true =>
        have hlt := hAB.out hal
        go_wp2_with fail
        refine (implBreakOf_any ((Rd.of_own ho).below (by repeat (first | exact Below.refl _ _ | assumption | refine Below.next_ ?_ ?_ (by assumption) | refine Below.drew ?_ | refine below_drewN ?_ _ | refine Below.alloc ?_ ?_ _ | refine Below.setCell ?_ ?_ _ | omega | (dsimp only; omega) | (simp <;> omega) | (simp at * <;> omega)))) (by omega)).mono ?_
        rintro e w4 ⟨rfl, hb4⟩
        have hz4 := hb4.size
        have hge : ¬ breakF ml id ≤ t := by omega
        go_wp2_with fail
        refine (implBreakOf_any ((Rd.of_own ho).below (by repeat (first | exact Below.refl _ _ | assumption | refine Below.next_ ?_ ?_ (by assumption) | refine Below.drew ?_ | refine below_drewN ?_ _ | refine Below.alloc ?_ ?_ _ | refine Below.setCell ?_ ?_ _ | omega | (dsimp only; omega) | (simp <;> omega) | (simp at * <;> omega)))) (by omega)).mono ?_
        rintro e w5 ⟨rfl, hb5⟩
        have hz5 := hb5.size
        by_cases hbz : breakF ml id = 0
        · go_wp2_with fail
          go_meet
          exact ⟨by first | rfl | (simp; done) | (simp; omega) | (simp [*]; done) | (simp [*]; omega), by repeat (first | exact Below.refl _ _ | assumption | refine Below.next_ ?_ ?_ (by assumption) | refine Below.drew ?_ | refine below_drewN ?_ _ | refine Below.alloc ?_ ?_ _ | refine Below.setCell ?_ ?_ _ | omega | (dsimp only; omega) | (simp <;> omega) | (simp at * <;> omega))⟩
        · have hnn := hBF.out hbz
          have hbz' : (breakF ml id == 0) = false := by simpa using hbz
          go_wp2_with fail
          refine (implFindMethod_any ((Rd.of_own ho).below (by repeat (first | exact Below.refl _ _ | assumption | refine Below.next_ ?_ ?_ (by assumption) | refine Below.drew ?_ | refine below_drewN ?_ _ | refine Below.alloc ?_ ?_ _ | refine Below.setCell ?_ ?_ _ | omega | (dsimp only; omega) | (simp <;> omega) | (simp at * <;> omega)))) (by omega)).mono ?_
          rintro e w6 ⟨rfl, hb6⟩
          have hz6 := hb6.size
          go_wp2_with fail
          go_meet
          exact ⟨by first | rfl | (simp; done) | (simp; omega) | (simp [*]; done) | (simp [*]; omega), by repeat (first | exact Below.refl _ _ | assumption | refine Below.next_ ?_ ?_ (by assumption) | refine Below.drew ?_ | refine below_drewN ?_ _ | refine Below.alloc ?_ ?_ _ | refine Below.setCell ?_ ?_ _ | omega | (dsimp only; omega) | (simp <;> omega) | (simp at * <;> omega))⟩
      | false =>
        go_wp2_with fail
        refine (implBreakOf_any ((Rd.of_own ho).below (by repeat (first | exact Below.refl _ _ | assumption | refine Below.next_ ?_ ?_ (by assumption) | refine Below.drew ?_ | refine below_drewN ?_ _ | refine Below.alloc ?_ ?_ _ | refine Below.setCell ?_ ?_ _ | omega | (dsimp only; omega) | (simp <;> omega) | (simp at * <;> omega)))) (by omega)).mono ?_
        rintro e w5 ⟨rfl, hb5⟩
        have hz5 := hb5.size
        by_cases hbz : breakF ml id = 0
        · go_wp2_with fail
          go_meet
          exact ⟨by first | rfl | (simp; done) | (simp; omega) | (simp [*]; done) | (simp [*]; omega), by repeat (first | exact Below.refl _ _ | assumption | refine Below.next_ ?_ ?_ (by assumption) | refine Below.drew ?_ | refine below_drewN ?_ _ | refine Below.alloc ?_ ?_ _ | refine Below.setCell ?_ ?_ _ | omega | (dsimp only; omega) | (simp <;> omega) | (simp at * <;> omega))⟩
        · have hnn := hBF.out hbz
          have hbz' : (breakF ml id == 0) = false := by simpa using hbz
          go_wp2_with fail
          refine (implFindMethod_any ((Rd.of_own ho).below (by repeat (first | exact Below.refl _ _ | assumption | refine Below.next_ ?_ ?_ (by assumption) | refine Below.drew ?_ | refine below_drewN ?_ _ | refine Below.alloc ?_ ?_ _ | refine Below.setCell ?_ ?_ _ | omega | (dsimp only; omega) | (simp <;> omega) | (simp at * <;> omega)))) (by omega)).mono ?_
          rintro e w6 ⟨rfl, hb6⟩
          have hz6 := hb6.size
          go_wp2_with fail
          go_meet
          exact ⟨by first | rfl | (simp; done) | (simp; omega) | (simp [*]; done) | (simp [*]; omega), by repeat (first | exact Below.refl _ _ | assumption | refine Below.next_ ?_ ?_ (by assumption) | refine Below.drew ?_ | refine below_drewN ?_ _ | refine Below.alloc ?_ ?_ _ | refine Below.setCell ?_ ?_ _ | omega | (dsimp only; omega) | (simp <;> omega) | (simp at * <;> omega))⟩
    | false =>
      go_wp2_with fail
      refine (implBreakOf_any ((Rd.of_own ho).below (by repeat (first | exact Below.refl _ _ | assumption | refine Below.next_ ?_ ?_ (by assumption) | refine Below.drew ?_ | refine below_drewN ?_ _ | refine Below.alloc ?_ ?_ _ | refine Below.setCell ?_ ?_ _ | omega | (dsimp only; omega) | (simp <;> omega) | (simp at * <;> omega)))) (by omega)).mono ?_
      rintro e w5 ⟨rfl, hb5⟩
      have hz5 := hb5.size
      by_cases hbz : breakF ml id = 0
      · go_wp2_with fail
        go_meet
        exact ⟨by first | rfl | (simp; done) | (simp; omega) | (simp [*]; done) | (simp [*]; omega), by repeat (first | exact Below.refl _ _ | assumption | refine Below.next_ ?_ ?_ (by assumption) | refine Below.drew ?_ | refine below_drewN ?_ _ | refine Below.alloc ?_ ?_ _ | refine Below.setCell ?_ ?_ _ | omega | (dsimp only; omega) | (simp <;> omega) | (simp at * <;> omega))⟩
      · have hnn := hBF.out hbz
        have hbz' : (breakF ml id == 0) = false := by simpa using hbz
        go_wp2_with fail
        refine (implFindMethod_any ((Rd.of_own ho).below (by repeat (first | exact Below.refl _ _ | assumption | refine Below.next_ ?_ ?_ (by assumption) | refine Below.drew ?_ | refine below_drewN ?_ _ | refine Below.alloc ?_ ?_ _ | refine Below.setCell ?_ ?_ _ | omega | (dsimp only; omega) | (simp <;> omega) | (simp at * <;> omega)))) (by omega)).mono ?_
        rintro e w6 ⟨rfl, hb6⟩
        have hz6 := hb6.size
        go_wp2_with fail
        go_meet
        exact ⟨by first | rfl | (simp; done) | (simp; omega) | (simp [*]; done) | (simp [*]; omega), by repeat (first | exact Below.refl _ _ | assumption | refine Below.next_ ?_ ?_ (by assumption) | refine Below.drew ?_ | refine below_drewN ?_ _ | refine Below.alloc ?_ ?_ _ | refine Below.setCell ?_ ?_ _ | omega | (dsimp only; omega) | (simp <;> omega) | (simp at * <;> omega))⟩
  case rest =>
    obtain ⟨rfl, hbc⟩ := hcut
    have hzc := hbc.size
    go_wp2_with fail
    refine (DrawBestMethod_any (hr0.below (by repeat (first | exact Below.refl _ _ | assumption | refine Below.next_ ?_ ?_ (by assumption) | refine Below.drew ?_ | refine below_drewN ?_ _ | refine Below.alloc ?_ ?_ _ | refine Below.setCell ?_ ?_ _ | omega | (dsimp only; omega) | (simp <;> omega) | (simp at * <;> omega)))) hg0 hI0).mono ?_
    rintro e w11 ⟨B2, n2, d2, t2, rfl, hn2, ht2, l2, ho2, hA2, hb11⟩
    have hz11 := hb11.size
    go_wp2_with fail
    refine (implBestMethod_any (Rd.of_own ho2) (by omega)).mono ?_
    rintro e w12 ⟨rfl, hb12⟩
    have hz12 := hb12.size
    go_wp2_with fail
    refine (implFindMethod_any ((Rd.of_own ho2).below hb12) (by omega)).mono ?_
    rintro e w13 ⟨rfl, hb13⟩
    have hz13 := hb13.size
    have HBL := hide (best_law (l := l2) (t := t2))
    obtain ⟨bs, hbs⟩ : ∃ bs, bestI l2 t2 = bs := ⟨_, rfl⟩
    obtain ⟨kk, hkk⟩ : ∃ kk, findI l2 bs = kk := ⟨_, rfl⟩
    rw [hbs, hkk]
    have HBS := hide hbs
    have HKK := hide hkk
    clear hbs hkk
    have hrd : Rd w13 4 B2 n2 (mts l2) := ((Rd.of_own ho2).below hb12).below hb13
    have hbA : Below w.heap.size w w13 := by repeat (first | exact Below.refl _ _ | assumption | refine Below.next_ ?_ ?_ (by assumption) | refine Below.drew ?_ | refine below_drewN ?_ _ | refine Below.alloc ?_ ?_ _ | refine Below.setCell ?_ ?_ _ | omega | (dsimp only; omega) | (simp <;> omega) | (simp at * <;> omega))
    clear hb11 hb12 hb13 hbc hb1 ho ho2 hA
    have hzA := hbA.size
    go_upto_region 9 with fail
    go_cut [88] from 61 to 88 (fun v wx => v = .bool false ∧ Below w13.heap.size w13 wx)
    case first =>
      by_cases hneg : bs < 0
      · have hneg' : ¬ (0 : Int) ≤ bs := by omega
        go_wp2_with fail
        go_meet
        exact ⟨by first | rfl | (simp; done) | (simp; omega) | (simp [*]; done) | (simp [*]; omega), by repeat (first | exact Below.refl _ _ | assumption | refine Below.next_ ?_ ?_ (by assumption) | refine Below.drew ?_ | refine below_drewN ?_ _ | refine Below.alloc ?_ ?_ _ | refine Below.setCell ?_ ?_ _ | omega | (dsimp only; omega) | (simp <;> omega) | (simp at * <;> omega))⟩
      · have hneg' : (0 : Int) ≤ bs := by omega
        go_wp2_with fail
        refine (implAreMethods_any hrd (by omega)).mono ?_
        rintro e w14 ⟨rfl, hb14⟩
        have hz14 := hb14.size
        cases har : areF l2 with
        | false =>
          go_wp2_with fail
          go_meet
          exact ⟨by first | rfl | (simp; done) | (simp; omega) | (simp [*]; done) | (simp [*]; omega), by repeat (first | exact Below.refl _ _ | assumption | refine Below.next_ ?_ ?_ (by assumption) | refine Below.drew ?_ | refine below_drewN ?_ _ | refine Below.alloc ?_ ?_ _ | refine Below.setCell ?_ ?_ _ | omega | (dsimp only; omega) | (simp <;> omega) | (simp at * <;> omega))⟩
        | true =>
          rcases HBL.out har with ⟨h1, _⟩ | ⟨j, x, h1, h2, h3, h4, _⟩
          · rw [HBS.out] at h1; omega
          · rw [HBS.out] at h2
            have hkj : kk = (j : Int) := by rw [← HKK.out, findI_some h2]
            subst hkj
            have hjl : j < n2 := by have := get_lt h3; have := hrd.mtlen; omega
            obtain ⟨ad, x', rfl, hx', c0, c1, c2, c3⟩ := Rd.mt (hrd.below hb14) hjl
            have hxe : x' = x := by rw [h3] at hx'; injection hx' with e; exact e.symm
            subst hxe
            obtain ⟨u1, u2⟩ := h4
            have hjn : (j : Int) < (n2 : Int) := by omega
            have hj0 : (0 : Int) ≤ (j : Int) := by omega
            have v1 : ¬ t2 < x'.b := by omega
            have v2 : ¬ x'.c ≤ t2 := by omega
            clear hx' h3 h2 h1
            go_wp2_with fail
            go_meet
            exact ⟨by first | rfl | (simp; done) | (simp; omega) | (simp [*]; done) | (simp [*]; omega), by repeat (first | exact Below.refl _ _ | assumption | refine Below.next_ ?_ ?_ (by assumption) | refine Below.drew ?_ | refine below_drewN ?_ _ | refine Below.alloc ?_ ?_ _ | refine Below.setCell ?_ ?_ _ | omega | (dsimp only; omega) | (simp <;> omega) | (simp at * <;> omega))⟩
    case rest =>
      obtain ⟨rfl, hbc⟩ := hcut
      have hzc2 := hbc.size
      go_wp2_with fail
      go_loopw [10] (fun i wr => ∃ k : Nat, k ≤ n2 ∧ i = .int .i64 k ∧ Below w13.heap.size w13 wr) (fun i _ => n2 - (intOf i).toNat)
      case atStart => exact ⟨0, Nat.zero_le _, rfl, hbc⟩
      case round =>
        obtain ⟨k, hk, rfl, hb⟩ := hrel
        have hzr := hb.size
        have hk0 : (0 : Int) ≤ (k : Int) := by omega
        by_cases hlt : k < n2
        · have hkn : (k : Int) < (n2 : Int) := by omega
          go_wp2_with fail
          refine (implAreMethods_any (hrd.below hb) (by omega)).mono ?_
          rintro e w14 ⟨rfl, hb14⟩
          have hz14 := hb14.size
          cases har : areF l2 with
          | true =>
            obtain ⟨ad, y, rfl, hy, c0, c1, c2, c3⟩ := Rd.mt (hrd.below (show Below w13.heap.size w13 w14 by repeat (first | exact Below.refl _ _ | assumption | refine Below.next_ ?_ ?_ (by assumption) | refine Below.drew ?_ | refine below_drewN ?_ _ | refine Below.alloc ?_ ?_ _ | refine Below.setCell ?_ ?_ _ | omega | (dsimp only; omega) | (simp <;> omega) | (simp at * <;> omega)))) hlt
            by_cases u1 : y.b ≤ t2
            · by_cases u2 : t2 < y.c
              · rcases HBL.out har with ⟨_, h2⟩ | ⟨j, x, h1, h2, h3, h4, h5⟩
                · exact absurd ⟨u1, u2⟩ (h2 k y hy)
                · have hle := h5 k y hy ⟨u1, u2⟩
                  rw [HBS.out] at h1 h2
                  have hkj : kk = (j : Int) := by rw [← HKK.out, findI_some h2]
                  subst hkj
                  have hjl : j < n2 := by have := get_lt h3; have := hrd.mtlen; omega
                  obtain ⟨ad', x', he, hx', b0, b1, b2, b3⟩ := Rd.mt (hrd.below (show Below w13.heap.size w13 w14 by repeat (first | exact Below.refl _ _ | assumption | refine Below.next_ ?_ ?_ (by assumption) | refine Below.drew ?_ | refine below_drewN ?_ _ | refine Below.alloc ?_ ?_ _ | refine Below.setCell ?_ ?_ _ | omega | (dsimp only; omega) | (simp <;> omega) | (simp at * <;> omega)))) hjl
                  injection he with he
                  subst he
                  have hxe : x' = x := by rw [h3] at hx'; injection hx' with e; exact e.symm
                  subst hxe
                  have hjn : (j : Int) < (n2 : Int) := by omega
                  have hj0 : (0 : Int) ≤ (j : Int) := by omega
                  have v1 : decide (bs < 0) = false := by simpa using h1
                  have v2 : decide (x'.c < y.c) = false := by simpa using hle
                  clear hx' h3 h2 hy h4 h5
                  go_wp2_with fail
                  go_quiet (fail)
                  go_wp2_with fail
                  go_roundw
                  case rel => exact ⟨k + 1, by omega, by go_num, by repeat (first | exact Below.refl _ _ | assumption | refine Below.next_ ?_ ?_ (by assumption) | refine Below.drew ?_ | refine below_drewN ?_ _ | refine Below.alloc ?_ ?_ _ | refine Below.setCell ?_ ?_ _ | omega | (dsimp only; omega) | (simp <;> omega) | (simp at * <;> omega))⟩
                  case measure => simp [intOf]; omega
              · have v2 : decide (t2 < y.c) = false := by simpa using u2
                clear hy
                go_wp2_with fail
                go_quiet (fail)
                go_wp2_with fail
                go_roundw
                case rel => exact ⟨k + 1, by omega, by go_num, by repeat (first | exact Below.refl _ _ | assumption | refine Below.next_ ?_ ?_ (by assumption) | refine Below.drew ?_ | refine below_drewN ?_ _ | refine Below.alloc ?_ ?_ _ | refine Below.setCell ?_ ?_ _ | omega | (dsimp only; omega) | (simp <;> omega) | (simp at * <;> omega))⟩
                case measure => simp [intOf]; omega
            · have v1 : decide (y.b ≤ t2) = false := by simpa using u1
              clear hy
              go_wp2_with fail
              go_quiet (fail)
              go_wp2_with fail
              go_roundw
              case rel => exact ⟨k + 1, by omega, by go_num, by repeat (first | exact Below.refl _ _ | assumption | refine Below.next_ ?_ ?_ (by assumption) | refine Below.drew ?_ | refine below_drewN ?_ _ | refine Below.alloc ?_ ?_ _ | refine Below.setCell ?_ ?_ _ | omega | (dsimp only; omega) | (simp <;> omega) | (simp at * <;> omega))⟩
              case measure => simp [intOf]; omega
          | false =>
            have hbE : Below w.heap.size w w14 := by repeat (first | exact Below.refl _ _ | assumption | refine Below.next_ ?_ ?_ (by assumption) | refine Below.drew ?_ | refine below_drewN ?_ _ | refine Below.alloc ?_ ?_ _ | refine Below.setCell ?_ ?_ _ | omega | (dsimp only; omega) | (simp <;> omega) | (simp at * <;> omega))
            clear hb hb14 hrd hbc
            go_wp2_with fail
            refine (DrawDigestOf_any (hr0.below hbE) hg0 hI0).mono ?_
            rintro e w20 ⟨n, B3, m3, d3, rfl, hm3, hn0_, hn1_, bl, ho3, hbl, hb20⟩
            have hbF : Below w.heap.size w w20 := Below.next_ hbE (by have := hbE.size; omega) hb20
            have hzF := hbF.size
            have hblI : ∀ x ∈ bl, I64 x := fun x hx => ⟨by have := hbl x hx; omega, by have := hbl x hx; omega⟩
            have HBL3 := hide hbl
            have hnI : I64 n := ⟨by omega, by omega⟩
            have hr3 := Rd.of_own ho3
            clear hb20 hbE ho3 hbl HBL
            go_wp2_with fail
            go_loopw [13] (fun i wr => ∃ k : Nat, k ≤ m3 ∧ i = .int .i64 k ∧ Below w20.heap.size w20 wr) (fun i _ => m3 - (intOf i).toNat)
            case atStart => exact ⟨0, Nat.zero_le _, rfl, Below.refl _ _⟩
            case round =>
              obtain ⟨k, hk, rfl, hb⟩ := hrel
              have hz := hb.size
              have hk0 : (0 : Int) ≤ (k : Int) := by omega
              have hrw := hr3.below hb
              by_cases hlt : k < m3
              · have hkn : (k : Int) < (m3 : Int) := by omega
                have ho143 := World.ownsRow_lit (base := wr.heap.size) (e := 3) (size := 1) wr #[] 0 (Nat.le_refl _) (by unfold maxLen; omega) rfl
                have hb143 := (Below.refl wr.heap.size wr).alloc (Nat.le_refl _) (.cells #[] 3)
                have hr144 := hrw.below hb143
                go_wp2_with (at_builtin; refine wpList_app2 _ rfl (.tmp 143) (.tmp 144) 48 rfl 3 iInt (.int .i64 0) 1 8 Try.underlying48 hiInt hzInt0 hzInt1 hzInt2 rfl (by omega) rfl ho143 rfl hr144 (ints_one _) (by unfold maxLen; omega) (by omega) (Nat.zero_add m3) rfl hb143 (by simp) (Nat.le_refl _) (by simp) ?_; intro A6 c6 w26 ho6 hb6 hg6 hat6; simp only [List.nil_append, Array.toList] at ho6; obtain ⟨g, u, rfl, hgg, hu, hcu, hfu⟩ := own_at ho6 hlt; obtain ⟨y, hy, rfl⟩ := map_at hu; have hyb := HBL3.out y (List.mem_of_getElem? hy); have hy1 : wrap64 (y + 1) = y + 1 := (by simp only [wrap64]; omega); have HY := hide hy; clear hu hy)
                have hz6 := hb6.size
                have hset := (own_set ho6 k (.int .i64 (y + 1))).1
                have hbs : Below w20.heap.size w20 (w26.setCell ⟨g, k, none⟩ (.int .i64 (y + 1))) := Below.setCell (p := ⟨g, k, none⟩) (by repeat (first | exact Below.refl _ _ | assumption | refine Below.next_ ?_ ?_ (by assumption) | refine Below.drew ?_ | refine below_drewN ?_ _ | refine Below.alloc ?_ ?_ _ | refine Below.setCell ?_ ?_ _ | omega | (dsimp only; omega) | (simp <;> omega) | (simp at * <;> omega))) (by show w20.heap.size ≤ g; omega) _
                rw [show (ints bl).set k (.int .i64 (y + 1)) = ints (bl.set k (y + 1)) by simp [ints, List.map_set]] at hset
                have hne := digestF_set (k := n) (x := y + 1) HY.out (by omega)
                have HNE := hide (show (digestF n (bl.set k (y + 1)) == digestF n bl) = false by simpa using hne)
                clear hne
                refine (implDigestOf_any (l := bl.set k (y + 1)) (Rd.of_own hset) (by omega) (set_I64_ hblI ⟨by omega, by omega⟩) hnI).mono ?_
                rintro e w27 ⟨rfl, hb27⟩
                have hb27' : Below w20.heap.size w20 w27 := Below.next_ hbs (by simp; omega) hb27
                have hz27 := hb27'.size
                clear hset hbs hb27
                go_wp2_with fail
                refine (implDigestOf_any (hr3.below hb27') (by omega) hblI hnI).mono ?_
                rintro e w28 ⟨rfl, hb28⟩
                have hb28' : Below w20.heap.size w20 w28 := Below.next_ hb27' hz27 hb28
                have hq := HNE.out
                clear hb28 hb27' hb6 hb143
                go_wp2_with fail
                go_roundw
                case rel => exact ⟨k + 1, by omega, by go_num, hb28'⟩
                case measure => simp [intOf]; omega
              · have hkn' : ¬ (k : Int) < (m3 : Int) := by omega
                have hne := digestF_id (l := bl) (j := n) (k := n + 1) (by omega)
                have HNE := hide (show (digestF n bl != digestF (n + 1) bl) = true by simpa using hne)
                clear hne
                have hw : wrap64 (n + 1) = n + 1 := by simp only [wrap64]; omega
                go_wp2_with fail
                refine (implDigestOf_any hrw (by omega) hblI hnI).mono ?_
                rintro e w31 ⟨rfl, hb31⟩
                have hz31 := hb31.size
                go_wp2_with fail
                refine (implDigestOf_any (hrw.below hb31) (by omega) hblI ⟨by omega, by omega⟩).mono ?_
                rintro e w32 ⟨rfl, hb32⟩
                have hz32 := hb32.size
                have hq := HNE.out
                go_wp2_with fail
                go_ret
                exact ⟨ret_b (by first | rfl | exact hq), by repeat (first | exact Below.refl _ _ | assumption | refine Below.next_ ?_ ?_ (by assumption) | refine Below.drew ?_ | refine below_drewN ?_ _ | refine Below.alloc ?_ ?_ _ | refine Below.setCell ?_ ?_ _ | omega | (dsimp only; omega) | (simp <;> omega) | (simp at * <;> omega))⟩
        · have hkn : ¬ (k : Int) < (n2 : Int) := by omega
          have hbE : Below w.heap.size w wr := by repeat (first | exact Below.refl _ _ | assumption | refine Below.next_ ?_ ?_ (by assumption) | refine Below.drew ?_ | refine below_drewN ?_ _ | refine Below.alloc ?_ ?_ _ | refine Below.setCell ?_ ?_ _ | omega | (dsimp only; omega) | (simp <;> omega) | (simp at * <;> omega))
          clear hb hrd hbc
          go_wp2_with fail
          refine (DrawDigestOf_any (hr0.below hbE) hg0 hI0).mono ?_
          rintro e w20 ⟨n, B3, m3, d3, rfl, hm3, hn0_, hn1_, bl, ho3, hbl, hb20⟩
          have hbF : Below w.heap.size w w20 := Below.next_ hbE (by have := hbE.size; omega) hb20
          have hzF := hbF.size
          have hblI : ∀ x ∈ bl, I64 x := fun x hx => ⟨by have := hbl x hx; omega, by have := hbl x hx; omega⟩
          have HBL3 := hide hbl
          have hnI : I64 n := ⟨by omega, by omega⟩
          have hr3 := Rd.of_own ho3
          clear hb20 hbE ho3 hbl HBL
          go_wp2_with fail
          go_loopw [13] (fun i wr => ∃ k : Nat, k ≤ m3 ∧ i = .int .i64 k ∧ Below w20.heap.size w20 wr) (fun i _ => m3 - (intOf i).toNat)
          case atStart => exact ⟨0, Nat.zero_le _, rfl, Below.refl _ _⟩
          case round =>
            obtain ⟨k, hk, rfl, hb⟩ := hrel
            have hz := hb.size
            have hk0 : (0 : Int) ≤ (k : Int) := by omega
            have hrw := hr3.below hb
            by_cases hlt : k < m3
            · have hkn : (k : Int) < (m3 : Int) := by omega
              have ho143 := World.ownsRow_lit (base := wr.heap.size) (e := 3) (size := 1) wr #[] 0 (Nat.le_refl _) (by unfold maxLen; omega) rfl
              have hb143 := (Below.refl wr.heap.size wr).alloc (Nat.le_refl _) (.cells #[] 3)
              have hr144 := hrw.below hb143
              go_wp2_with (at_builtin; refine wpList_app2 _ rfl (.tmp 143) (.tmp 144) 48 rfl 3 iInt (.int .i64 0) 1 8 Try.underlying48 hiInt hzInt0 hzInt1 hzInt2 rfl (by omega) rfl ho143 rfl hr144 (ints_one _) (by unfold maxLen; omega) (by omega) (Nat.zero_add m3) rfl hb143 (by simp) (Nat.le_refl _) (by simp) ?_; intro A6 c6 w26 ho6 hb6 hg6 hat6; simp only [List.nil_append, Array.toList] at ho6; obtain ⟨g, u, rfl, hgg, hu, hcu, hfu⟩ := own_at ho6 hlt; obtain ⟨y, hy, rfl⟩ := map_at hu; have hyb := HBL3.out y (List.mem_of_getElem? hy); have hy1 : wrap64 (y + 1) = y + 1 := (by simp only [wrap64]; omega); have HY := hide hy; clear hu hy)
              have hz6 := hb6.size
              have hset := (own_set ho6 k (.int .i64 (y + 1))).1
              have hbs : Below w20.heap.size w20 (w26.setCell ⟨g, k, none⟩ (.int .i64 (y + 1))) := Below.setCell (p := ⟨g, k, none⟩) (by repeat (first | exact Below.refl _ _ | assumption | refine Below.next_ ?_ ?_ (by assumption) | refine Below.drew ?_ | refine below_drewN ?_ _ | refine Below.alloc ?_ ?_ _ | refine Below.setCell ?_ ?_ _ | omega | (dsimp only; omega) | (simp <;> omega) | (simp at * <;> omega))) (by show w20.heap.size ≤ g; omega) _
              rw [show (ints bl).set k (.int .i64 (y + 1)) = ints (bl.set k (y + 1)) by simp [ints, List.map_set]] at hset
              have hne := digestF_set (k := n) (x := y + 1) HY.out (by omega)
              have HNE := hide (show (digestF n (bl.set k (y + 1)) == digestF n bl) = false by simpa using hne)
              clear hne
              refine (implDigestOf_any (l := bl.set k (y + 1)) (Rd.of_own hset) (by omega) (set_I64_ hblI ⟨by omega, by omega⟩) hnI).mono ?_
              rintro e w27 ⟨rfl, hb27⟩
              have hb27' : Below w20.heap.size w20 w27 := Below.next_ hbs (by simp; omega) hb27
              have hz27 := hb27'.size
              clear hset hbs hb27
              go_wp2_with fail
              refine (implDigestOf_any (hr3.below hb27') (by omega) hblI hnI).mono ?_
              rintro e w28 ⟨rfl, hb28⟩
              have hb28' : Below w20.heap.size w20 w28 := Below.next_ hb27' hz27 hb28
              have hq := HNE.out
              clear hb28 hb27' hb6 hb143
              go_wp2_with fail
              go_roundw
              case rel => exact ⟨k + 1, by omega, by go_num, hb28'⟩
              case measure => simp [intOf]; omega
            · have hkn' : ¬ (k : Int) < (m3 : Int) := by omega
              have hne := digestF_id (l := bl) (j := n) (k := n + 1) (by omega)
              have HNE := hide (show (digestF n bl != digestF (n + 1) bl) = true by simpa using hne)
              clear hne
              have hw : wrap64 (n + 1) = n + 1 := by simp only [wrap64]; omega
              go_wp2_with fail
              refine (implDigestOf_any hrw (by omega) hblI hnI).mono ?_
              rintro e w31 ⟨rfl, hb31⟩
              have hz31 := hb31.size
              go_wp2_with fail
              refine (implDigestOf_any (hrw.below hb31) (by omega) hblI ⟨by omega, by omega⟩).mono ?_
              rintro e w32 ⟨rfl, hb32⟩
              have hz32 := hb32.size
              have hq := HNE.out
              go_wp2_with fail
              go_ret
              exact ⟨ret_b (by first | rfl | exact hq), by repeat (first | exact Below.refl _ _ | assumption | refine Below.next_ ?_ ?_ (by assumption) | refine Below.drew ?_ | refine below_drewN ?_ _ | refine Below.alloc ?_ ?_ _ | refine Below.setCell ?_ ?_ _ | omega | (dsimp only; omega) | (simp <;> omega) | (simp at * <;> omega))⟩
theorem lifted (os : Os) (started : os.Started) (H : Type) (enc : TypeId × Value → H) :
    ReturnsInHanded {} Try.checked os 5 .any (Rows.fnMethodsSpec.pre6 enc Try.prog Try.f5 Rows.fnMethodsRow.domain false) (Rows.fnMethodsSpec.post enc Try.prog Try.f5 false true false false) := by
  refine returnsInHanded_of_change (C := Try.checked) own started (by kernel_rfl) Try.func5
    (ChangeSpec.witness6 (enc := enc) (C := Try.checked) false ⟨#[], #[.slice none 0 0], []⟩ 8 (by kernel_rfl) (by kernel_rfl) (by kernel_rfl) (by kernel_rfl)) ?_
  intro W base args ds gs before hval0 hW _ _
  have hval : ∀ (j : Nat) t v, Try.f5.params[j]? = some t → args[j]? = some v → Value.okWide Try.prog W .any base t v := hval0
  have hW' := hW
  obtain ⟨p, q, hA0, hV, rfl, _, _⟩ := hW
  have hA : DataW.TrodAll enc Try.prog W 0 (fun _ => true) true Try.f5.params.toList args.toList ds p := hA0
  have hlt : ∀ x ∈ p, x.block < W.heap.size := fun x hx => hW'.lt x (by simp [hx])
  have hkeep : ∀ W' : World, Below W.heap.size W W' → ∀ sp : Nat → Bool, (∀ x ∈ p ++ q, sp x.block = true) → DataW.TrodAll enc Try.prog W' 0 sp true Try.f5.params.toList args.toList ds p :=
    fun W' hb sp hsp => trodAll_stays laid hb _ _ _ _ (by kernel_rfl) hlt (fun x hx => hsp x (by simp [hx])) hA
  rw [Try.params5] at hA hval
  obtain ⟨v0, vs0, d0, ds0, p0, q0, hargs, rfl, rfl, h0, r0⟩ := trodAll_cons hA
  obtain ⟨rfl, rfl, rfl⟩ := trodAll_nil r0
  obtain rfl : args = #[v0] := by cases args; simp_all
  obtain ⟨rfl, rfl⟩ := trodVars_none hV
  have i0 : InBytes W v0 := InBytes.of (hval 0 22 v0 rfl rfl) h0
  refine (law_any i0 W rfl).mono fun e W' ⟨he, hb⟩ => ?_
  subst he
  exact ⟨_, rfl, post_of_below (pv := []) hW' (fun _ _ _ => (trodAll_cons_mk (shut_bool Try.underlying4 _) trodAll_mk0)) (hkeep W' hb) (fun _ _ => rfl) rfl
    hb (ok_one (by kernel_rfl) rfl (okWide_bool_mk Try.underlying4 _))⟩

theorem over : Rows.fnMethodsRow.holds Try.pinned (OpenSpec.ofChange Rows.fnMethodsSpec) :=
  OpenClaim.holds_of_wide 5 Try.f5 rfl rfl rfl rfl rfl rfl rfl ⟨rfl, rfl, rfl, rfl, rfl⟩ rfl rfl rfl rfl rfl (by kernel_rfl) Try.func5 (by kernel_rfl)
    (of_decide_eq_true (by kernel_rfl)) (by unfold Func.isWrapper; first | (rw [if_pos (by decide +kernel)]; kernel_rfl) | (rw [if_neg (by decide +kernel)]; exact ⟨rfl, rfl⟩))
    (fun os started H enc _ => lifted os started H enc)

theorem proved : Rows.FnMethodsSaid :=
  over
#print axioms proved
end Go.Proofs.Ytmlkhgekacjidae.lawFnMethods
