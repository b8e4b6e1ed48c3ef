/- Byte strings and lists of integers are decoded from their encodings. For every input. -/
import Derived.Test.YtmlkhgekacjidadArgs
import Derived.Test.YtmlkhgekacjidadDr3
import Derived.Test.YtmlkhgekacjidadPlU
import Derived.Test.YtmlkhgekacjidadReadB
import Derived.Test.YtmlkhgekacjidadDecI
import Derived.Test.YtmlkhgekacjidadEnc
import Derived.Test.YtmlkhgekacjidadEqI
namespace Go.Proofs.Ytmlkhgekacjidad.lawFnByteStrings
open Go.ChangeShapes Go.WideShapes Go.ChangeAt Go.RowKit
set_option maxRecDepth 1000000
set_option linter.unusedSimpArgs false
set_option linter.unusedVariables false
theorem own : ownKnob Try.prog.godebug = none := by kernel_rfl
set_option maxHeartbeats 2000000 in
theorem DrawAppendBytes_any {A : Option Addr} {n c : Nat} {l : List Int} {w : World} (h : Rd w 1 A n (u8s l)) (hn : n ≤ 1048576) (hB : ∀ x ∈ l, 0 ≤ x ∧ x ≤ 255) :
    Calls Try.prog 60 #[.slice A n c] w fun e w' => ∃ B m d B2 m2 d2, e = .returned (.tuple #[.slice B m d, .slice B2 m2 d2]) ∧ m ≤ 8 ∧ m2 ≤ 8 ∧ ∃ b1 b2, w'.ownsRow w.heap.size 5 1 (.slice B m d) m (u8s b1) ∧ w'.ownsRow w.heap.size 5 1 (.slice B2 m2 d2) m2 (u8s b2) ∧ (∀ x ∈ b1, 0 ≤ x ∧ x ≤ 255) ∧ (∀ x ∈ b2, 0 ≤ x ∧ x ≤ 255) ∧ Below w.heap.size w w' := by
  go_enter Try.func60, Try.ntmps60
  go_wp2_with fail
  refine (l1New_any h hn hB).mono ?_
  rintro e w1 ⟨p, rfl, hp, hC, hb1⟩
  go_wp2_with fail
  refine (l1Below_any hC (by omega)).mono ?_
  rintro e w2 ⟨x, rfl, hx, hxI, hd2⟩
  obtain ⟨hx0, hx1⟩ := hx.2 (by omega)
  clear hx
  go_wp2_with fail
  refine (l1Bytes_any hd2.1 (by omega)).mono ?_
  rintro e w3 ⟨B, m, d, rfl, hm, b1, ho, hbl, hd3⟩
  go_wp2_with fail
  refine (l1Below_any hd3.1 (by omega)).mono ?_
  rintro e w4 ⟨y, rfl, hy, hyI, hd4⟩
  obtain ⟨hy0, hy1⟩ := hy.2 (by omega)
  clear hy
  go_wp2_with fail
  refine (l1Bytes_any hd4.1 (by omega)).mono ?_
  rintro e w5 ⟨B2, m2, d2, rfl, hm2, b2, ho2, hbl2, hd5⟩
  have hD := ((hd2.next hd3).next hd4).next hd5
  have hz := hb1.size
  have hp1 := hC.lt
  have hz2 := hd2.2.size
  have hz3 := hd3.2.size
  have hz4 := hd4.2.size
  have ho' := own_cur (own_cur ho hd4.2 (by omega)) hd5.2 (by omega)
  go_wp2_with fail
  exact bodyPost_ret (v := .tuple #[.slice B m d, .slice B2 m2 d2]) (by simp [results, Try.results60, go_sem, *]) rfl ⟨B, m, d, B2, m2, d2, rfl, by omega, by omega, b1, b2, own_base ho' (by omega), own_base ho2 (by omega), hbl, hbl2, Below.cur hb1 hD.2 hz hp⟩
theorem appU_bd {b : List Int} {n : Nat} (hb : ∀ x ∈ b, 0 ≤ x ∧ x ≤ 255) : ∀ x ∈ appU b n, 0 ≤ x ∧ x ≤ 255 := by
  have hu : ∀ (m : Nat), ∀ x ∈ uvl m, 0 ≤ x ∧ x ≤ 255 := by
    intro m
    induction m using Nat.strongRecOn with
    | _ m ih =>
      intro x hx
      by_cases h : m < 128
      · rw [uvl_lt h] at hx; simp at hx; omega
      · rw [uvl_ge (by omega)] at hx
        rcases List.mem_cons.1 hx with rfl | hx
        · omega
        · exact ih (m / 128) (by omega) x hx
  intro x hx
  unfold appU at hx
  split at hx
  · rcases List.mem_append.1 hx with h | h
    · exact hb x h
    · exact hu _ x h
  · exact hb x hx
theorem encL_bd : ∀ (n : Nat) (l : List Int), l.length = n → (∀ x ∈ l, 0 ≤ x) → ∀ x ∈ encL l, 0 ≤ x ∧ x ≤ 255 := by
  intro n
  induction n with
  | zero => intro l h _ x hx; rw [List.eq_nil_of_length_eq_zero h] at hx; simp [encL] at hx
  | succ n ih =>
    intro l h hp x hx
    rcases List.eq_nil_or_concat l with rfl | ⟨m, y, rfl⟩
    · simp at h
    · rw [List.concat_eq_append] at *
      rw [encL_snoc] at hx
      obtain ⟨k, rfl⟩ := Int.eq_ofNat_of_zero_le (hp y (by simp))
      exact appU_bd (ih m (by simpa using h) (fun z hz => hp z (by simp [hz]))) x hx
theorem appU_ok {b : List Int} {n : Nat} (h : n ≤ 1000000000000) : appU b n = b ++ uvl n := by
  unfold appU
  rw [if_pos (inR_true.2 ⟨by omega, by omega⟩)]
  simp
theorem rdB_app {b data : List Int} {n : Nat} (hn : data.length = n) (h : n ≤ 1000000000000) :
    rdB (appU b n ++ data) (b.length : Int) (n : Int) = (data, ((appU b n ++ data).length : Int), true) := by
  have h1 := rdU_uvl (b := b) (tail := data) (m := n) h
  rw [appU_ok h]
  have h2 : rdU (b ++ uvl n ++ data) (b.length : Int) = ((n : Int), ((b.length + (uvl n).length : Nat) : Int), true) := by rw [h1]; simp
  rw [rdB_ok h2 (by omega) (by simp; omega)]
  simp only [Prod.mk.injEq, and_true]
  refine ⟨?_, by simp; omega⟩
  rw [show b.length + (uvl n).length = (b ++ uvl n).length by simp, List.drop_left, List.take_of_length_le (by omega)]
theorem rdB_less {b data : List Int} {n : Nat} (h : n ≤ 1000000000000) : rdB (appU b n ++ data) (b.length : Int) ((n : Int) - 1) = ([], 0, false) := by
  have h1 := rdU_uvl (b := b) (tail := data) (m := n) h
  rw [appU_ok h]
  exact rdB_no h1 (Or.inr (Or.inl (by omega)))
/-- the encoding of a list behind a: what DecodeInts reads of it -/
theorem decGo_enc : ∀ (l a acc : List Int), (∀ x ∈ l, 0 ≤ x ∧ x ≤ 1000000000000) → ∀ g, decGo (l.foldl appU a) (l.length + g) a.length acc = decGo (l.foldl appU a) g ((l.foldl appU a).length) (acc ++ l) := by
  intro l
  induction l with
  | nil => intro a acc _ g; simp
  | cons x l ih =>
    intro a acc hx g
    obtain ⟨k, rfl⟩ := Int.eq_ofNat_of_zero_le (hx x (by simp)).1
    have hk : k ≤ 1000000000000 := by have := (hx k (by simp)).2; omega
    have e : appU a k = a ++ uvl k := appU_ok hk
    obtain ⟨tail, ht⟩ : ∃ tail, l.foldl appU (appU a k) = appU a k ++ tail := by
      have key : ∀ (l b : List Int), ∃ t, l.foldl appU b = b ++ t := by
        intro l
        induction l with
        | nil => intro b; exact ⟨[], by simp⟩
        | cons y l ih =>
          intro b
          obtain ⟨t, ht⟩ := ih (appU b y)
          obtain ⟨s, hs⟩ : ∃ s, appU b y = b ++ s := by
            unfold appU
            split
            · exact ⟨_, rfl⟩
            · exact ⟨[], by simp⟩
          exact ⟨s ++ t, by rw [List.foldl_cons, ht, hs, List.append_assoc]⟩
      exact key l (appU a k)
    have hr : rdU (l.foldl appU (appU a k)) (a.length : Int) = ((k : Int), ((appU a k).length : Int), true) := by
      rw [ht, e, rdU_uvl hk]
      simp
    rw [List.foldl_cons, List.length_cons, show l.length + 1 + g = (l.length + g) + 1 by omega]
    conv => lhs; unfold decGo
    rw [hr]
    simp only [if_true]
    rw [ih (appU a k) (acc ++ [(k : Int)]) (fun y hy => hx y (by simp [hy])) g]
    simp
theorem decI_enc {l : List Int} (hx : ∀ x ∈ l, 0 ≤ x ∧ x ≤ 1000000000000) (hl : l.length ≤ 99) : decI (encL l) 0 (l.length : Int) = (l, ((encL l).length : Int), true) := by
  rw [decI_go (inR_true.2 ⟨by omega, by omega⟩) (inR_true.2 ⟨by omega, by omega⟩)]
  have := decGo_enc l [] [] hx 0
  simpa [encL, decGo] using this
theorem decI_more {l : List Int} (hx : ∀ x ∈ l, 0 ≤ x ∧ x ≤ 1000000000000) (hl : l.length ≤ 99) : decI (encL l) 0 ((l.length : Int) + 1) = ([], 0, false) := by
  rw [show (l.length : Int) + 1 = ((l.length + 1 : Nat) : Int) by simp, decI_go (inR_true.2 ⟨by omega, by omega⟩) (inR_true.2 ⟨by omega, by omega⟩)]
  have := decGo_enc l [] [] hx 1
  simp only [List.length_nil, List.nil_append] at this
  show decGo (encL l) (l.length + 1) ((0 : Nat) : Int) [] = _
  unfold encL
  rw [this]
  unfold decGo
  rw [rdU_end (by omega)]
  rfl
set_option maxHeartbeats 8000000 in
theorem law_any {v0 : Value} {W : World} (i0 : InBytes W v0) (w : World) (hWw : w = W) :
    Calls Try.prog 13 #[v0] w fun e w' => e = .returned (.bool true) ∧ Below w.heap.size w w' := by
  subst hWw
  obtain ⟨A0, n0, c0, l0, rfl, hn0, hr0, hI0⟩ := i0
  obtain ⟨iInt, hiInt, hzInt0, hzInt1, hzInt2⟩ := info_parts Int_info
  by_cases hg0 : n0 ≤ 1048576
  rotate_left
  · have hg0' : (1048576 : Int) < (n0 : Int) := by omega
    go_enter Try.func13, Try.ntmps13
    go_wp2_with fail
    refine (big_any _).mono ?_
    rintro e _ ⟨rfl, rfl⟩
    go_wp2_with fail
    go_ret
    exact ⟨rfl, by repeat (first | exact Below.refl _ _ | assumption | refine Below.next_ ?_ ?_ (by assumption) | refine Below.drew ?_ | refine below_drewN ?_ _ | refine Below.alloc ?_ ?_ _ | refine Below.setCell ?_ ?_ _ | omega | (dsimp only; omega) | (simp <;> omega) | (simp at * <;> omega))⟩
  have hg0' : ¬ (1048576 : Int) < (n0 : Int) := by omega
  go_enter Try.func13, Try.ntmps13
  go_wp2_with fail
  refine (big_any _).mono ?_
  rintro e _ ⟨rfl, rfl⟩
  go_wp2_with fail
  refine (DrawAppendBytes_any hr0 hg0 hI0).mono ?_
  rintro e w1 ⟨B, m, d, B2, m2, d2, rfl, hm, hm2, b1, b2, ho, ho2, hB1, hB2, hb1⟩
  have hz1 := hb1.size
  have HL1 := hide (show b1.length = m from (Rd.of_own ho).maplen)
  have HL2 := hide (show b2.length = m2 from (Rd.of_own ho2).maplen)
  go_wp2_with fail
  refine (implAppendBytes_any (Rd.of_own ho) (Rd.of_own ho2) (by omega) (by omega)).mono ?_
  rintro e w2 ⟨B3, m3, d3, rfl, ho3, hb2⟩
  have hz2 := hb2.size
  have hm3 : (appU b1 m2 ++ b2).length = m3 := (Rd.of_own ho3).maplen
  have hm3' : m3 ≤ 100 := by have := appU_len b1 m2; have := HL1.out; have := HL2.out; simp at hm3; omega
  have HM3 := hide hm3
  clear hm3
  have hBx : ∀ x ∈ appU b1 m2 ++ b2, 0 ≤ x ∧ x ≤ 255 := by
    intro x hx
    rcases List.mem_append.1 hx with h | h
    · exact appU_bd hB1 x h
    · exact hB2 x h
  have R1 := hide (show rdB (appU b1 m2 ++ b2) (m : Int) (m2 : Int) = (b2, (m3 : Int), true) by rw [← HL1.out, rdB_app HL2.out (by omega), HM3.out])
  have R2 := hide (show rdB (appU b1 m2 ++ b2) (m : Int) ((m2 : Int) - 1) = ([], 0, false) by rw [← HL1.out]; exact rdB_less (by omega))
  go_wp2_with fail
  refine (implReadBytes_any (Rd.of_own ho3) (by omega) (own_capB ho3) hBx ⟨by omega, by omega⟩).mono ?_
  rintro e w3 ⟨B4, m4, d4, rfl, ho4, hb3⟩
  rw [R1.out] at ho4 ⊢
  have hz3 := hb3.size
  have HL4 := hide (show b2.length = m4 from (Rd.of_own ho4).maplen)
  have hm4 : m4 ≤ 8 := by have := HL4.out; have := HL2.out; omega
  go_wp2_with fail
  refine (implReadBytes_any ((Rd.of_own ho3).below (by repeat (first | exact Below.refl _ _ | assumption | refine Below.next_ ?_ ?_ (by assumption) | refine Below.drew ?_ | refine below_drewN ?_ _ | refine Below.alloc ?_ ?_ _ | refine Below.setCell ?_ ?_ _ | omega | (dsimp only; omega) | (simp <;> omega) | (simp at * <;> omega)))) (by omega) (own_capB ho3) hBx ⟨by omega, by omega⟩).mono ?_
  rintro e w4 ⟨B5, m5, d5, rfl, ho5, hb4⟩
  rw [R2.out] at ho5 ⊢
  have hz4 := hb4.size
  go_wp2_with fail
  refine (sameBytes_any ((Rd.of_own ho4).below (by repeat (first | exact Below.refl _ _ | assumption | refine Below.next_ ?_ ?_ (by assumption) | refine Below.drew ?_ | refine below_drewN ?_ _ | refine Below.alloc ?_ ?_ _ | refine Below.setCell ?_ ?_ _ | omega | (dsimp only; omega) | (simp <;> omega) | (simp at * <;> omega)))) ((Rd.of_own ho2).below (by repeat (first | exact Below.refl _ _ | assumption | refine Below.next_ ?_ ?_ (by assumption) | refine Below.drew ?_ | refine below_drewN ?_ _ | refine Below.alloc ?_ ?_ _ | refine Below.setCell ?_ ?_ _ | omega | (dsimp only; omega) | (simp <;> omega) | (simp at * <;> omega)))) (by omega) (by omega)).mono ?_
  rintro e _ ⟨rfl, q5, rfl⟩
  have hbA : Below w.heap.size w (w4.drewN q5) := below_drewN (by repeat (first | exact Below.refl _ _ | assumption | refine Below.next_ ?_ ?_ (by assumption) | refine Below.drew ?_ | refine below_drewN ?_ _ | refine Below.alloc ?_ ?_ _ | refine Below.setCell ?_ ?_ _ | omega | (dsimp only; omega) | (simp <;> omega) | (simp at * <;> omega))) _
  generalize w4.drewN q5 = w5 at *
  clear ho ho2 ho3 ho4 ho5 hb1 hb2 hb3 hb4 R1 R2 hBx hB1 hB2 HL1 HL2 HL4 HM3
  have hzA := hbA.size
  have ho69 := World.ownsRow_lit (base := w5.heap.size) (e := 3) (size := 1) w5 #[] 0 (Nat.le_refl _) (by unfold maxLen; omega) rfl
  have hb69 := (Below.refl w5.heap.size w5).alloc (Nat.le_refl _) (.cells #[] 3)
  go_wp2_with fail
  go_loopw [12, 13] (fun ov i wr => ∃ (k : Nat) (l : List Int) (B : Option Addr) (d : Nat), k ≤ 6 ∧ i = .int .i64 k ∧ ov = .slice B k d ∧ wr.ownsRow w5.heap.size 3 1 (.slice B k d) k (ints l) ∧ Hid (∀ x ∈ l, 0 ≤ x ∧ x ≤ 1000000000000) ∧ Below w5.heap.size w5 wr) (fun _ i _ => 7 - (intOf i).toNat)
  case atStart => exact ⟨0, [], _, _, by omega, rfl, rfl, ho69, (fun x hx => absurd hx (by simp)), hb69⟩
  case round =>
    clear ho69 hb69
    obtain ⟨k, l, B, d, hk, rfl, rfl, ho, hl, hb⟩ := hrel
    have hz := hb.size
    have hbW : Below w.heap.size w wr := by repeat (first | exact Below.refl _ _ | assumption | refine Below.next_ ?_ ?_ (by assumption) | refine Below.drew ?_ | refine below_drewN ?_ _ | refine Below.alloc ?_ ?_ _ | refine Below.setCell ?_ ?_ _ | omega | (dsimp only; omega) | (simp <;> omega) | (simp at * <;> omega))
    have hk0 : (0 : Int) ≤ (k : Int) := by omega
    go_wp2_with fail
    refine (at_any (hr0.below hbW) hg0 hI0 (by omega) (by omega)).mono ?_
    rintro e _ ⟨x0, rfl, hx00, hx01, rfl⟩
    by_cases hlt : (k : Int) < x0 % 6
    · have hk6 : k < 6 := by omega
      go_wp2_with fail
      refine (at_any (hr0.below hbW) hg0 hI0 (by omega) (by omega)).mono ?_
      rintro e _ ⟨x, rfl, hx0, hx1, rfl⟩
      go_wp2_with fail
      refine (at_any (hr0.below hbW) hg0 hI0 (by omega) (by omega)).mono ?_
      rintro e _ ⟨y, rfl, hy0, hy1, rfl⟩
      go_wp2_with fail
      refine (at_any (hr0.below hbW) hg0 hI0 (by omega) (by omega)).mono ?_
      rintro e _ ⟨z, rfl, hz0, hz1_, rfl⟩
      have h1 : 0 ≤ x * y := Int.mul_nonneg hx0 hy0
      have h2 : x * y ≤ 255 * 255 := Int.mul_le_mul hx1 hy1 hy0 (by omega)
      have h3 : 0 ≤ x * y * z := Int.mul_nonneg h1 hz0
      have h4 : x * y * z ≤ 255 * 255 * 255 := Int.mul_le_mul h2 hz1_ hz0 (by omega)
      have e1 : wrap64 (x * y) = x * y := by simp only [wrap64]; omega
      have e2 : wrap64 (x * y * z) = x * y * z := by simp only [wrap64]; omega
      go_wp2_with (at_builtin; refine wpList_app2 _ rfl (.tmp 77) (.tmp 92) 34 rfl 3 iInt (.int .i64 0) 1 8 Try.underlying34 hiInt hzInt0 hzInt1 hzInt2 rfl (by omega) rfl (ho.alloc _) rfl (Rd.one _ _ _) (ints_one [_]) (by unfold maxLen; omega) (by omega) rfl rfl (hb.alloc hz _) (by simp; omega) (Nat.le_refl _) (by simp; omega) ?_; intro A3 c3 w7 ho7 hb7 hg7 hat7)
      go_roundw
      case rel => exact ⟨k + 1, l ++ [x * y * z], A3, c3, by omega, by go_num, rfl, by simpa [ints, e2] using ho7, snoc_all hl.out ⟨h3, by omega⟩, hb7⟩
      case measure => simp [intOf]; omega
    · have HLL := hide (show l.length = k from (Rd.of_own ho).len)
      have D1 := hide (show decI (encL l) 0 (k : Int) = (l, ((encL l).length : Int), true) by rw [← HLL.out]; exact decI_enc hl.out (by rw [HLL.out]; omega))
      have D2 := hide (show decI (encL l) 0 ((k : Int) + 1) = ([], 0, false) by rw [← HLL.out]; exact decI_more hl.out (by rw [HLL.out]; omega))
      have hBe := encL_bd _ l rfl (fun x hx => (hl.out x hx).1)
      go_wp2_with fail
      refine (implEncodeInts_any (Rd.of_own ho) (by omega)).mono ?_
      rintro e w8 ⟨B8, m8, d8, rfl, ho8, hb8⟩
      have hz8 := hb8.size
      have HM8 := hide (show (encL l).length = m8 from (Rd.of_own ho8).maplen)
      have hm8 : m8 ≤ 36 := by have := encL_len l; have := HM8.out; have := HLL.out; omega
      go_wp2_with fail
      refine (implDecodeInts_any (Rd.of_own ho8) (by omega) hBe).mono ?_
      rintro e w9 ⟨B9, m9, d9, rfl, ho9, hb9⟩
      rw [D1.out, HM8.out] at ho9 ⊢
      have hz9 := hb9.size
      have HM9 := hide (show l.length = m9 from (Rd.of_own ho9).len)
      have hm9 : m9 ≤ 6 := by have := HM9.out; have := HLL.out; omega
      go_wp2_with fail
      refine (implDecodeInts_any ((Rd.of_own ho8).below (by repeat (first | exact Below.refl _ _ | assumption | refine Below.next_ ?_ ?_ (by assumption) | refine Below.drew ?_ | refine below_drewN ?_ _ | refine Below.alloc ?_ ?_ _ | refine Below.setCell ?_ ?_ _ | omega | (dsimp only; omega) | (simp <;> omega) | (simp at * <;> omega)))) (by omega) hBe).mono ?_
      rintro e w10 ⟨B10, m10, d10, rfl, ho10, hb10⟩
      rw [D2.out] at ho10 ⊢
      have hz10 := hb10.size
      go_wp2_with fail
      refine (sameInts_any ((Rd.of_own ho9).below (by repeat (first | exact Below.refl _ _ | assumption | refine Below.next_ ?_ ?_ (by assumption) | refine Below.drew ?_ | refine below_drewN ?_ _ | refine Below.alloc ?_ ?_ _ | refine Below.setCell ?_ ?_ _ | omega | (dsimp only; omega) | (simp <;> omega) | (simp at * <;> omega)))) ((Rd.of_own ho).below (by repeat (first | exact Below.refl _ _ | assumption | refine Below.next_ ?_ ?_ (by assumption) | refine Below.drew ?_ | refine below_drewN ?_ _ | refine Below.alloc ?_ ?_ _ | refine Below.setCell ?_ ?_ _ | omega | (dsimp only; omega) | (simp <;> omega) | (simp at * <;> omega)))) (by omega) (by omega)).mono ?_
      rintro e _ ⟨rfl, q11, rfl⟩
      go_wp2_with fail
      go_ret
      exact ⟨ret_b (by simp), by repeat (first | exact Below.refl _ _ | assumption | refine Below.next_ ?_ ?_ (by assumption) | refine Below.drew ?_ | refine below_drewN ?_ _ | refine Below.alloc ?_ ?_ _ | refine Below.setCell ?_ ?_ _ | omega | (dsimp only; omega) | (simp <;> omega) | (simp at * <;> omega))⟩
theorem lifted (os : Os) (started : os.Started) (H : Type) (enc : TypeId × Value → H) :
    ReturnsInHanded {} Try.checked os 13 .any (Rows.fnByteStringsSpec.pre6 enc Try.prog Try.f13 Rows.fnByteStringsRow.domain false) (Rows.fnByteStringsSpec.post enc Try.prog Try.f13 false true false false) := by
  refine returnsInHanded_of_change (C := Try.checked) own started (by kernel_rfl) Try.func13
    (ChangeSpec.witness6 (enc := enc) (C := Try.checked) false ⟨#[], #[.slice none 0 0], []⟩ 8 (by kernel_rfl) (by kernel_rfl) (by kernel_rfl) (by kernel_rfl)) ?_
  intro W base args ds gs before hval0 hW _ _
  have hval : ∀ (j : Nat) t v, Try.f13.params[j]? = some t → args[j]? = some v → Value.okWide Try.prog W .any base t v := hval0
  have hW' := hW
  obtain ⟨p, q, hA0, hV, rfl, _, _⟩ := hW
  have hA : DataW.TrodAll enc Try.prog W 0 (fun _ => true) true Try.f13.params.toList args.toList ds p := hA0
  have hlt : ∀ x ∈ p, x.block < W.heap.size := fun x hx => hW'.lt x (by simp [hx])
  have hkeep : ∀ W' : World, Below W.heap.size W W' → ∀ sp : Nat → Bool, (∀ x ∈ p ++ q, sp x.block = true) → DataW.TrodAll enc Try.prog W' 0 sp true Try.f13.params.toList args.toList ds p :=
    fun W' hb sp hsp => trodAll_stays laid hb _ _ _ _ (by kernel_rfl) hlt (fun x hx => hsp x (by simp [hx])) hA
  rw [Try.params13] at hA hval
  obtain ⟨v0, vs0, d0, ds0, p0, q0, hargs, rfl, rfl, h0, r0⟩ := trodAll_cons hA
  obtain ⟨rfl, rfl, rfl⟩ := trodAll_nil r0
  obtain rfl : args = #[v0] := by cases args; simp_all
  obtain ⟨rfl, rfl⟩ := trodVars_none hV
  have i0 : InBytes W v0 := InBytes.of (hval 0 22 v0 rfl rfl) h0
  refine (law_any i0 W rfl).mono fun e W' ⟨he, hb⟩ => ?_
  subst he
  exact ⟨_, rfl, post_of_below (pv := []) hW' (fun _ _ _ => (trodAll_cons_mk (shut_bool Try.underlying4 _) trodAll_mk0)) (hkeep W' hb) (fun _ _ => rfl) rfl
    hb (ok_one (by kernel_rfl) rfl (okWide_bool_mk Try.underlying4 _))⟩

theorem over : Rows.fnByteStringsRow.holds Try.pinned (OpenSpec.ofChange Rows.fnByteStringsSpec) :=
  OpenClaim.holds_of_wide 13 Try.f13 rfl rfl rfl rfl rfl rfl rfl ⟨rfl, rfl, rfl, rfl, rfl⟩ rfl rfl rfl rfl rfl (by kernel_rfl) Try.func13 (by kernel_rfl)
    (of_decide_eq_true (by kernel_rfl)) (by unfold Func.isWrapper; first | (rw [if_pos (by decide +kernel)]; kernel_rfl) | (rw [if_neg (by decide +kernel)]; exact ⟨rfl, rfl⟩))
    (fun os started H enc _ => lifted os started H enc)

theorem proved : Rows.FnByteStringsSaid :=
  over
#print axioms proved
end Go.Proofs.Ytmlkhgekacjidad.lawFnByteStrings
