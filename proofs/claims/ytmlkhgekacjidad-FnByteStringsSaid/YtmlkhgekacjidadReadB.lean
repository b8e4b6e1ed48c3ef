/- Contracts of ReadBytes of the program and of the reference. For slices of at most 2^40 bytes. -/
import Derived.Test.YtmlkhgekacjidadReadI
import Derived.Test.YtmlkhgekacjidadPlU
import Derived.Test.YtmlkhgekacjidadUv
import Derived.Test.YtmlkhgekacjidadOwnB
namespace Go.Proofs.Ytmlkhgekacjidad
open Go.RowKit Go.WideShapes Go.ChangeShapes Go.Deep
set_option linter.unusedSimpArgs false
set_option linter.unusedVariables false
set_option maxRecDepth 100000
/-- what ReadBytes returns -/
def rdB (l : List Int) (at_ most : Int) : List Int × Int × Bool :=
  let r := rdU l at_
  if r.2.2 = false ∨ most < r.1 ∨ (l.length : Int) - r.2.1 < r.1 then ([], 0, false) else ((l.drop r.2.1.toNat).take r.1.toNat, r.2.1 + r.1, true)
theorem rdB_no {l : List Int} {at_ most a b : Int} {c : Bool} (h : rdU l at_ = (a, b, c)) (hn : c = false ∨ most < a ∨ (l.length : Int) - b < a) : rdB l at_ most = ([], 0, false) := by
  unfold rdB; rw [h]; simp only; rw [if_pos hn]
theorem rdB_ok {l : List Int} {at_ most : Int} {a b : Nat} (h : rdU l at_ = ((a : Int), (b : Int), true)) (h1 : (a : Int) ≤ most) (h2 : a + b ≤ l.length) : rdB l at_ most = ((l.drop b).take a, (b : Int) + a, true) := by
  unfold rdB; rw [h]; simp only; rw [if_neg (by simp; omega)]; simp
theorem Rd.sub {w : World} {ad : Addr} {n : Nat} {l : List Int} (h : Rd w 1 (some ad) n (u8s l)) {i m : Nat} (hm : i + m ≤ n) : Rd w 1 (some (ad.add i)) m (u8s ((l.drop i).take m)) := by
  have hl := h.maplen
  refine ⟨by simp [u8s]; omega, fun h0 => ⟨_, rfl, fun j u hu => ?_⟩⟩
  obtain ⟨ad', e, hc⟩ := h.2 (by omega)
  injection e with e
  subst e
  have hj : j < m := by have := get_lt hu; simp [u8s] at this; omega
  have e2 : (u8s l)[i + j]? = some u := by
    rw [u8s, List.getElem?_map] at hu ⊢
    rw [List.getElem?_take_of_lt hj, List.getElem?_drop] at hu
    exact hu
  have e3 : (ad.add i).add j = ad.add (i + j) := by
    unfold Addr.add
    by_cases h1 : i = 0 <;> by_cases h2 : j = 0 <;> simp [h1, h2, Nat.add_assoc]
  rw [e3]
  exact hc (i + j) u e2
theorem own_capB {w : World} {b : Nat} {e : TypeId} {s n c : Nat} {A : Option Addr} {xs : List Value} (h : w.ownsRow b e s (.slice A n c) n xs) : n ≤ c := by
  rcases h.2 with ⟨h1, h2⟩ | ⟨g, cap, cur, hv, _, _, hn, _⟩
  · subst h2; exact Nat.zero_le _
  · injection hv with _ _ hc; omega
theorem rdB_len (l : List Int) (at_ most : Int) : (rdB l at_ most).1.length ≤ l.length := by
  unfold rdB
  dsimp only
  split
  · simp
  · simp; omega
theorem ret_trs {r : List Int × Int × Bool} {l : List Int} {a b : Int} {c : Bool} (h : r = (l, a, c)) {A : Option Addr} {m d : Nat} {a' : Int} {c' : Bool} (ha : a' = a) (hc : c' = c) (_ : b = b) : Ending.returned (.tuple #[.slice A m d, .int .i64 a', .bool c']) = .returned (.tuple #[.slice A m d, .int .i64 r.2.1, .bool r.2.2]) := by
  subst ha hc; rw [h]
set_option maxHeartbeats 4000000 in
theorem specReadBytes_any {A : Option Addr} {n c : Nat} {l : List Int} {at_ most : Int} {w : World} (h : Rd w 1 A n (u8s l)) (hn : n ≤ 1099511627776) (hc : n ≤ c) (hB : ∀ x ∈ l, 0 ≤ x ∧ x ≤ 255) (hat : I64 at_) :
    Calls Try.prog 21 #[.slice A n c, .int .i64 at_, .int .i64 most] w fun e w' => ∃ B m d, e = .returned (.tuple #[.slice B m d, .int .i64 (rdB l at_ most).2.1, .bool (rdB l at_ most).2.2]) ∧ w'.ownsRow w.heap.size 5 1 (.slice B m d) m (u8s (rdB l at_ most).1) ∧ Below w.heap.size w w' := by
  obtain ⟨iByte, hiByte, hzByte0, hzByte1, hzByte2⟩ := info_parts Byte_info
  have hl := h.maplen
  rcases rdU_form l at_ with hr | ⟨a, b, hr, ha, hb1, hb2⟩
  · have hv := hide (rdB_no (most := most) hr (Or.inl rfl))
    have HR := hide hr
    clear hr hl
    go_enter Try.func21, Try.ntmps21
    go_wp2_with (go_at_call 67; refine (specReadUvarint_any h hn hB hat).mono ?_; rintro e w' ⟨rfl, rfl⟩; rw [HR.out]; unfold triV)
    have ho0 := World.ownsRow_lit (base := w.heap.size) (e := 5) (size := 1) w #[] 0 (Nat.le_refl _) (by unfold maxLen; omega) rfl
    exact bodyPost_ret (v := .tuple #[.slice (some ⟨w.heap.size, 0, none⟩) 0 0, .int .i64 (0), .bool false]) (by simp [results, Try.results21, go_sem, *] <;> omega) rfl ⟨_, _, _, ret_trs (b := 0) hv.out rfl rfl rfl, by rw [hv.out]; exact ho0, by repeat (first | exact Below.refl _ _ | assumption | refine Below.next_ ?_ ?_ (by assumption) | refine Below.drew ?_ | refine below_drewN ?_ _ | refine Below.alloc ?_ ?_ _ | refine Below.setCell ?_ ?_ _ | omega | (simp <;> omega) | (simp at * <;> omega))⟩
  · by_cases hk : (a : Int) ≤ most ∧ a + b ≤ n
    · obtain ⟨hk1, hk2⟩ := hk
      have hv := hide (rdB_ok (most := most) hr hk1 (by omega))
      have HR := hide hr
      have HL := hide hl
      clear hr hl
      obtain ⟨ad, rfl, -⟩ := h.2 (by omega)
      have HSUB := hide (show Rd w 1 (if c = b then some ad else some (ad.add b)) a (u8s ((l.drop b).take a)) by
        split
        · obtain rfl : a = 0 := by omega
          simpa [u8s] using Rd.nil w 1 (some ad)
        · exact Rd.sub h (by omega))
      have HA := hide (show a ≤ 1099511627776 by omega)
      have ho0 := World.ownsRow_lit (base := w.heap.size) (e := 5) (size := 1) w #[] 0 (Nat.le_refl _) (by unfold maxLen; omega) rfl
      have hb0 : Below w.heap.size w (w.alloc (.cells #[] 5)) := (Below.refl _ _).alloc (Nat.le_refl _) _
      have H := hide h
      have HB := hide hB
      have HAT := hide hat
      have HN := hide hn
      have HC := hide hc
      have hab : (a : Int) + b ≤ n := by omega
      have hba : (b : Int) + a ≤ n := by omega
      have hk3 : (a : Int) ≤ (n : Int) - b := by omega
      have hcc : (n : Int) ≤ c := by omega
      have h1_ : ¬ most < (a : Int) := by omega
      have h2_ : ¬ (n : Int) - b < (a : Int) := by omega
      have hb_n : (b : Int) ≤ (b : Int) + a := by omega
      have hbc : (b : Int) + a ≤ (c : Int) := by omega
      have hb_0 : (0 : Int) ≤ (b : Int) := by omega
      have hw1 : wrap64 ((b : Int) + a) = (b : Int) + a := by simp only [wrap64]; omega
      have hw2 : wrap64 ((n : Int) - b) = (n : Int) - b := by simp only [wrap64]; omega
      clear h hB hat hn hc hk1 hk2 hab hba hk3 hcc ha hb1 hb2
      by_cases hcb : c = b
      · have HS := hide (show Rd w 1 (some ad) a (u8s ((l.drop b).take a)) by have h := HSUB.out; rwa [if_pos hcb] at h)
        have HS2 := hide (show Rd w 1 (some ad) (b + a - b) (u8s ((l.drop b).take a)) by rw [Nat.add_sub_cancel_left]; exact HS.out)
        clear HSUB
        go_enter Try.func21, Try.ntmps21
        go_wp2_with fail
        refine (specReadUvarint_any H.out HN.out HB.out HAT.out).mono ?_
        rintro e w' ⟨rfl, rfl⟩
        rw [HR.out]
        unfold triV
        dsimp only
        go_wp2_with (first | (go_at_call 69; refine (copyBytes_any HS.out HA.out).mono ?_; rintro e w1 ⟨B1, d1, rfl, ho1, hb1⟩) | (at_builtin; refine wpList_app2 _ rfl (.tmp 35) (.tmp 41) 22 rfl 5 iByte (.int .u8 0) 1 1 Try.underlying22 hiByte hzByte0 hzByte1 hzByte2 rfl (by omega) rfl ho0 rfl (HS2.out.below hb0) (u8s_one _) (by unfold maxLen; have := HA.out; omega) (by have := HA.out; omega) (show 0 + (b + a - b) = a by omega) rfl hb0 (by simp) (Nat.le_refl _) (by simp) ?_; intro B1 d1 w1 ho1 hb1 hg1 hat1))
        exact bodyPost_ret (v := .tuple #[.slice B1 a d1, .int .i64 ((b : Int) + a), .bool true]) (by simp [results, Try.results21, go_sem, *]) rfl ⟨B1, a, d1, ret_trs (b := 0) hv.out rfl rfl rfl, by rw [hv.out]; simpa using ho1, hb1⟩
      · have HS := hide (show Rd w 1 (some (ad.add b)) a (u8s ((l.drop b).take a)) by have h := HSUB.out; rwa [if_neg hcb] at h)
        have HS2 := hide (show Rd w 1 (some (ad.add b)) (b + a - b) (u8s ((l.drop b).take a)) by rw [Nat.add_sub_cancel_left]; exact HS.out)
        clear HSUB
        go_enter Try.func21, Try.ntmps21
        go_wp2_with fail
        refine (specReadUvarint_any H.out HN.out HB.out HAT.out).mono ?_
        rintro e w' ⟨rfl, rfl⟩
        rw [HR.out]
        unfold triV
        dsimp only
        go_wp2_with (first | (go_at_call 69; refine (copyBytes_any HS.out HA.out).mono ?_; rintro e w1 ⟨B1, d1, rfl, ho1, hb1⟩) | (at_builtin; refine wpList_app2 _ rfl (.tmp 35) (.tmp 41) 22 rfl 5 iByte (.int .u8 0) 1 1 Try.underlying22 hiByte hzByte0 hzByte1 hzByte2 rfl (by omega) rfl ho0 rfl (HS2.out.below hb0) (u8s_one _) (by unfold maxLen; have := HA.out; omega) (by have := HA.out; omega) (show 0 + (b + a - b) = a by omega) rfl hb0 (by simp) (Nat.le_refl _) (by simp) ?_; intro B1 d1 w1 ho1 hb1 hg1 hat1))
        exact bodyPost_ret (v := .tuple #[.slice B1 a d1, .int .i64 ((b : Int) + a), .bool true]) (by simp [results, Try.results21, go_sem, *]) rfl ⟨B1, a, d1, ret_trs (b := 0) hv.out rfl rfl rfl, by rw [hv.out]; simpa using ho1, hb1⟩
    · have hv := hide (rdB_no (most := most) hr (by omega))
      have HR := hide hr
      have HL := hide hl
      clear hr hl
      have ho0 := World.ownsRow_lit (base := w.heap.size) (e := 5) (size := 1) w #[] 0 (Nat.le_refl _) (by unfold maxLen; omega) rfl
      have H := hide h
      have HB := hide hB
      have HAT := hide hat
      have HN := hide hn
      have hw2 : wrap64 ((n : Int) - b) = (n : Int) - b := by have := HL.out; simp only [wrap64]; omega
      by_cases hm : most < (a : Int)
      · clear h hB hat hn hc ha hb1 hb2 hk
        go_enter Try.func21, Try.ntmps21
        go_wp2_with (go_at_call 67; refine (specReadUvarint_any H.out HN.out HB.out HAT.out).mono ?_; rintro e w' ⟨rfl, rfl⟩; rw [HR.out]; unfold triV)
        exact bodyPost_ret (v := .tuple #[.slice (some ⟨w.heap.size, 0, none⟩) 0 0, .int .i64 (0), .bool false]) (by simp [results, Try.results21, go_sem, *] <;> omega) rfl ⟨_, _, _, ret_trs (b := 0) hv.out rfl rfl rfl, by rw [hv.out]; exact ho0, by repeat (first | exact Below.refl _ _ | assumption | refine Below.next_ ?_ ?_ (by assumption) | refine Below.drew ?_ | refine below_drewN ?_ _ | refine Below.alloc ?_ ?_ _ | refine Below.setCell ?_ ?_ _ | omega | (simp <;> omega) | (simp at * <;> omega))⟩
      · have hm2 : (n : Int) - b < (a : Int) := by omega
        clear h hB hat hn hc ha hb1 hb2 hk
        go_enter Try.func21, Try.ntmps21
        go_wp2_with (go_at_call 67; refine (specReadUvarint_any H.out HN.out HB.out HAT.out).mono ?_; rintro e w' ⟨rfl, rfl⟩; rw [HR.out]; unfold triV)
        exact bodyPost_ret (v := .tuple #[.slice (some ⟨w.heap.size, 0, none⟩) 0 0, .int .i64 (0), .bool false]) (by simp [results, Try.results21, go_sem, *] <;> omega) rfl ⟨_, _, _, ret_trs (b := 0) hv.out rfl rfl rfl, by rw [hv.out]; exact ho0, by repeat (first | exact Below.refl _ _ | assumption | refine Below.next_ ?_ ?_ (by assumption) | refine Below.drew ?_ | refine below_drewN ?_ _ | refine Below.alloc ?_ ?_ _ | refine Below.setCell ?_ ?_ _ | omega | (simp <;> omega) | (simp at * <;> omega))⟩
set_option maxHeartbeats 4000000 in
theorem implReadBytes_any {A : Option Addr} {n c : Nat} {l : List Int} {at_ most : Int} {w : World} (h : Rd w 1 A n (u8s l)) (hn : n ≤ 1099511627776) (hc : n ≤ c) (hB : ∀ x ∈ l, 0 ≤ x ∧ x ≤ 255) (hat : I64 at_) :
    Calls Try.prog 22 #[.slice A n c, .int .i64 at_, .int .i64 most] w fun e w' => ∃ B m d, e = .returned (.tuple #[.slice B m d, .int .i64 (rdB l at_ most).2.1, .bool (rdB l at_ most).2.2]) ∧ w'.ownsRow w.heap.size 5 1 (.slice B m d) m (u8s (rdB l at_ most).1) ∧ Below w.heap.size w w' := by
  obtain ⟨iByte, hiByte, hzByte0, hzByte1, hzByte2⟩ := info_parts Byte_info
  have hl := h.maplen
  rcases rdU_form l at_ with hr | ⟨a, b, hr, ha, hb1, hb2⟩
  · have hv := hide (rdB_no (most := most) hr (Or.inl rfl))
    have HR := hide hr
    clear hr hl
    go_enter Try.func22, Try.ntmps22
    go_wp2_with (go_at_call 68; refine (implReadUvarint_any h hn hB hat).mono ?_; rintro e w' ⟨rfl, rfl⟩; rw [HR.out]; unfold triV)
    have ho0 := World.ownsRow_nil w w.heap.size 5 1
    exact bodyPost_ret (v := .tuple #[.slice none 0 0, .int .i64 (0), .bool false]) (by simp [results, Try.results22, go_sem, *] <;> omega) rfl ⟨_, _, _, ret_trs (b := 0) hv.out rfl rfl rfl, by rw [hv.out]; exact ho0, by repeat (first | exact Below.refl _ _ | assumption | refine Below.next_ ?_ ?_ (by assumption) | refine Below.drew ?_ | refine below_drewN ?_ _ | refine Below.alloc ?_ ?_ _ | refine Below.setCell ?_ ?_ _ | omega | (simp <;> omega) | (simp at * <;> omega))⟩
  · by_cases hk : (a : Int) ≤ most ∧ a + b ≤ n
    · obtain ⟨hk1, hk2⟩ := hk
      have hv := hide (rdB_ok (most := most) hr hk1 (by omega))
      have HR := hide hr
      have HL := hide hl
      clear hr hl
      obtain ⟨ad, rfl, -⟩ := h.2 (by omega)
      have HSUB := hide (show Rd w 1 (if c = b then some ad else some (ad.add b)) a (u8s ((l.drop b).take a)) by
        split
        · obtain rfl : a = 0 := by omega
          simpa [u8s] using Rd.nil w 1 (some ad)
        · exact Rd.sub h (by omega))
      have HA := hide (show a ≤ 1099511627776 by omega)
      have ho0 := World.ownsRow_lit (base := w.heap.size) (e := 5) (size := 1) w #[] 0 (Nat.le_refl _) (by unfold maxLen; omega) rfl
      have hb0 : Below w.heap.size w (w.alloc (.cells #[] 5)) := (Below.refl _ _).alloc (Nat.le_refl _) _
      have H := hide h
      have HB := hide hB
      have HAT := hide hat
      have HN := hide hn
      have HC := hide hc
      have hab : (a : Int) + b ≤ n := by omega
      have hba : (b : Int) + a ≤ n := by omega
      have hk3 : (a : Int) ≤ (n : Int) - b := by omega
      have hcc : (n : Int) ≤ c := by omega
      have h1_ : ¬ most < (a : Int) := by omega
      have h2_ : ¬ (n : Int) - b < (a : Int) := by omega
      have hb_n : (b : Int) ≤ (b : Int) + a := by omega
      have hbc : (b : Int) + a ≤ (c : Int) := by omega
      have hb_0 : (0 : Int) ≤ (b : Int) := by omega
      have hw1 : wrap64 ((b : Int) + a) = (b : Int) + a := by simp only [wrap64]; omega
      have hw2 : wrap64 ((n : Int) - b) = (n : Int) - b := by simp only [wrap64]; omega
      clear h hB hat hn hc hk1 hk2 hab hba hk3 hcc ha hb1 hb2
      by_cases hcb : c = b
      · have HS := hide (show Rd w 1 (some ad) a (u8s ((l.drop b).take a)) by have h := HSUB.out; rwa [if_pos hcb] at h)
        have HS2 := hide (show Rd w 1 (some ad) (b + a - b) (u8s ((l.drop b).take a)) by rw [Nat.add_sub_cancel_left]; exact HS.out)
        clear HSUB
        go_enter Try.func22, Try.ntmps22
        go_wp2_with fail
        refine (implReadUvarint_any H.out HN.out HB.out HAT.out).mono ?_
        rintro e w' ⟨rfl, rfl⟩
        rw [HR.out]
        unfold triV
        dsimp only
        go_wp2_with (first | (go_at_call 69; refine (copyBytes_any HS.out HA.out).mono ?_; rintro e w1 ⟨B1, d1, rfl, ho1, hb1⟩))
        exact bodyPost_ret (v := .tuple #[.slice B1 a d1, .int .i64 ((b : Int) + a), .bool true]) (by simp [results, Try.results22, go_sem, *]) rfl ⟨B1, a, d1, ret_trs (b := 0) hv.out rfl rfl rfl, by rw [hv.out]; exact ho1, hb1⟩
      · have HS := hide (show Rd w 1 (some (ad.add b)) a (u8s ((l.drop b).take a)) by have h := HSUB.out; rwa [if_neg hcb] at h)
        have HS2 := hide (show Rd w 1 (some (ad.add b)) (b + a - b) (u8s ((l.drop b).take a)) by rw [Nat.add_sub_cancel_left]; exact HS.out)
        clear HSUB
        go_enter Try.func22, Try.ntmps22
        go_wp2_with fail
        refine (implReadUvarint_any H.out HN.out HB.out HAT.out).mono ?_
        rintro e w' ⟨rfl, rfl⟩
        rw [HR.out]
        unfold triV
        dsimp only
        go_wp2_with (first | (go_at_call 69; refine (copyBytes_any HS.out HA.out).mono ?_; rintro e w1 ⟨B1, d1, rfl, ho1, hb1⟩))
        exact bodyPost_ret (v := .tuple #[.slice B1 a d1, .int .i64 ((b : Int) + a), .bool true]) (by simp [results, Try.results22, go_sem, *]) rfl ⟨B1, a, d1, ret_trs (b := 0) hv.out rfl rfl rfl, by rw [hv.out]; exact ho1, hb1⟩
    · have hv := hide (rdB_no (most := most) hr (by omega))
      have HR := hide hr
      have HL := hide hl
      clear hr hl
      have ho0 := World.ownsRow_nil w w.heap.size 5 1
      have H := hide h
      have HB := hide hB
      have HAT := hide hat
      have HN := hide hn
      have hw2 : wrap64 ((n : Int) - b) = (n : Int) - b := by have := HL.out; simp only [wrap64]; omega
      by_cases hm : most < (a : Int)
      · clear h hB hat hn hc ha hb1 hb2 hk
        go_enter Try.func22, Try.ntmps22
        go_wp2_with (go_at_call 68; refine (implReadUvarint_any H.out HN.out HB.out HAT.out).mono ?_; rintro e w' ⟨rfl, rfl⟩; rw [HR.out]; unfold triV)
        exact bodyPost_ret (v := .tuple #[.slice none 0 0, .int .i64 (0), .bool false]) (by simp [results, Try.results22, go_sem, *] <;> omega) rfl ⟨_, _, _, ret_trs (b := 0) hv.out rfl rfl rfl, by rw [hv.out]; exact ho0, by repeat (first | exact Below.refl _ _ | assumption | refine Below.next_ ?_ ?_ (by assumption) | refine Below.drew ?_ | refine below_drewN ?_ _ | refine Below.alloc ?_ ?_ _ | refine Below.setCell ?_ ?_ _ | omega | (simp <;> omega) | (simp at * <;> omega))⟩
      · have hm2 : (n : Int) - b < (a : Int) := by omega
        clear h hB hat hn hc ha hb1 hb2 hk
        go_enter Try.func22, Try.ntmps22
        go_wp2_with (go_at_call 68; refine (implReadUvarint_any H.out HN.out HB.out HAT.out).mono ?_; rintro e w' ⟨rfl, rfl⟩; rw [HR.out]; unfold triV)
        exact bodyPost_ret (v := .tuple #[.slice none 0 0, .int .i64 (0), .bool false]) (by simp [results, Try.results22, go_sem, *] <;> omega) rfl ⟨_, _, _, ret_trs (b := 0) hv.out rfl rfl rfl, by rw [hv.out]; exact ho0, by repeat (first | exact Below.refl _ _ | assumption | refine Below.next_ ?_ ?_ (by assumption) | refine Below.drew ?_ | refine below_drewN ?_ _ | refine Below.alloc ?_ ?_ _ | refine Below.setCell ?_ ?_ _ | omega | (simp <;> omega) | (simp at * <;> omega))⟩
end Go.Proofs.Ytmlkhgekacjidad
