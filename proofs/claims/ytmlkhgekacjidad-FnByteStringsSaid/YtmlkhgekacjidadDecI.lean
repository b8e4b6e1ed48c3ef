/- Contracts of DecodeInts of the program and of the reference. For slices of at most 2^40 bytes. -/
import Derived.Test.YtmlkhgekacjidadReadI
import Derived.Test.YtmlkhgekacjidadPlU
import Derived.Test.YtmlkhgekacjidadUv
import Derived.Test.YtmlkhgekacjidadOwnB
namespace Go.Proofs.Ytmlkhgekacjidad
open Go.RowKit Go.WideShapes Go.ChangeShapes Go.Deep
set_option linter.unusedSimpArgs false
set_option linter.unusedVariables false
set_option maxRecDepth 100000
/-- what DecodeInts returns from here on: f numbers are still to be read -/
def decGo (l : List Int) : Nat → Int → List Int → List Int × Int × Bool
  | 0, at_, acc => (acc, at_, true)
  | f + 1, at_, acc => if (rdU l at_).2.2 = true then decGo l f (rdU l at_).2.1 (acc ++ [(rdU l at_).1]) else ([], 0, false)
def decI (l : List Int) (at_ n : Int) : List Int × Int × Bool := if inR n 0 100 = true ∧ inR at_ 0 (l.length : Int) = true then decGo l n.toNat at_ [] else ([], 0, false)
theorem decGo_len : ∀ (l : List Int) (f : Nat) (at_ : Int) (acc : List Int), (decGo l f at_ acc).1.length ≤ acc.length + f := by
  intro l f
  induction f with
  | zero => intro at_ acc; simp [decGo]
  | succ f ih =>
    intro at_ acc
    unfold decGo
    split
    · have := ih (rdU l at_).2.1 (acc ++ [(rdU l at_).1]); simp at this; omega
    · simp
theorem decI_len (l : List Int) (at_ n : Int) : (decI l at_ n).1.length ≤ 100 := by
  unfold decI
  split
  · rename_i h
    have := decGo_len l n.toNat at_ []
    have := inR_true.1 h.1
    simp at *
    omega
  · simp
theorem decI_no {l : List Int} {at_ n : Int} (h : inR n 0 100 = false ∨ inR at_ 0 (l.length : Int) = false) : decI l at_ n = ([], 0, false) := by
  unfold decI
  rw [if_neg (by rintro ⟨h1, h2⟩; rcases h with h | h <;> simp_all)]
theorem decI_go {l : List Int} {at_ : Int} {n : Nat} (h1 : inR (n : Int) 0 100 = true) (h2 : inR at_ 0 (l.length : Int) = true) : decI l at_ n = decGo l n at_ [] := by
  unfold decI; rw [if_pos ⟨h1, h2⟩]; simp
theorem decGo_bad {l : List Int} {n k : Nat} {at_ : Int} {acc : List Int} {R : List Int × Int × Bool} (hk : k < n) (h : decGo l (n - k) at_ acc = R) (hr : rdU l at_ = (0, 0, false)) : R = ([], 0, false) := by
  rw [show n - k = (n - (k + 1)) + 1 by omega, decGo, hr] at h
  rw [← h]; rfl
theorem decGo_ok {l : List Int} {n k : Nat} {at_ a b : Int} {acc : List Int} {R : List Int × Int × Bool} (hk : k < n) (h : decGo l (n - k) at_ acc = R) (hr : rdU l at_ = (a, b, true)) : decGo l (n - (k + 1)) b (acc ++ [a]) = R := by
  rw [show n - k = (n - (k + 1)) + 1 by omega, decGo, hr] at h
  rw [← h]; rfl
theorem decGo_end {l : List Int} {n : Nat} {at_ : Int} {acc : List Int} {R : List Int × Int × Bool} (h : decGo l (n - n) at_ acc = R) : R = (acc, at_, true) := by
  rw [Nat.sub_self, decGo] at h; exact h.symm
theorem ret_trd {r : List Int × Int × Bool} {l : List Int} {a : Int} {c : Bool} (h : r = (l, a, c)) {A : Option Addr} {m d : Nat} : Ending.returned (.tuple #[.slice A m d, .int .i64 a, .bool c]) = .returned (.tuple #[.slice A m d, .int .i64 r.2.1, .bool r.2.2]) := by
  rw [h]
set_option maxHeartbeats 4000000 in
theorem specDecodeInts_any {A : Option Addr} {n c : Nat} {l : List Int} {at_ N : Int} {w : World} (h : Rd w 1 A n (u8s l)) (hn : n ≤ 1099511627776) (hB : ∀ x ∈ l, 0 ≤ x ∧ x ≤ 255) :
    Calls Try.prog 51 #[.slice A n c, .int .i64 at_, .int .i64 N] w fun e w' => ∃ B m d, e = .returned (.tuple #[.slice B m d, .int .i64 (decI l at_ N).2.1, .bool (decI l at_ N).2.2]) ∧ w'.ownsRow w.heap.size 3 1 (.slice B m d) m (ints (decI l at_ N).1) ∧ Below w.heap.size w w' := by
  obtain ⟨iInt, hiInt, hzInt0, hzInt1, hzInt2⟩ := info_parts Int_info
  have hl := h.maplen
  have ho0 := World.ownsRow_lit (base := w.heap.size) (e := 3) (size := 1) w #[] 0 (Nat.le_refl _) (by unfold maxLen; omega) rfl
  have hb0 := (Below.refl w.heap.size w).alloc (Nat.le_refl _) (.cells #[] 3)
  have no : (inR N 0 100 = false ∨ inR at_ 0 (n : Int) = false) → decI l at_ N = ([], 0, false) := by intro h; refine decI_no ?_; rw [hl]; exact h
  cases g1 : inR N 0 100 with
  | false =>
    have hv := hide (no (Or.inl g1))
    clear no
    go_enter Try.func51, Try.ntmps51
    go_wp2_with (go_at_call 81; refine (l1In_any _ _ _ _).mono ?_; rintro e w' ⟨rfl, rfl⟩)
    exact bodyPost_ret (v := .tuple #[.slice (some ⟨w.heap.size, 0, none⟩) 0 0, .int .i64 (0), .bool false]) (by simp [results, Try.results51, go_sem, *] <;> omega) rfl ⟨_, _, _, ret_trd hv.out, by rw [hv.out]; exact ho0, by repeat (first | exact Below.refl _ _ | assumption | refine Below.next_ ?_ ?_ (by assumption) | refine Below.drew ?_ | refine below_drewN ?_ _ | refine Below.alloc ?_ ?_ _ | refine Below.setCell ?_ ?_ _ | omega | (simp <;> omega) | (simp at * <;> omega))⟩
  | true =>
    cases g2 : inR at_ 0 (n : Int) with
    | false =>
      have hv := hide (no (Or.inr g2))
      clear no
      go_enter Try.func51, Try.ntmps51
      go_wp2_with (go_at_call 81; refine (l1In_any _ _ _ _).mono ?_; rintro e w' ⟨rfl, rfl⟩)
      exact bodyPost_ret (v := .tuple #[.slice (some ⟨w.heap.size, 0, none⟩) 0 0, .int .i64 (0), .bool false]) (by simp [results, Try.results51, go_sem, *] <;> omega) rfl ⟨_, _, _, ret_trd hv.out, by rw [hv.out]; exact ho0, by repeat (first | exact Below.refl _ _ | assumption | refine Below.next_ ?_ ?_ (by assumption) | refine Below.drew ?_ | refine below_drewN ?_ _ | refine Below.alloc ?_ ?_ _ | refine Below.setCell ?_ ?_ _ | omega | (simp <;> omega) | (simp at * <;> omega))⟩
    | true =>
      clear no
      have G1 := inR_true.1 g1
      have G2 := inR_true.1 g2
      obtain ⟨M, rfl⟩ := Int.eq_ofNat_of_zero_le G1.1
      have hM : M ≤ 100 := by omega
      have HV := hide (decI_go (l := l) (at_ := at_) g1 (by rw [hl]; exact g2))
      have HL := hide hl
      have H := hide h
      have HB := hide hB
      have hat0 := G2.1
      have hat1 := G2.2
      clear hl G1 G2 h hB
      go_enter Try.func51, Try.ntmps51
      go_wp2_with (go_at_call 81; refine (l1In_any _ _ _ _).mono ?_; rintro e w' ⟨rfl, rfl⟩)
      clear g1 g2
      go_loopw [1, 9, 10] (fun av ov i wr => ∃ (k : Nat) (a : Int) (acc : List Int) (B : Option Addr) (d : Nat), k ≤ M ∧ i = .int .i64 k ∧ av = .int .i64 a ∧ 0 ≤ a ∧ a ≤ 1099511627776 ∧ acc.length = k ∧ ov = .slice B k d ∧ Hid (decGo l (M - k) a acc = decI l at_ (M : Int)) ∧ wr.ownsRow w.heap.size 3 1 (.slice B k d) k (ints acc) ∧ Below w.heap.size w wr) (fun _ _ i _ => M - (intOf i).toNat)
      case atStart => exact ⟨0, at_, [], _, _, Nat.zero_le _, rfl, rfl, hat0, by omega, rfl, rfl, HV.out.symm, ho0, hb0⟩
      case round =>
        clear ho0 hb0 HV
        obtain ⟨k, a, acc, B, d, hk, rfl, rfl, ha0, ha1, hacc, rfl, hd, ho, hb⟩ := hrel
        have HACC := hide hacc
        clear hacc
        have hz := hb.size
        have hk0 : (0 : Int) ≤ (k : Int) := by omega
        by_cases hlt : k < M
        · have hkn : (k : Int) < (M : Int) := by omega
          rcases rdU_form l a with hr | ⟨u, v, hr, hu, hv1, hv2⟩
          · have hfin := hide (decGo_bad hlt hd.out hr)
            have HR := hide hr
            clear hr hd
            have hbad := own_base (World.ownsRow_lit (base := wr.heap.size) (e := 3) (size := 1) wr #[] 0 (Nat.le_refl _) (by unfold maxLen; omega) rfl) hb.size
            have hbb := hb.alloc hb.size (.cells #[] 3)
            go_wp2_with (go_at_call 67; refine (specReadUvarint_any (H.out.below hb) hn HB.out ⟨by omega, by omega⟩).mono ?_; rintro e w' ⟨rfl, rfl⟩; rw [HR.out]; unfold triV)
            exact bodyPost_ret (v := .tuple #[.slice (some ⟨wr.heap.size, 0, none⟩) 0 0, .int .i64 (0), .bool false]) (by simp [results, Try.results51, go_sem, *] <;> omega) rfl ⟨_, _, _, ret_trd hfin.out, by rw [hfin.out]; exact hbad, hbb⟩
          · have hst := hide (decGo_ok hlt hd.out hr)
            have HR := hide hr
            clear hr hd
            have hv2' : (v : Int) ≤ 1099511627776 := by have := HL.out; omega
            clear hv1 hv2 hu
            go_wp2_with (first | (go_at_call 67; refine (specReadUvarint_any (H.out.below hb) hn HB.out ⟨by omega, by omega⟩).mono ?_; rintro e w' ⟨rfl, rfl⟩; rw [HR.out]; unfold triV) | (at_builtin; refine wpList_app2 _ rfl (.tmp 41) (.tmp 43) 34 rfl 3 iInt (.int .i64 0) 1 8 Try.underlying34 hiInt hzInt0 hzInt1 hzInt2 rfl (by omega) rfl (ho.alloc _) rfl (Rd.one _ _ _) (ints_one [_]) (by unfold maxLen; omega) (by omega) rfl rfl (hb.alloc hz _) (by simp; omega) (Nat.le_refl _) (by simp; omega) ?_; intro A2 c2 w2 ho2 hb2 hg2 hat2))
            go_roundw
            case rel => exact ⟨k + 1, v, acc ++ [(u : Int)], A2, c2, by omega, by go_num, rfl, by omega, hv2', by simp [HACC.out], rfl, hst, by simpa [ints] using ho2, hb2⟩
            case measure => simp [intOf]; omega
        · obtain rfl : k = M := by omega
          have hfin := hide (decGo_end hd.out)
          clear hd
          go_wp2_with fail
          exact bodyPost_ret (v := .tuple #[.slice B k d, .int .i64 (a), .bool true]) (by simp [results, Try.results51, go_sem, *] <;> omega) rfl ⟨_, _, _, ret_trd hfin.out, by rw [hfin.out]; exact ho, hb⟩
set_option maxHeartbeats 4000000 in
theorem implDecodeInts_any {A : Option Addr} {n c : Nat} {l : List Int} {at_ N : Int} {w : World} (h : Rd w 1 A n (u8s l)) (hn : n ≤ 1099511627776) (hB : ∀ x ∈ l, 0 ≤ x ∧ x ≤ 255) :
    Calls Try.prog 52 #[.slice A n c, .int .i64 at_, .int .i64 N] w fun e w' => ∃ B m d, e = .returned (.tuple #[.slice B m d, .int .i64 (decI l at_ N).2.1, .bool (decI l at_ N).2.2]) ∧ w'.ownsRow w.heap.size 3 1 (.slice B m d) m (ints (decI l at_ N).1) ∧ Below w.heap.size w w' := by
  obtain ⟨iInt, hiInt, hzInt0, hzInt1, hzInt2⟩ := info_parts Int_info
  have hl := h.maplen
  have ho0 := World.ownsRow_nil w w.heap.size 3 1
  have hb0 := Below.refl w.heap.size w
  have no : (inR N 0 100 = false ∨ inR at_ 0 (n : Int) = false) → decI l at_ N = ([], 0, false) := by intro h; refine decI_no ?_; rw [hl]; exact h
  cases g1 : inR N 0 100 with
  | false =>
    have hv := hide (no (Or.inl g1))
    clear no
    go_enter Try.func52, Try.ntmps52
    go_wp2_with (go_at_call 83; refine (implInRange_any _ _ _ _).mono ?_; rintro e w' ⟨rfl, rfl⟩)
    exact bodyPost_ret (v := .tuple #[.slice none 0 0, .int .i64 (0), .bool false]) (by simp [results, Try.results52, go_sem, *] <;> omega) rfl ⟨_, _, _, ret_trd hv.out, by rw [hv.out]; exact ho0, by repeat (first | exact Below.refl _ _ | assumption | refine Below.next_ ?_ ?_ (by assumption) | refine Below.drew ?_ | refine below_drewN ?_ _ | refine Below.alloc ?_ ?_ _ | refine Below.setCell ?_ ?_ _ | omega | (simp <;> omega) | (simp at * <;> omega))⟩
  | true =>
    cases g2 : inR at_ 0 (n : Int) with
    | false =>
      have hv := hide (no (Or.inr g2))
      clear no
      go_enter Try.func52, Try.ntmps52
      go_wp2_with (go_at_call 83; refine (implInRange_any _ _ _ _).mono ?_; rintro e w' ⟨rfl, rfl⟩)
      exact bodyPost_ret (v := .tuple #[.slice none 0 0, .int .i64 (0), .bool false]) (by simp [results, Try.results52, go_sem, *] <;> omega) rfl ⟨_, _, _, ret_trd hv.out, by rw [hv.out]; exact ho0, by repeat (first | exact Below.refl _ _ | assumption | refine Below.next_ ?_ ?_ (by assumption) | refine Below.drew ?_ | refine below_drewN ?_ _ | refine Below.alloc ?_ ?_ _ | refine Below.setCell ?_ ?_ _ | omega | (simp <;> omega) | (simp at * <;> omega))⟩
    | true =>
      clear no
      have G1 := inR_true.1 g1
      have G2 := inR_true.1 g2
      obtain ⟨M, rfl⟩ := Int.eq_ofNat_of_zero_le G1.1
      have hM : M ≤ 100 := by omega
      have HV := hide (decI_go (l := l) (at_ := at_) g1 (by rw [hl]; exact g2))
      have HL := hide hl
      have H := hide h
      have HB := hide hB
      have hat0 := G2.1
      have hat1 := G2.2
      clear hl G1 G2 h hB
      go_enter Try.func52, Try.ntmps52
      go_wp2_with (go_at_call 83; refine (implInRange_any _ _ _ _).mono ?_; rintro e w' ⟨rfl, rfl⟩)
      clear g1 g2
      go_loopw [1, 9, 10] (fun av ov i wr => ∃ (k : Nat) (a : Int) (acc : List Int) (B : Option Addr) (d : Nat), k ≤ M ∧ i = .int .i64 k ∧ av = .int .i64 a ∧ 0 ≤ a ∧ a ≤ 1099511627776 ∧ acc.length = k ∧ ov = .slice B k d ∧ Hid (decGo l (M - k) a acc = decI l at_ (M : Int)) ∧ wr.ownsRow w.heap.size 3 1 (.slice B k d) k (ints acc) ∧ Below w.heap.size w wr) (fun _ _ i _ => M - (intOf i).toNat)
      case atStart => exact ⟨0, at_, [], _, _, Nat.zero_le _, rfl, rfl, hat0, by omega, rfl, rfl, HV.out.symm, ho0, hb0⟩
      case round =>
        clear ho0 hb0 HV
        obtain ⟨k, a, acc, B, d, hk, rfl, rfl, ha0, ha1, hacc, rfl, hd, ho, hb⟩ := hrel
        have HACC := hide hacc
        clear hacc
        have hz := hb.size
        have hk0 : (0 : Int) ≤ (k : Int) := by omega
        by_cases hlt : k < M
        · have hkn : (k : Int) < (M : Int) := by omega
          rcases rdU_form l a with hr | ⟨u, v, hr, hu, hv1, hv2⟩
          · have hfin := hide (decGo_bad hlt hd.out hr)
            have HR := hide hr
            clear hr hd
            have hbad := World.ownsRow_nil wr w.heap.size 3 1
            have hbb := hb
            go_wp2_with (go_at_call 68; refine (implReadUvarint_any (H.out.below hb) hn HB.out ⟨by omega, by omega⟩).mono ?_; rintro e w' ⟨rfl, rfl⟩; rw [HR.out]; unfold triV)
            exact bodyPost_ret (v := .tuple #[.slice none 0 0, .int .i64 (0), .bool false]) (by simp [results, Try.results52, go_sem, *] <;> omega) rfl ⟨_, _, _, ret_trd hfin.out, by rw [hfin.out]; exact hbad, hbb⟩
          · have hst := hide (decGo_ok hlt hd.out hr)
            have HR := hide hr
            clear hr hd
            have hv2' : (v : Int) ≤ 1099511627776 := by have := HL.out; omega
            clear hv1 hv2 hu
            go_wp2_with (first | (go_at_call 68; refine (implReadUvarint_any (H.out.below hb) hn HB.out ⟨by omega, by omega⟩).mono ?_; rintro e w' ⟨rfl, rfl⟩; rw [HR.out]; unfold triV) | (at_builtin; refine wpList_app2 _ rfl (.tmp 38) (.tmp 40) 34 rfl 3 iInt (.int .i64 0) 1 8 Try.underlying34 hiInt hzInt0 hzInt1 hzInt2 rfl (by omega) rfl (ho.alloc _) rfl (Rd.one _ _ _) (ints_one [_]) (by unfold maxLen; omega) (by omega) rfl rfl (hb.alloc hz _) (by simp; omega) (Nat.le_refl _) (by simp; omega) ?_; intro A2 c2 w2 ho2 hb2 hg2 hat2))
            go_roundw
            case rel => exact ⟨k + 1, v, acc ++ [(u : Int)], A2, c2, by omega, by go_num, rfl, by omega, hv2', by simp [HACC.out], rfl, hst, by simpa [ints] using ho2, hb2⟩
            case measure => simp [intOf]; omega
        · obtain rfl : k = M := by omega
          have hfin := hide (decGo_end hd.out)
          clear hd
          go_wp2_with fail
          exact bodyPost_ret (v := .tuple #[.slice B k d, .int .i64 (a), .bool true]) (by simp [results, Try.results52, go_sem, *] <;> omega) rfl ⟨_, _, _, ret_trd hfin.out, by rw [hfin.out]; exact ho, hb⟩
end Go.Proofs.Ytmlkhgekacjidad
