/- Contracts of the functions that copy a slice, and of AppendUvarint, AppendBytes and EncodeInts, of the program and of the reference. For slices of at most 2^40 elements. -/
import Derived.Test.YtmlkhgekacjidaeIntS
import Derived.Test.YtmlkhgekacjidaeByteS
import Derived.Test.YtmlkhgekacjidaeInt
import Derived.Laws.BitsAllLaws
import Derived.Laws.BitsLemmas
namespace Go.Proofs.Ytmlkhgekacjidae
open Go.RowKit Go.WideShapes Go.ChangeShapes Go.Deep
set_option linter.unusedSimpArgs false
set_option linter.unusedVariables false
set_option maxHeartbeats 400000 in
theorem copyBytes_any {A : Option Addr} {n c : Nat} {l : List Int} {w : World} (h : Rd w 1 A n (u8s l)) (hn : n ≤ 1099511627776) :
    Calls Try.prog 96 #[.slice A n c] w fun e w' => ∃ B d, e = .returned (.slice B n d) ∧ w'.ownsRow w.heap.size 5 1 (.slice B n d) n (u8s l) ∧ Below w.heap.size w w' := by
  obtain ⟨iByte, hiByte, hzByte0, hzByte1, hzByte2⟩ := info_parts Byte_info
  have hb0 : Below w.heap.size w (w.alloc (.cells #[] 5)) := (Below.refl _ _).alloc (Nat.le_refl _) _
  have ho0 := World.ownsRow_lit (base := w.heap.size) (e := 5) (size := 1) w #[] 0 (Nat.le_refl _) (by unfold maxLen; omega) rfl
  have hr0 := h.below hb0
  go_enter Try.func96, Try.ntmps96
  go_wp2_with (at_builtin; refine wpList_app2 _ rfl (.tmp 3) (.tmp 4) 22 rfl 5 iByte (.int .u8 0) 1 1 Try.underlying22 hiByte hzByte0 hzByte1 hzByte2 rfl (by omega) rfl ho0 rfl hr0 (u8s_one _) (by unfold maxLen; omega) (by omega) (Nat.zero_add n) rfl hb0 (by simp) (Nat.le_refl _) (by simp) ?_; intro A1 c1 w1 ho1 hb1 hg1 hat1)
  go_ret
  exact ⟨_, _, rfl, by simpa using ho1, hb1⟩
set_option maxHeartbeats 400000 in
theorem copyInts_any {A : Option Addr} {n c : Nat} {l : List Int} {w : World} (h : Rd w 1 A n (ints l)) (hn : n ≤ 1099511627776) :
    Calls Try.prog 151 #[.slice A n c] w fun e w' => ∃ B d, e = .returned (.slice B n d) ∧ w'.ownsRow w.heap.size 3 1 (.slice B n d) n (ints l) ∧ Below w.heap.size w w' := by
  obtain ⟨iInt, hiInt, hzInt0, hzInt1, hzInt2⟩ := info_parts Int_info
  have hb0 : Below w.heap.size w (w.alloc (.cells #[] 3)) := (Below.refl _ _).alloc (Nat.le_refl _) _
  have ho0 := World.ownsRow_lit (base := w.heap.size) (e := 3) (size := 1) w #[] 0 (Nat.le_refl _) (by unfold maxLen; omega) rfl
  have hr0 := h.below hb0
  go_enter Try.func151, Try.ntmps151
  go_wp2_with (at_builtin; refine wpList_app2 _ rfl (.tmp 3) (.tmp 4) 48 rfl 3 iInt (.int .i64 0) 1 8 Try.underlying48 hiInt hzInt0 hzInt1 hzInt2 rfl (by omega) rfl ho0 rfl hr0 (ints_one _) (by unfold maxLen; omega) (by omega) (Nat.zero_add n) rfl hb0 (by simp) (Nat.le_refl _) (by simp) ?_; intro A1 c1 w1 ho1 hb1 hg1 hat1)
  go_ret
  exact ⟨_, _, rfl, by simpa using ho1, hb1⟩

/-- the varint of m -/
def uvF : Nat → Nat → List Int
  | 0, m => [(m : Int)]
  | f + 1, m => if m < 128 then [(m : Int)] else ((m % 128 + 128 : Nat) : Int) :: uvF f (m / 128)
theorem uvF_enough : ∀ (f g m : Nat), m ≤ f → m ≤ g → uvF f m = uvF g m := by
  intro f
  induction f with
  | zero =>
    intro g m hf hg
    obtain rfl : m = 0 := by omega
    cases g <;> simp [uvF]
  | succ f ih =>
    intro g m hf hg
    cases g with
    | zero =>
      obtain rfl : m = 0 := by omega
      simp [uvF]
    | succ g =>
      simp only [uvF]
      split
      · rfl
      · rw [ih g (m / 128) (by omega) (by omega)]
def uvl (m : Nat) : List Int := uvF m m
theorem uvl_lt {m : Nat} (h : m < 128) : uvl m = [(m : Int)] := by
  unfold uvl
  cases m with
  | zero => rfl
  | succ m => simp only [uvF]; rw [if_pos h]
theorem uvl_ge {m : Nat} (h : 128 ≤ m) : uvl m = ((m % 128 + 128 : Nat) : Int) :: uvl (m / 128) := by
  obtain ⟨k, rfl⟩ : ∃ k, m = k + 1 := ⟨m - 1, by omega⟩
  unfold uvl
  simp only [uvF]
  rw [if_neg (by omega)]
  congr 1
  exact uvF_enough _ _ _ (by omega) (by omega)
theorem uvl_len : ∀ (k m : Nat), m < 128 ^ (k + 1) → (uvl m).length ≤ k + 1 := by
  intro k
  induction k with
  | zero => intro m hm; rw [uvl_lt (by simpa using hm)]; simp
  | succ k ih =>
    intro m hm
    by_cases h : m < 128
    · rw [uvl_lt h]; simp
    · rw [uvl_ge (by omega)]
      have := ih (m / 128) (by rw [Nat.div_lt_iff_lt_mul (by omega)]; rw [Nat.pow_succ] at hm; exact hm)
      simp; omega
/-- what AppendUvarint returns -/
def appU (l : List Int) (v : Int) : List Int := if inR v 0 1000000000000 = true then l ++ uvl v.toNat else l
theorem appU_len (l : List Int) (v : Int) : (appU l v).length ≤ l.length + 6 := by
  unfold appU
  split
  · rename_i h
    have h' := inR_true.1 h
    have := uvl_len 5 v.toNat (by simp; omega)
    simp; omega
  · omega
theorem appU_ge (l : List Int) (v : Int) : l.length ≤ (appU l v).length := by
  unfold appU
  split <;> simp

theorem ofInt_i64 (a : Nat) (ha : a < 9223372036854775808) : (BitVec.ofInt 64 (a : Int)).toNat = a := by
  rw [BitVec.ofInt_natCast, BitVec.toNat_ofNat]; exact Nat.mod_eq_of_lt (by omega)
theorem i64_and_nat (a b : Nat) (ha : a < 9223372036854775808) (hb : b < 9223372036854775808) : bits .and .i64 (a : Int) (b : Int) = ((a &&& b : Nat) : Int) := by
  have hx : a &&& b < 2 ^ 63 := Nat.and_lt_two_pow _ (by omega)
  show IntKind.i64.wrap ((BitVec.ofInt 64 (a : Int) &&& BitVec.ofInt 64 (b : Int)).toNat : Int) = _
  rw [BitVec.toNat_and, ofInt_i64 a ha, ofInt_i64 b hb, IntKind.wrap_i64]
  omega
theorem i64_or_nat (a b : Nat) (ha : a < 9223372036854775808) (hb : b < 9223372036854775808) : bits .or .i64 (a : Int) (b : Int) = ((a ||| b : Nat) : Int) := by
  have hx : a ||| b < 2 ^ 63 := Nat.or_lt_two_pow (by omega) (by omega)
  show IntKind.i64.wrap ((BitVec.ofInt 64 (a : Int) ||| BitVec.ofInt 64 (b : Int)).toNat : Int) = _
  rw [BitVec.toNat_or, ofInt_i64 a ha, ofInt_i64 b hb, IntKind.wrap_i64]
  omega
theorem bits_and_127 {x : Int} (h0 : 0 ≤ x) (h1 : x < 9223372036854775808) : bits .and .i64 x 127 = x % 128 := by
  obtain ⟨a, rfl⟩ := Int.eq_ofNat_of_zero_le h0
  have := i64_and_nat a 127 (by omega) (by omega)
  rw [show ((127 : Nat) : Int) = 127 from rfl] at this
  rw [this, show (127 : Nat) = 2 ^ 7 - 1 from rfl, Nat.and_two_pow_sub_one_eq_mod]
  simp
theorem bits_or_128 {x : Int} (h0 : 0 ≤ x) (h1 : x < 128) : bits .or .i64 x 128 = x + 128 := by
  obtain ⟨a, rfl⟩ := Int.eq_ofNat_of_zero_le h0
  have := i64_or_nat a 128 (by omega) (by omega)
  rw [show ((128 : Nat) : Int) = 128 from rfl] at this
  rw [this]
  have e := Nat.two_pow_add_eq_or_of_lt (b := a) (i := 7) (by omega) 1
  simp at e
  rw [Nat.or_comm, ← e]
  simp; omega
set_option maxHeartbeats 1000000 in
theorem specAppendUvarint_any {A : Option Addr} {n c : Nat} {l : List Int} {v : Int} {w : World} (h : Rd w 1 A n (u8s l)) (hn : n ≤ 1099511627776) :
    Calls Try.prog 97 #[.slice A n c, .int .i64 v] w fun e w' => ∃ B m d, e = .returned (.slice B m d) ∧ w'.ownsRow w.heap.size 5 1 (.slice B m d) m (u8s (appU l v)) ∧ Below w.heap.size w w' := by
  obtain ⟨iByte, hiByte, hzByte0, hzByte1, hzByte2⟩ := info_parts Byte_info
  have HL := hide (show l.length = n from h.maplen)
  have hb0 : Below w.heap.size w (w.alloc (.cells #[] 5)) := (Below.refl _ _).alloc (Nat.le_refl _) _
  have ho0 := World.ownsRow_lit (base := w.heap.size) (e := 5) (size := 1) w #[] 0 (Nat.le_refl _) (by unfold maxLen; omega) rfl
  have hr0 := h.below hb0
  by_cases hv : 0 ≤ v ∧ v ≤ 1000000000000
  · obtain ⟨hv0, hv1⟩ := hv
    have e1 : inR v 0 1000000000000 = true := inR_true.2 ⟨hv0, hv1⟩
    have hfin := hide (show appU l v = l ++ uvl v.toNat by simp [appU, e1])
    go_enter Try.func97, Try.ntmps97
    go_wp2_with (first | (at_builtin; refine wpList_app2 _ rfl (.tmp 6) (.tmp 7) 22 rfl 5 iByte (.int .u8 0) 1 1 Try.underlying22 hiByte hzByte0 hzByte1 hzByte2 rfl (by omega) rfl ho0 rfl hr0 (u8s_one _) (by unfold maxLen; omega) (by omega) (Nat.zero_add n) rfl hb0 (by simp) (Nat.le_refl _) (by simp) ?_; intro A1 c1 w1 ho1 hb1 hg1 hat1) | (go_at_call 126; refine (l1In_any _ _ _ _).mono ?_; rintro e w' ⟨rfl, rfl⟩))
    have ho1' : w1.ownsRow w.heap.size 5 1 (.slice A1 n c1) n (u8s l) := by simpa using ho1
    go_loopw [1, 5] (fun xx o wr => ∃ (x : Int) (p : List Int) (B : Option Addr) (d : Nat), 0 ≤ x ∧ (p.length : Int) + x ≤ v ∧ xx = .int .i64 x ∧ o = .slice B (n + p.length) d ∧ wr.ownsRow w.heap.size 5 1 (.slice B (n + p.length) d) (n + p.length) (u8s (l ++ p)) ∧ Hid (p ++ uvl x.toNat = uvl v.toNat) ∧ Below w.heap.size w wr) (fun xx _ _ => (intOf xx).toNat)
    case atStart => exact ⟨v, [], A1, c1, hv0, by simp, rfl, by simp, by simpa using ho1', rfl, hb1⟩
    case round =>
      obtain ⟨x, p, B, d, hx0, hpx, rfl, rfl, ho, hu, hb⟩ := hrel
      have hz := hb.size
      by_cases hx : 128 ≤ x
      · have hx' : 127 < x := by omega
        have ba : bits .and .i64 x 127 = x % 128 := bits_and_127 hx0 (by omega)
        have bo : bits .or .i64 (x % 128) 128 = x % 128 + 128 := bits_or_128 (by omega) (by omega)
        go_wp2_with (at_builtin; refine wpList_app2 _ rfl (.tmp 15) (.tmp 20) 22 rfl 5 iByte (.int .u8 0) 1 1 Try.underlying22 hiByte hzByte0 hzByte1 hzByte2 rfl (by omega) rfl (ho.alloc _) rfl (Rd.one _ _ _) (u8s_one [_]) (by unfold maxLen; omega) (by omega) rfl rfl (hb.alloc hz _) (by simp; omega) (Nat.le_refl _) (by simp; omega) ?_; intro A2 c2 w2 ho2 hb2 hg2 hat2)
        have e1 : (x / 128).toNat = x.toNat / 128 := by omega
        have e2 : ((x.toNat % 128 + 128 : Nat) : Int) = x % 128 + 128 := by omega
        go_roundw
        case rel =>
          refine ⟨x / 128, p ++ [x % 128 + 128], A2, c2, by omega, by simp; omega, rfl, by simp [Nat.add_assoc], by simpa [u8s, Nat.add_assoc] using ho2, ?_, hb2⟩
          show _ = _
          have hu' := hu.out
          rw [uvl_ge (by omega), e2] at hu'
          rw [← hu', e1]
          simp
        case measure => simp [intOf]; omega
      · have hx' : ¬ 127 < x := by omega
        go_wp2_with (at_builtin; refine wpList_app2 _ rfl (.tmp 24) (.tmp 27) 22 rfl 5 iByte (.int .u8 0) 1 1 Try.underlying22 hiByte hzByte0 hzByte1 hzByte2 rfl (by omega) rfl (ho.alloc _) rfl (Rd.one _ _ _) (u8s_one [_]) (by unfold maxLen; omega) (by omega) rfl rfl (hb.alloc hz _) (by simp; omega) (Nat.le_refl _) (by simp; omega) ?_; intro A2 c2 w2 ho2 hb2 hg2 hat2)
        go_ret
        have hu' := hu.out
        rw [uvl_lt (by omega)] at hu'
        have e2 : ((x.toNat : Nat) : Int) = x := by omega
        rw [e2] at hu'
        refine ⟨_, _, _, rfl, ?_, hb2⟩
        rw [hfin.out, ← hu']
        simpa [u8s] using ho2
  · have e1 : inR v 0 1000000000000 = false := inR_false.2 hv
    have hfin := hide (show appU l v = l by simp [appU, e1])
    clear hv
    go_enter Try.func97, Try.ntmps97
    go_wp2_with (first | (at_builtin; refine wpList_app2 _ rfl (.tmp 6) (.tmp 7) 22 rfl 5 iByte (.int .u8 0) 1 1 Try.underlying22 hiByte hzByte0 hzByte1 hzByte2 rfl (by omega) rfl ho0 rfl hr0 (u8s_one _) (by unfold maxLen; omega) (by omega) (Nat.zero_add n) rfl hb0 (by simp) (Nat.le_refl _) (by simp) ?_; intro A1 c1 w1 ho1 hb1 hg1 hat1) | (go_at_call 126; refine (l1In_any _ _ _ _).mono ?_; rintro e w' ⟨rfl, rfl⟩))
    go_ret
    exact ⟨_, _, _, rfl, by rw [hfin.out]; exact ho1, hb1⟩
set_option maxHeartbeats 1000000 in
theorem implAppendUvarint_any {A : Option Addr} {n c : Nat} {l : List Int} {v : Int} {w : World} (h : Rd w 1 A n (u8s l)) (hn : n ≤ 1099511627776) :
    Calls Try.prog 24 #[.slice A n c, .int .i64 v] w fun e w' => ∃ B m d, e = .returned (.slice B m d) ∧ w'.ownsRow w.heap.size 5 1 (.slice B m d) m (u8s (appU l v)) ∧ Below w.heap.size w w' := by
  obtain ⟨iByte, hiByte, hzByte0, hzByte1, hzByte2⟩ := info_parts Byte_info
  have HL := hide (show l.length = n from h.maplen)
  by_cases hv : 0 ≤ v ∧ v ≤ 1000000000000
  · obtain ⟨hv0, hv1⟩ := hv
    have e1 : inR v 0 1000000000000 = true := inR_true.2 ⟨hv0, hv1⟩
    have hfin := hide (show appU l v = l ++ uvl v.toNat by simp [appU, e1])
    go_enter Try.func24, Try.ntmps24
    go_wp2_with (first | (go_at_call 96; refine (copyBytes_any h hn).mono ?_; rintro e w1 ⟨A1, c1, rfl, ho1, hb1⟩) | (go_at_call 93; refine (implInRange_any _ _ _ _).mono ?_; rintro e w' ⟨rfl, rfl⟩))
    have ho1' : w1.ownsRow w.heap.size 5 1 (.slice A1 n c1) n (u8s l) := ho1
    go_loopw [1, 5] (fun xx o wr => ∃ (x : Int) (p : List Int) (B : Option Addr) (d : Nat), 0 ≤ x ∧ (p.length : Int) + x ≤ v ∧ xx = .int .i64 x ∧ o = .slice B (n + p.length) d ∧ wr.ownsRow w.heap.size 5 1 (.slice B (n + p.length) d) (n + p.length) (u8s (l ++ p)) ∧ Hid (p ++ uvl x.toNat = uvl v.toNat) ∧ Below w.heap.size w wr) (fun xx _ _ => (intOf xx).toNat)
    case atStart => exact ⟨v, [], A1, c1, hv0, by simp, rfl, by simp, by simpa using ho1', rfl, hb1⟩
    case round =>
      obtain ⟨x, p, B, d, hx0, hpx, rfl, rfl, ho, hu, hb⟩ := hrel
      have hz := hb.size
      by_cases hx : 128 ≤ x
      · have hx' : 127 < x := by omega
        go_wp2_with (at_builtin; refine wpList_app2 _ rfl (.tmp 14) (.tmp 19) 22 rfl 5 iByte (.int .u8 0) 1 1 Try.underlying22 hiByte hzByte0 hzByte1 hzByte2 rfl (by omega) rfl (ho.alloc _) rfl (Rd.one _ _ _) (u8s_one [_]) (by unfold maxLen; omega) (by omega) rfl rfl (hb.alloc hz _) (by simp; omega) (Nat.le_refl _) (by simp; omega) ?_; intro A2 c2 w2 ho2 hb2 hg2 hat2)
        have e1 : (x / 128).toNat = x.toNat / 128 := by omega
        have e2 : ((x.toNat % 128 + 128 : Nat) : Int) = x % 128 + 128 := by omega
        go_roundw
        case rel =>
          refine ⟨x / 128, p ++ [x % 128 + 128], A2, c2, by omega, by simp; omega, rfl, by simp [Nat.add_assoc], by simpa [u8s, Nat.add_assoc] using ho2, ?_, hb2⟩
          show _ = _
          have hu' := hu.out
          rw [uvl_ge (by omega), e2] at hu'
          rw [← hu', e1]
          simp
        case measure => simp [intOf]; omega
      · have hx' : ¬ 127 < x := by omega
        go_wp2_with (at_builtin; refine wpList_app2 _ rfl (.tmp 23) (.tmp 26) 22 rfl 5 iByte (.int .u8 0) 1 1 Try.underlying22 hiByte hzByte0 hzByte1 hzByte2 rfl (by omega) rfl (ho.alloc _) rfl (Rd.one _ _ _) (u8s_one [_]) (by unfold maxLen; omega) (by omega) rfl rfl (hb.alloc hz _) (by simp; omega) (Nat.le_refl _) (by simp; omega) ?_; intro A2 c2 w2 ho2 hb2 hg2 hat2)
        go_ret
        have hu' := hu.out
        rw [uvl_lt (by omega)] at hu'
        have e2 : ((x.toNat : Nat) : Int) = x := by omega
        rw [e2] at hu'
        refine ⟨_, _, _, rfl, ?_, hb2⟩
        rw [hfin.out, ← hu']
        simpa [u8s] using ho2
  · have e1 : inR v 0 1000000000000 = false := inR_false.2 hv
    have hfin := hide (show appU l v = l by simp [appU, e1])
    clear hv
    go_enter Try.func24, Try.ntmps24
    go_wp2_with (first | (go_at_call 96; refine (copyBytes_any h hn).mono ?_; rintro e w1 ⟨A1, c1, rfl, ho1, hb1⟩) | (go_at_call 93; refine (implInRange_any _ _ _ _).mono ?_; rintro e w' ⟨rfl, rfl⟩))
    go_ret
    exact ⟨_, _, _, rfl, by rw [hfin.out]; exact ho1, hb1⟩
end Go.Proofs.Ytmlkhgekacjidae
