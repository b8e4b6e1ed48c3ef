/- Contracts of the functions that copy a slice, and of AppendUvarint, AppendBytes and EncodeInts, of the program and of the reference. For slices of at most 2^40 elements. -/
import Derived.Test.YthjdigiaajdnbaaIntS
import Derived.Test.YthjdigiaajdnbaaByteS
import Derived.Test.YthjdigiaajdnbaaInt
import Derived.Laws.BitsAllLaws
import Derived.Laws.BitsLemmas
namespace Go.Proofs.Ythjdigiaajdnbaa
open Go.RowKit Go.WideShapes Go.ChangeShapes Go.Deep
set_option linter.unusedSimpArgs false
set_option linter.unusedVariables false
set_option maxHeartbeats 400000 in
theorem copyInts_any {A : Option Addr} {n c : Nat} {l : List Int} {w : World} (h : Rd w 1 A n (ints l)) (hn : n ≤ 1099511627776) :
    Calls Try.prog 33 #[.slice A n c] w fun e w' => ∃ B d, e = .returned (.slice B n d) ∧ w'.ownsRow w.heap.size 3 1 (.slice B n d) n (ints l) ∧ Below w.heap.size w w' := by
  obtain ⟨iInt, hiInt, hzInt0, hzInt1, hzInt2⟩ := info_parts Int_info
  have hb0 : Below w.heap.size w (w.alloc (.cells #[] 3)) := (Below.refl _ _).alloc (Nat.le_refl _) _
  have ho0 := World.ownsRow_lit (base := w.heap.size) (e := 3) (size := 1) w #[] 0 (Nat.le_refl _) (by unfold maxLen; omega) rfl
  have hr0 := h.below hb0
  go_enter Try.func33, Try.ntmps33
  go_wp2_with (at_builtin; refine wpList_app2 _ rfl (.tmp 3) (.tmp 4) 24 rfl 3 iInt (.int .i64 0) 1 8 Try.underlying24 hiInt hzInt0 hzInt1 hzInt2 rfl (by omega) rfl ho0 rfl hr0 (ints_one _) (by unfold maxLen; omega) (by omega) (Nat.zero_add n) rfl hb0 (by simp) (Nat.le_refl _) (by simp) ?_; intro A1 c1 w1 ho1 hb1 hg1 hat1)
  go_ret
  exact ⟨_, _, rfl, by simpa using ho1, hb1⟩

/-- the varint of m -/
def uvF : Nat → Nat → List Int
  | 0, m => [(m : Int)]
  | f + 1, m => if m < 128 then [(m : Int)] else ((m % 128 + 128 : Nat) : Int) :: uvF f (m / 128)
theorem uvF_enough : ∀ (f g m : Nat), m ≤ f → m ≤ g → uvF f m = uvF g m := by
  intro f
  induction f with
  | zero =>
    intro g m hf hg
    obtain rfl : m = 0 := by omega
    cases g <;> simp [uvF]
  | succ f ih =>
    intro g m hf hg
    cases g with
    | zero =>
      obtain rfl : m = 0 := by omega
      simp [uvF]
    | succ g =>
      simp only [uvF]
      split
      · rfl
      · rw [ih g (m / 128) (by omega) (by omega)]
def uvl (m : Nat) : List Int := uvF m m
theorem uvl_lt {m : Nat} (h : m < 128) : uvl m = [(m : Int)] := by
  unfold uvl
  cases m with
  | zero => rfl
  | succ m => simp only [uvF]; rw [if_pos h]
theorem uvl_ge {m : Nat} (h : 128 ≤ m) : uvl m = ((m % 128 + 128 : Nat) : Int) :: uvl (m / 128) := by
  obtain ⟨k, rfl⟩ : ∃ k, m = k + 1 := ⟨m - 1, by omega⟩
  unfold uvl
  simp only [uvF]
  rw [if_neg (by omega)]
  congr 1
  exact uvF_enough _ _ _ (by omega) (by omega)
theorem uvl_len : ∀ (k m : Nat), m < 128 ^ (k + 1) → (uvl m).length ≤ k + 1 := by
  intro k
  induction k with
  | zero => intro m hm; rw [uvl_lt (by simpa using hm)]; simp
  | succ k ih =>
    intro m hm
    by_cases h : m < 128
    · rw [uvl_lt h]; simp
    · rw [uvl_ge (by omega)]
      have := ih (m / 128) (by rw [Nat.div_lt_iff_lt_mul (by omega)]; rw [Nat.pow_succ] at hm; exact hm)
      simp; omega
/-- what AppendUvarint returns -/
def appU (l : List Int) (v : Int) : List Int := if inR v 0 1000000000000 = true then l ++ uvl v.toNat else l
theorem appU_len (l : List Int) (v : Int) : (appU l v).length ≤ l.length + 6 := by
  unfold appU
  split
  · rename_i h
    have h' := inR_true.1 h
    have := uvl_len 5 v.toNat (by simp; omega)
    simp; omega
  · omega
theorem appU_ge (l : List Int) (v : Int) : l.length ≤ (appU l v).length := by
  unfold appU
  split <;> simp

theorem ofInt_i64 (a : Nat) (ha : a < 9223372036854775808) : (BitVec.ofInt 64 (a : Int)).toNat = a := by
  rw [BitVec.ofInt_natCast, BitVec.toNat_ofNat]; exact Nat.mod_eq_of_lt (by omega)
theorem i64_and_nat (a b : Nat) (ha : a < 9223372036854775808) (hb : b < 9223372036854775808) : bits .and .i64 (a : Int) (b : Int) = ((a &&& b : Nat) : Int) := by
  have hx : a &&& b < 2 ^ 63 := Nat.and_lt_two_pow _ (by omega)
  show IntKind.i64.wrap ((BitVec.ofInt 64 (a : Int) &&& BitVec.ofInt 64 (b : Int)).toNat : Int) = _
  rw [BitVec.toNat_and, ofInt_i64 a ha, ofInt_i64 b hb, IntKind.wrap_i64]
  omega
theorem i64_or_nat (a b : Nat) (ha : a < 9223372036854775808) (hb : b < 9223372036854775808) : bits .or .i64 (a : Int) (b : Int) = ((a ||| b : Nat) : Int) := by
  have hx : a ||| b < 2 ^ 63 := Nat.or_lt_two_pow (by omega) (by omega)
  show IntKind.i64.wrap ((BitVec.ofInt 64 (a : Int) ||| BitVec.ofInt 64 (b : Int)).toNat : Int) = _
  rw [BitVec.toNat_or, ofInt_i64 a ha, ofInt_i64 b hb, IntKind.wrap_i64]
  omega
theorem bits_and_127 {x : Int} (h0 : 0 ≤ x) (h1 : x < 9223372036854775808) : bits .and .i64 x 127 = x % 128 := by
  obtain ⟨a, rfl⟩ := Int.eq_ofNat_of_zero_le h0
  have := i64_and_nat a 127 (by omega) (by omega)
  rw [show ((127 : Nat) : Int) = 127 from rfl] at this
  rw [this, show (127 : Nat) = 2 ^ 7 - 1 from rfl, Nat.and_two_pow_sub_one_eq_mod]
  simp
theorem bits_or_128 {x : Int} (h0 : 0 ≤ x) (h1 : x < 128) : bits .or .i64 x 128 = x + 128 := by
  obtain ⟨a, rfl⟩ := Int.eq_ofNat_of_zero_le h0
  have := i64_or_nat a 128 (by omega) (by omega)
  rw [show ((128 : Nat) : Int) = 128 from rfl] at this
  rw [this]
  have e := Nat.two_pow_add_eq_or_of_lt (b := a) (i := 7) (by omega) 1
  simp at e
  rw [Nat.or_comm, ← e]
  simp; omega
end Go.Proofs.Ythjdigiaajdnbaa
