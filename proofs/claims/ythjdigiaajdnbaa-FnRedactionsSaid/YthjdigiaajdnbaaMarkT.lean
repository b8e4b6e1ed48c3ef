/- The laws' own helper markText: the text that marks a number. -/
import Derived.Test.YthjdigiaajdnbaaBase
import Derived.Test.YthjdigiaajdnbaaRows
import Derived.Laws.IdiomStrings
namespace Go.Proofs.Ythjdigiaajdnbaa
open Go.RowKit Go.WideShapes Go.ChangeShapes Go.Deep
set_option linter.unusedSimpArgs false
set_option linter.unusedVariables false

/-- the decimal digits of m, ahead of acc; fuel f -/
def decF : Nat → Nat → List UInt8 → List UInt8
  | 0, _, acc => acc
  | f + 1, m, acc => if m = 0 then acc else decF f (m / 10) (UInt8.ofNat (48 + m % 10) :: acc)
theorem decF_zero (f : Nat) (acc : List UInt8) : decF f 0 acc = acc := by cases f <;> simp [decF]
theorem decF_enough : ∀ (f g m : Nat) (acc : List UInt8), m ≤ f → m ≤ g → decF f m acc = decF g m acc := by
  intro f
  induction f with
  | zero =>
    intro g m acc hf hg
    have : m = 0 := by omega
    subst this
    rw [decF_zero, decF_zero]
  | succ f ih =>
    intro g m acc hf hg
    cases g with
    | zero =>
      have : m = 0 := by omega
      subst this
      rw [decF_zero, decF_zero]
    | succ g =>
      simp only [decF]
      split
      · rfl
      · exact ih g (m / 10) _ (by omega) (by omega)
def dec (m : Nat) (acc : List UInt8) : List UInt8 := decF m m acc
theorem dec_zero (acc : List UInt8) : dec 0 acc = acc := rfl
theorem dec_step {m : Nat} (h : m ≠ 0) (acc : List UInt8) : dec m acc = dec (m / 10) (UInt8.ofNat (48 + m % 10) :: acc) := by
  obtain ⟨k, rfl⟩ : ∃ k, m = k + 1 := ⟨m - 1, by omega⟩
  unfold dec
  rw [decF, if_neg h]
  exact decF_enough _ _ _ _ (by omega) (Nat.le_refl _)

def markT (k : Int) : ByteArray := if k ≤ 0 then ⟨#[109, 48]⟩ else ⟨(109 :: dec k.toNat []).toArray⟩
def mkS (k : Int) (n : Nat) : List ByteArray := (List.range n).map fun j : Nat => markT (k + (j : Int))
theorem mkS_length (k : Int) (n : Nat) : (mkS k n).length = n := by simp [mkS]
theorem mkS_succ (k : Int) (n : Nat) : mkS k (n + 1) = mkS k n ++ [markT (k + (n : Int))] := by simp [mkS, List.range_succ]
theorem mkS_at (k : Int) {n j : Nat} (h : j < n) : (mkS k n)[j]? = some (markT (k + (j : Int))) := by simp [mkS, h]

end Go.Proofs.Ythjdigiaajdnbaa
