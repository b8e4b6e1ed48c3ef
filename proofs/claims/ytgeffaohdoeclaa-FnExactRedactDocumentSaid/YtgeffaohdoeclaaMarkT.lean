/- The laws' own helper markText: the text that marks a number. -/
import Derived.Test.YtgeffaohdoeclaaBase
import Derived.Test.YtgeffaohdoeclaaRows
import Derived.Laws.IdiomStrings
namespace Go.Proofs.Ytgeffaohdoeclaa
open Go.RowKit Go.WideShapes Go.ChangeShapes Go.Deep
set_option linter.unusedSimpArgs false
set_option linter.unusedVariables false

/-- the decimal digits of m, ahead of acc; fuel f -/
def decF : Nat → Nat → List UInt8 → List UInt8
  | 0, _, acc => acc
  | f + 1, m, acc => if m = 0 then acc else decF f (m / 10) (UInt8.ofNat (48 + m % 10) :: acc)
theorem decF_zero (f : Nat) (acc : List UInt8) : decF f 0 acc = acc := by cases f <;> simp [decF]
theorem decF_enough : ∀ (f g m : Nat) (acc : List UInt8), m ≤ f → m ≤ g → decF f m acc = decF g m acc := by
  intro f
  induction f with
  | zero =>
    intro g m acc hf hg
    have : m = 0 := by omega
    subst this
    rw [decF_zero, decF_zero]
  | succ f ih =>
    intro g m acc hf hg
    cases g with
    | zero =>
      have : m = 0 := by omega
      subst this
      rw [decF_zero, decF_zero]
    | succ g =>
      simp only [decF]
      split
      · rfl
      · exact ih g (m / 10) _ (by omega) (by omega)
def dec (m : Nat) (acc : List UInt8) : List UInt8 := decF m m acc
theorem dec_zero (acc : List UInt8) : dec 0 acc = acc := rfl
theorem dec_step {m : Nat} (h : m ≠ 0) (acc : List UInt8) : dec m acc = dec (m / 10) (UInt8.ofNat (48 + m % 10) :: acc) := by
  obtain ⟨k, rfl⟩ : ∃ k, m = k + 1 := ⟨m - 1, by omega⟩
  unfold dec
  rw [decF, if_neg h]
  exact decF_enough _ _ _ _ (by omega) (Nat.le_refl _)

def markT (k : Int) : ByteArray := if k ≤ 0 then ⟨#[109, 48]⟩ else ⟨(109 :: dec k.toNat []).toArray⟩
def mkS (k : Int) (n : Nat) : List ByteArray := (List.range n).map fun j : Nat => markT (k + (j : Int))
theorem mkS_length (k : Int) (n : Nat) : (mkS k n).length = n := by simp [mkS]
theorem mkS_succ (k : Int) (n : Nat) : mkS k (n + 1) = mkS k n ++ [markT (k + (n : Int))] := by simp [mkS, List.range_succ]
theorem mkS_at (k : Int) {n j : Nat} (h : j < n) : (mkS k n)[j]? = some (markT (k + (j : Int))) := by simp [mkS, h]

set_option maxHeartbeats 400000 in
theorem markText_any {k : Int} (w : World) (h1 : 0 ≤ k) (h2 : k ≤ 2251799813685248) :
    Calls Try.prog 111 #[.int .i64 k] w fun e w' => e = .returned (.string (markT k)) ∧ Below w.heap.size w w' := by
  by_cases h0 : k ≤ 0
  · have hfin := hide (show markT k = ⟨#[109, 48]⟩ by simp [markT, h0])
    go_enter Try.func111, Try.ntmps111
    go_wp2
    go_ret
    exact ⟨ret_s hfin.out.symm, Below.refl _ _⟩
  · have hfin := hide (show markT k = ⟨(109 :: dec k.toNat []).toArray⟩ by simp [markT, h0])
    have hcv := conv_one (P := Try.prog) 22 9 5 Try.underlying22 Try.underlying5 Try.underlying9
    go_enter Try.func111, Try.ntmps111
    go_wp2
    go_loopw [0, 3] (fun kk o wr => ∃ (x : Int) (l : List UInt8), 0 ≤ x ∧ (l.length : Int) + x ≤ k ∧ kk = .int .i64 x ∧ o = .string ⟨l.toArray⟩ ∧ Hid (dec x.toNat l = dec k.toNat []) ∧ Below w.heap.size w wr) (fun kk _ _ => (intOf kk).toNat)
    case atStart => exact ⟨k, [], by omega, by simp, rfl, rfl, rfl, Below.refl _ _⟩
    case round =>
      obtain ⟨x, l, hx0, hxk, rfl, rfl, hd, hb⟩ := hrel
      by_cases hx : 0 < x
      · have hll : (1 + l.length : Int) ≤ 9223372036854775807 := by omega
        go_wp2
        have e1 : (x / 10).toNat = x.toNat / 10 := by omega
        have e2 : (48 + x % 10).toNat = 48 + x.toNat % 10 := by omega
        have hz := hb.size
        go_roundw
        case rel =>
          refine ⟨x / 10, UInt8.ofNat (48 + x % 10).toNat :: l, by omega, by simp; omega, rfl, val_s (cons_bytes _ _), ?_, hb.alloc hz _⟩
          show dec _ _ = _
          rw [e1, e2, ← dec_step (by omega)]
          exact hd
        case measure => simp [intOf]; omega
      · have hx1 : x = 0 := by omega
        subst hx1
        have hll : (1 + l.length : Int) ≤ 9223372036854775807 := by omega
        go_wp2
        go_ret
        exact ⟨ret_s (by rw [hfin.out, ← hd.out]; exact cons_bytes _ _), hb⟩
end Go.Proofs.Ytgeffaohdoeclaa
