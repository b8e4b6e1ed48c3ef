/- Contracts of DeriveFromString, of the program and of the reference. For strings of at most 2^37 bytes. -/
import Derived.Test.YtmlkhgekacjidadB2I
import Derived.Test.YtmlkhgekacjidadKeyed
import Derived.Test.YtmlkhgekacjidadStrB
namespace Go.Proofs.Ytmlkhgekacjidad
open Go.RowKit Go.WideShapes Go.ChangeShapes Go.Deep
set_option linter.unusedSimpArgs false
set_option linter.unusedVariables false
def deriveF (key : Int) (s : ByteArray) : Int := max 1 (keyedF key ((s.size : Int) :: bytesL s))
theorem deriveF_bd (key : Int) (s : ByteArray) : 1 ≤ deriveF key s ∧ deriveF key s ≤ 2147483646 := by
  have := keyedF_bd key ((s.size : Int) :: bytesL s)
  unfold deriveF
  omega
set_option maxHeartbeats 1000000 in
theorem implDeriveFromString_any {s : ByteArray} {key : Int} {w : World} (hn : s.size ≤ 137438953472) (hk : I64 key) :
    Calls Try.prog 45 #[.int .i64 key, .string s] w fun e w' => e = .returned (.int .i64 (deriveF key s)) ∧ Below w.heap.size w w' := by
  have hcv := fun W => Lib.run_convert_string_bytes (P := Try.prog) W 9 22 5 s Try.underlying9 Try.underlying22 Try.underlying5
  have hI : ∀ x ∈ (s.size : Int) :: bytesL s, I64 x := by
    intro x hx
    simp at hx
    rcases hx with rfl | hx
    · exact ⟨by omega, by omega⟩
    · have := bytesL_bd s x hx
      exact ⟨by omega, by omega⟩
  have hl := bytesL_length s
  have hbb := below_bytes w 5 s
  have hbz := hbb.size
  have HL := hide hl
  clear hl
  go_enter Try.func45, Try.ntmps45
  go_wp2_with fail
  refine (implBytesToInts_any (Rd.bytes w _ s) (by omega) (bytesL_bd s)).mono ?_
  rintro e w1 ⟨B1, m1, d1, rfl, ho1, hb1⟩
  have hm1 : m1 ≤ 137438953473 := by
    have h := ho1.1
    rw [ints_length, Nat.mul_one, List.length_cons, HL.out] at h
    omega
  have hs1 := hb1.size
  go_wp2_with fail
  refine (implKeyedHash_any (Rd.of_own ho1) (by omega) hI hk).mono ?_
  rintro e w2 ⟨rfl, hb2⟩
  have hbd := keyedF_bd key ((s.size : Int) :: bytesL s)
  have hbl : Below w.heap.size w w2 := Below.next_ (Below.next_ hbb hbz hb1) (by omega) hb2
  by_cases h0 : keyedF key ((s.size : Int) :: bytesL s) = 0
  · have hfin := hide (show deriveF key s = 1 by unfold deriveF; omega)
    have hb0 : (keyedF key ((s.size : Int) :: bytesL s) == 0) = true := by simpa using h0
    clear h0
    go_wp2_with fail
    go_ret
    exact ⟨ret_i hfin.out.symm, hbl⟩
  · have hfin := hide (show deriveF key s = keyedF key ((s.size : Int) :: bytesL s) by unfold deriveF; omega)
    have hb0 : (keyedF key ((s.size : Int) :: bytesL s) == 0) = false := by simpa using h0
    clear h0
    go_wp2_with fail
    go_ret
    exact ⟨ret_i hfin.out.symm, hbl⟩
end Go.Proofs.Ytmlkhgekacjidad
