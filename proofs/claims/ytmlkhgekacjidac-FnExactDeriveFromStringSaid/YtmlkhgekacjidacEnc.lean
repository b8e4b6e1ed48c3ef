/- Contracts of AppendBytes, EncodeInts, bytesOf and BytesToInts, of the program and of the reference. For slices of at most 2^40 elements. -/
import Derived.Test.YtmlkhgekacjidacUv
namespace Go.Proofs.Ytmlkhgekacjidac
open Go.RowKit Go.WideShapes Go.ChangeShapes Go.Deep
set_option linter.unusedSimpArgs false
set_option linter.unusedVariables false

def encL (l : List Int) : List Int := l.foldl appU []
theorem encL_snoc (l : List Int) (x : Int) : encL (l ++ [x]) = appU (encL l) x := by simp [encL]
theorem encL_acc : ∀ (l acc : List Int), (l.foldl appU acc).length ≤ acc.length + 6 * l.length := by
  intro l
  induction l with
  | nil => intro acc; simp
  | cons x l ih =>
    intro acc
    have h1 := ih (appU acc x)
    have h2 := appU_len acc x
    simp only [List.foldl_cons, List.length_cons]
    omega
theorem encL_len (l : List Int) : (encL l).length ≤ 6 * l.length := by simpa [encL] using encL_acc l []
theorem own_base {w : World} {b b' : Nat} {e : TypeId} {s n : Nat} {v : Value} {xs : List Value} (h : w.ownsRow b e s v n xs) (hb : b' ≤ b) : w.ownsRow b' e s v n xs := by
  refine ⟨h.1, ?_⟩
  rcases h.2 with h2 | ⟨g, cap, cur, hv, hg, r⟩
  · exact .inl h2
  · exact .inr ⟨g, cap, cur, hv, Nat.le_trans hb hg, r⟩
set_option maxHeartbeats 1000000 in
theorem specAppendBytes_any {A A2 : Option Addr} {n c n2 c2 : Nat} {l l2 : List Int} {w : World} (h : Rd w 1 A n (u8s l)) (h2 : Rd w 1 A2 n2 (u8s l2)) (hn : n ≤ 1099511627776) (hn2 : n2 ≤ 1099511627776) :
    Calls Try.prog 21 #[.slice A n c, .slice A2 n2 c2] w fun e w' => ∃ B m d, e = .returned (.slice B m d) ∧ w'.ownsRow w.heap.size 5 1 (.slice B m d) m (u8s (appU l n2 ++ l2)) ∧ Below w.heap.size w w' := by
  obtain ⟨iByte, hiByte, hzByte0, hzByte1, hzByte2⟩ := info_parts Byte_info
  have HL := hide (show l.length = n from h.maplen)
  have hlen := appU_len l n2
  rw [HL.out] at hlen
  go_enter Try.func21, Try.ntmps21
  go_wp2_with fail
  refine (specAppendUvarint_any h hn).mono ?_
  rintro e w1 ⟨B1, m1, d1, rfl, ho1, hb1⟩
  have hm := ho1.1
  rw [u8s_length, Nat.mul_one] at hm
  rw [hm] at hlen
  clear hm
  have hz := hb1.size
  have hr2 := h2.below hb1
  go_wp2_with (at_builtin; refine wpList_app2 _ rfl (.tmp 8) (.tmp 9) 22 rfl 5 iByte (.int .u8 0) 1 1 Try.underlying22 hiByte hzByte0 hzByte1 hzByte2 rfl (by omega) rfl ho1 rfl hr2 (u8s_one _) (by unfold maxLen; omega) (by omega) rfl rfl hb1 hz (Nat.le_refl _) hz ?_; intro A3 c3 w3 ho3 hb3 hg3 hat3)
  go_ret
  exact ⟨_, _, _, rfl, by simpa [u8s] using ho3, hb3⟩
set_option maxHeartbeats 1000000 in
theorem implAppendBytes_any {A A2 : Option Addr} {n c n2 c2 : Nat} {l l2 : List Int} {w : World} (h : Rd w 1 A n (u8s l)) (h2 : Rd w 1 A2 n2 (u8s l2)) (hn : n ≤ 1099511627776) (hn2 : n2 ≤ 1099511627776) :
    Calls Try.prog 22 #[.slice A n c, .slice A2 n2 c2] w fun e w' => ∃ B m d, e = .returned (.slice B m d) ∧ w'.ownsRow w.heap.size 5 1 (.slice B m d) m (u8s (appU l n2 ++ l2)) ∧ Below w.heap.size w w' := by
  obtain ⟨iByte, hiByte, hzByte0, hzByte1, hzByte2⟩ := info_parts Byte_info
  have HL := hide (show l.length = n from h.maplen)
  have hlen := appU_len l n2
  rw [HL.out] at hlen
  go_enter Try.func22, Try.ntmps22
  go_wp2_with fail
  refine (implAppendUvarint_any h hn).mono ?_
  rintro e w1 ⟨B1, m1, d1, rfl, ho1, hb1⟩
  have hm := ho1.1
  rw [u8s_length, Nat.mul_one] at hm
  rw [hm] at hlen
  clear hm
  have hz := hb1.size
  have hr2 := h2.below hb1
  go_wp2_with (at_builtin; refine wpList_app2 _ rfl (.tmp 8) (.tmp 9) 22 rfl 5 iByte (.int .u8 0) 1 1 Try.underlying22 hiByte hzByte0 hzByte1 hzByte2 rfl (by omega) rfl ho1 rfl hr2 (u8s_one _) (by unfold maxLen; omega) (by omega) rfl rfl hb1 hz (Nat.le_refl _) hz ?_; intro A3 c3 w3 ho3 hb3 hg3 hat3)
  go_ret
  exact ⟨_, _, _, rfl, by simpa [u8s] using ho3, hb3⟩
end Go.Proofs.Ytmlkhgekacjidac
