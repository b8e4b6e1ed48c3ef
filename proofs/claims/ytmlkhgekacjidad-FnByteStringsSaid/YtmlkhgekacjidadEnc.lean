/- Contracts of AppendBytes, EncodeInts, bytesOf and BytesToInts, of the program and of the reference. For slices of at most 2^40 elements. -/
import Derived.Test.YtmlkhgekacjidadUv
import Derived.Test.YtmlkhgekacjidadOwnB
namespace Go.Proofs.Ytmlkhgekacjidad
open Go.RowKit Go.WideShapes Go.ChangeShapes Go.Deep
set_option linter.unusedSimpArgs false
set_option linter.unusedVariables false

def encL (l : List Int) : List Int := l.foldl appU []
theorem encL_snoc (l : List Int) (x : Int) : encL (l ++ [x]) = appU (encL l) x := by simp [encL]
theorem encL_acc : ∀ (l acc : List Int), (l.foldl appU acc).length ≤ acc.length + 6 * l.length := by
  intro l
  induction l with
  | nil => intro acc; simp
  | cons x l ih =>
    intro acc
    have h1 := ih (appU acc x)
    have h2 := appU_len acc x
    simp only [List.foldl_cons, List.length_cons]
    omega
theorem encL_len (l : List Int) : (encL l).length ≤ 6 * l.length := by simpa [encL] using encL_acc l []
set_option maxHeartbeats 1000000 in
theorem implAppendBytes_any {A A2 : Option Addr} {n c n2 c2 : Nat} {l l2 : List Int} {w : World} (h : Rd w 1 A n (u8s l)) (h2 : Rd w 1 A2 n2 (u8s l2)) (hn : n ≤ 1099511627776) (hn2 : n2 ≤ 1099511627776) :
    Calls Try.prog 61 #[.slice A n c, .slice A2 n2 c2] w fun e w' => ∃ B m d, e = .returned (.slice B m d) ∧ w'.ownsRow w.heap.size 5 1 (.slice B m d) m (u8s (appU l n2 ++ l2)) ∧ Below w.heap.size w w' := by
  obtain ⟨iByte, hiByte, hzByte0, hzByte1, hzByte2⟩ := info_parts Byte_info
  have HL := hide (show l.length = n from h.maplen)
  have hlen := appU_len l n2
  rw [HL.out] at hlen
  go_enter Try.func61, Try.ntmps61
  go_wp2_with fail
  refine (implAppendUvarint_any h hn).mono ?_
  rintro e w1 ⟨B1, m1, d1, rfl, ho1, hb1⟩
  have hm := ho1.1
  rw [u8s_length, Nat.mul_one] at hm
  rw [hm] at hlen
  clear hm
  have hz := hb1.size
  have hr2 := h2.below hb1
  go_wp2_with (at_builtin; refine wpList_app2 _ rfl (.tmp 8) (.tmp 9) 22 rfl 5 iByte (.int .u8 0) 1 1 Try.underlying22 hiByte hzByte0 hzByte1 hzByte2 rfl (by omega) rfl ho1 rfl hr2 (u8s_one _) (by unfold maxLen; omega) (by omega) rfl rfl hb1 hz (Nat.le_refl _) hz ?_; intro A3 c3 w3 ho3 hb3 hg3 hat3)
  go_ret
  exact ⟨_, _, _, rfl, by simpa [u8s] using ho3, hb3⟩
set_option maxHeartbeats 1000000 in
theorem specEncodeInts_any {A : Option Addr} {n c : Nat} {l : List Int} {w : World} (h : Rd w 1 A n (ints l)) (hn : n ≤ 137438953472) :
    Calls Try.prog 27 #[.slice A n c] w fun e w' => ∃ B m d, e = .returned (.slice B m d) ∧ w'.ownsRow w.heap.size 5 1 (.slice B m d) m (u8s (encL l)) ∧ Below w.heap.size w w' := by
  have HL := hide (show l.length = n from h.len)
  have ho0 := World.ownsRow_lit (base := w.heap.size) (e := 5) (size := 1) w #[] 0 (Nat.le_refl _) (by unfold maxLen; omega) rfl
  have hb0 : Below w.heap.size w (w.alloc (.cells #[] 5)) := (Below.refl _ _).alloc (Nat.le_refl _) _
  go_enter Try.func27, Try.ntmps27
  go_wp2
  go_loopw [3, 4] (fun o i wr => ∃ (k : Nat) (p : List Int) (B : Option Addr) (m d : Nat), k ≤ n ∧ i = .int .i64 k ∧ o = .slice B m d ∧ m ≤ 6 * k ∧ wr.ownsRow w.heap.size 5 1 (.slice B m d) m (u8s p) ∧ Hid (p = encL (l.take k)) ∧ Below w.heap.size w wr) (fun _ i _ => n - (intOf i).toNat)
  case atStart => exact ⟨0, [], _, 0, _, Nat.zero_le _, rfl, rfl, by simp, by simpa [u8s] using ho0, rfl, hb0⟩
  case round =>
    obtain ⟨k, p, B, m, d, hk, rfl, rfl, hm, ho, hp, hb⟩ := hrel
    by_cases hlt : k < n
    · obtain ⟨ad, x, rfl, hx, hcx⟩ := Rd.int (h.below hb) hlt
      have hpl := ho.1
      rw [u8s_length, Nat.mul_one] at hpl
      have hlen := appU_len p x
      rw [hpl] at hlen
      clear hpl
      have HX := hide hx
      clear hx
      have hz := hb.size
      go_wp2_with fail
      refine (specAppendUvarint_any (Rd.of_own ho) (by omega)).mono ?_
      rintro e w1 ⟨B1, m1, d1, rfl, ho1, hb1⟩
      have hm1 := ho1.1
      rw [u8s_length, Nat.mul_one] at hm1
      rw [hm1] at hlen
      clear hm1
      go_wp2_with fail
      go_roundw
      case rel => exact ⟨k + 1, _, B1, m1, d1, by omega, by go_num, rfl, by omega, own_base ho1 hz, by show _ = _; rw [hp.out, take_snoc_ HX.out, encL_snoc], Below.next_ hb hz hb1⟩
      case measure => simp [intOf]; omega
    · go_wp2_with fail
      go_ret
      have := HL.out
      exact ⟨_, _, _, rfl, by rw [hp.out, List.take_of_length_le (by omega)] at ho; exact ho, hb⟩
set_option maxHeartbeats 1000000 in
theorem implEncodeInts_any {A : Option Addr} {n c : Nat} {l : List Int} {w : World} (h : Rd w 1 A n (ints l)) (hn : n ≤ 137438953472) :
    Calls Try.prog 29 #[.slice A n c] w fun e w' => ∃ B m d, e = .returned (.slice B m d) ∧ w'.ownsRow w.heap.size 5 1 (.slice B m d) m (u8s (encL l)) ∧ Below w.heap.size w w' := by
  have HL := hide (show l.length = n from h.len)
  go_enter Try.func29, Try.ntmps29
  go_wp2
  go_loopw [3, 8] (fun o i wr => ∃ (k : Nat) (p : List Int) (B : Option Addr) (m d : Nat), k ≤ n ∧ i = .int .i64 k ∧ o = .slice B m d ∧ m ≤ 6 * k ∧ wr.ownsRow w.heap.size 5 1 (.slice B m d) m (u8s p) ∧ Hid (p = encL (l.take k)) ∧ Below w.heap.size w wr) (fun _ i _ => n - (intOf i).toNat)
  case atStart => exact ⟨0, [], none, 0, 0, Nat.zero_le _, rfl, rfl, by simp, World.ownsRow_nil _ _ _ _, rfl, Below.refl _ _⟩
  case round =>
    obtain ⟨k, p, B, m, d, hk, rfl, rfl, hm, ho, hp, hb⟩ := hrel
    by_cases hlt : k < n
    · obtain ⟨ad, x, rfl, hx, hcx⟩ := Rd.int (h.below hb) hlt
      have hpl := ho.1
      rw [u8s_length, Nat.mul_one] at hpl
      have hlen := appU_len p x
      rw [hpl] at hlen
      clear hpl
      have HX := hide hx
      clear hx
      have hz := hb.size
      go_wp2_with fail
      refine (implAppendUvarint_any (Rd.of_own ho) (by omega)).mono ?_
      rintro e w1 ⟨B1, m1, d1, rfl, ho1, hb1⟩
      have hm1 := ho1.1
      rw [u8s_length, Nat.mul_one] at hm1
      rw [hm1] at hlen
      clear hm1
      go_wp2_with fail
      go_roundw
      case rel => exact ⟨k + 1, _, B1, m1, d1, by omega, by go_num, rfl, by omega, own_base ho1 hz, by show _ = _; rw [hp.out, take_snoc_ HX.out, encL_snoc], Below.next_ hb hz hb1⟩
      case measure => simp [intOf]; omega
    · go_wp2_with fail
      go_ret
      have := HL.out
      exact ⟨_, _, _, rfl, by rw [hp.out, List.take_of_length_le (by omega)] at ho; exact ho, hb⟩
end Go.Proofs.Ytmlkhgekacjidad
