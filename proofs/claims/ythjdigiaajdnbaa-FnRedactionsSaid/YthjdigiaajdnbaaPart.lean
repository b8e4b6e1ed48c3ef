/- Contracts of PartDigest, of the program and of the reference. For strings of at most 2^37 bytes. -/
import Derived.Test.YthjdigiaajdnbaaB2I
import Derived.Test.YthjdigiaajdnbaaKeyed
import Derived.Test.YthjdigiaajdnbaaStrB
namespace Go.Proofs.Ythjdigiaajdnbaa
open Go.RowKit Go.WideShapes Go.ChangeShapes Go.Deep
set_option linter.unusedSimpArgs false
set_option linter.unusedVariables false
def partF (m : Int) (s : ByteArray) (salt : Int) : Int := digestF m (salt :: bytesL s)
theorem partF_bd (m : Int) (s : ByteArray) (salt : Int) : 0 ≤ partF m s salt ∧ partF m s salt ≤ 2147483646 := digestF_bd _ _
theorem part_I64 {s : ByteArray} {salt : Int} (h : I64 salt) : ∀ x ∈ salt :: bytesL s, I64 x := by
  intro x hx
  simp at hx
  rcases hx with rfl | hx
  · exact h
  · have := bytesL_bd s x hx
    exact ⟨by omega, by omega⟩
theorem bytesL_at {s : ByteArray} {k : Nat} (h : k < s.size) : (bytesL s)[k]? = some ((s[k]'h).toNat : Int) := by
  have h' : k < s.data.toList.length := by rw [Array.length_toList]; exact h
  simp only [bytesL, List.getElem?_map, List.getElem?_eq_getElem h', Option.map_some, Option.some.injEq]
  rfl
set_option maxHeartbeats 1000000 in
theorem implPartDigest_any {s : ByteArray} {m salt : Int} {w : World} (hn : s.size ≤ 137438953472) (hm : I64 m) (hs : I64 salt) :
    Calls Try.prog 35 #[.int .i64 m, .string s, .int .i64 salt] w fun e w' => e = .returned (.int .i64 (partF m s salt)) ∧ Below w.heap.size w w' := by
  obtain ⟨iInt, hiInt, hzInt0, hzInt1, hzInt2⟩ := info_parts Int_info
  have hcv := fun W => Lib.run_convert_string_bytes (P := Try.prog) W 9 22 5 s Try.underlying9 Try.underlying22 Try.underlying5
  have hb0 : Below w.heap.size w (w.alloc (.cells #[.int .i64 salt] 3)) := (Below.refl _ _).alloc (Nat.le_refl _) _
  have ho0 := World.ownsRow_lit (base := w.heap.size) (e := 3) (size := 1) w #[.int .i64 salt] 1 (Nat.le_refl _) (by unfold maxLen; omega) rfl
  have hb1 := below_bytes (w.alloc (.cells #[.int .i64 salt] 3)) 5 s
  have hrb := Rd.bytes (w.alloc (.cells #[.int .i64 salt] 3)) 5 s
  have hwz : (w.alloc (.cells #[.int .i64 salt] 3)).heap.size = w.heap.size + 1 := by simp
  rw [hwz] at hrb
  clear hwz
  have hbz := hb1.size
  simp at hbz
  have hb01 : Below w.heap.size w _ := Below.next_ hb0 (by simp) hb1
  go_enter Try.func35, Try.ntmps35
  go_wp2_with fail
  refine (bytesOf_any hrb (by omega) (bytesL_bd s)).mono ?_
  rintro e w2 ⟨B2, d2, rfl, ho2, hb2⟩
  have hs2 := hb2.size
  have hb02 : Below w.heap.size w w2 := Below.next_ hb01 (by omega) hb2
  have ho0' := own_below (own_below ho0 hb1) hb2
  go_wp2_with (at_builtin; refine wpList_app2 _ rfl (.tmp 9) (.tmp 12) 24 rfl 3 iInt (.int .i64 0) 1 8 Try.underlying24 hiInt hzInt0 hzInt1 hzInt2 rfl (by omega) rfl ho0' rfl (Rd.of_own ho2) (ints_one _) (by unfold maxLen; omega) (by omega) rfl (show [Value.int .i64 salt] ++ ints (bytesL s) = ints (salt :: bytesL s) from rfl) hb02 hb02.size (Nat.le_refl _) hb02.size ?_; intro A3 c3 w3 ho3 hb3 hg3 hat3)
  refine (implDigestOf_any (Rd.of_own ho3) (by omega) (part_I64 hs) hm).mono ?_
  rintro e w4 ⟨rfl, hb4⟩
  go_wp2_with fail
  go_ret
  exact ⟨rfl, Below.next_ hb3 hb3.size hb4⟩
set_option maxHeartbeats 1000000 in
theorem specPartDigest_any {s : ByteArray} {m salt : Int} {w : World} (hn : s.size ≤ 137438953472) (hm : I64 m) (hs : I64 salt) :
    Calls Try.prog 38 #[.int .i64 m, .string s, .int .i64 salt] w fun e w' => e = .returned (.int .i64 (partF m s salt)) ∧ Below w.heap.size w w' := by
  obtain ⟨iInt, hiInt, hzInt0, hzInt1, hzInt2⟩ := info_parts Int_info
  have HL := hide (bytesL_length s)
  have hb0 : Below w.heap.size w (w.alloc (.cells #[.int .i64 salt] 3)) := (Below.refl _ _).alloc (Nat.le_refl _) _
  have ho0 := World.ownsRow_lit (base := w.heap.size) (e := 3) (size := 1) w #[.int .i64 salt] 1 (Nat.le_refl _) (by unfold maxLen; omega) rfl
  go_enter Try.func38, Try.ntmps38
  go_wp2
  go_loopw [7, 8] (fun o i wr => ∃ (k : Nat) (B : Option Addr) (d : Nat), k ≤ s.size ∧ i = .int .i64 k ∧ o = .slice B (1 + k) d ∧ wr.ownsRow w.heap.size 3 1 (.slice B (1 + k) d) (1 + k) (ints (salt :: (bytesL s).take k)) ∧ Below w.heap.size w wr) (fun _ i _ => s.size - (intOf i).toNat)
  case atStart => exact ⟨0, _, _, Nat.zero_le _, rfl, rfl, ho0, hb0⟩
  case round =>
    clear ho0 hb0
    obtain ⟨k, B, d, hk, rfl, rfl, ho, hb⟩ := hrel
    have hz := hb.size
    by_cases hlt : k < s.size
    · have HX := hide (bytesL_at hlt)
      have hb1 : (s[k].toNat : Int) ≤ 255 := by have := s[k].toNat_lt; omega
      go_wp2_with (at_builtin; refine wpList_app2 _ rfl (.tmp 17) (.tmp 22) 24 rfl 3 iInt (.int .i64 0) 1 8 Try.underlying24 hiInt hzInt0 hzInt1 hzInt2 rfl (by omega) rfl (ho.alloc _) rfl (Rd.one _ _ _) (ints_one [_]) (by unfold maxLen; omega) (by omega) (Nat.add_assoc 1 k 1) rfl (hb.alloc hz _) (by simp; omega) (Nat.le_refl _) (by simp; omega) ?_; intro A2 c2 w2 ho2 hb2 hg2 hat2)
      go_roundw
      case rel => exact ⟨k + 1, A2, c2, by omega, by go_num, rfl, by rw [take_snoc_ HX.out]; simpa [ints] using ho2, hb2⟩
      case measure => simp [intOf]; omega
    · have hks : k = s.size := by omega
      have HK := hide hks
      clear hks
      go_wp2_with fail
      have ho3 : wr.ownsRow w.heap.size 3 1 (.slice B (1 + k) d) (1 + k) (ints (salt :: bytesL s)) := by
        have h := ho
        have h1 := HL.out
        have h2 := HK.out
        rw [List.take_of_length_le (by omega)] at h
        exact h
      refine (specDigestOf_any (Rd.of_own ho3) (by omega) (part_I64 hs) hm).mono ?_
      rintro e w4 ⟨rfl, hb4⟩
      go_wp2_with fail
      go_ret
      exact ⟨rfl, Below.next_ hb hz hb4⟩
end Go.Proofs.Ythjdigiaajdnbaa
