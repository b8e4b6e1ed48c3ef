/- Contracts of KeyedHash and DigestOf, of the program and of the reference. For lists of at most 2^39 integers. -/
import Derived.Test.YthjdigiaajdnbaaHash
namespace Go.Proofs.Ythjdigiaajdnbaa
open Go.RowKit Go.WideShapes Go.ChangeShapes Go.Deep
set_option linter.unusedSimpArgs false
set_option linter.unusedVariables false
def keyedF (key : Int) (l : List Int) : Int := hashF (key :: l ++ [key])
def digestF (id : Int) (l : List Int) : Int := hashF (7 :: id :: l)
theorem keyedF_bd (key : Int) (l : List Int) : 0 ≤ keyedF key l ∧ keyedF key l ≤ 2147483646 := hashF_bd _
theorem digestF_bd (id : Int) (l : List Int) : 0 ≤ digestF id l ∧ digestF id l ≤ 2147483646 := hashF_bd _
set_option maxHeartbeats 400000 in
theorem specKeyedHash_any {A : Option Addr} {n c : Nat} {l : List Int} {key : Int} {w : World} (h : Rd w 1 A n (ints l)) (hn : n ≤ 549755813888) (hI : ∀ x ∈ l, I64 x) (hk : I64 key) :
    Calls Try.prog 78 #[.int .i64 key, .slice A n c] w fun e w' => e = .returned (.int .i64 (keyedF key l)) ∧ Below w.heap.size w w' := by
  obtain ⟨i0, hi, hz0, hz1, hz2⟩ := info_parts Int_info
  have hI2 : ∀ x ∈ key :: l ++ [key], I64 x := by
    intro x hx
    simp at hx
    rcases hx with rfl | hx | rfl
    · exact hk
    · exact hI x hx
    · exact hk
  have hb0 : Below w.heap.size w (w.alloc (.cells #[.int .i64 key] 3)) := (Below.refl _ _).alloc (Nat.le_refl _) _
  have ho0 := World.ownsRow_lit (base := w.heap.size) (e := 3) (size := 1) w #[.int .i64 key] 1 (Nat.le_refl _) (by unfold maxLen; omega) rfl
  have hr0 := h.below hb0
  go_enter Try.func78, Try.ntmps78
  go_wp2_with (first
    | (at_builtin; refine wpList_app _ rfl (.tmp 6) (.tmp 7) 24 rfl 3 i0 (.int .i64 0) 1 8 Try.underlying24 hi hz0 hz1 hz2 rfl (by omega) rfl ho0 rfl hr0 (ints_one _) (by unfold maxLen; omega) (by omega) hb0 (by simp) (Nat.le_refl _) (by simp) ?_; intro A1 c1 w1 ho1 hb1 hg1 hat1)
    | (at_builtin; refine wpList_app _ rfl (.tmp 8) (.tmp 10) 24 rfl 3 i0 (.int .i64 0) 1 8 Try.underlying24 hi hz0 hz1 hz2 rfl (by omega) rfl (ho1.alloc _) rfl (Rd.one _ _ _) (ints_one [key]) (by unfold maxLen; omega) (by omega) (hb1.alloc hb1.size _) (by have := hb1.size; simp; omega) (Nat.le_refl _) (by have := hb1.size; simp; omega) ?_; intro A2 c2 w2 ho2 hb2 hg2 hat2))
  have ho3 : w2.ownsRow w.heap.size 3 1 (.slice A2 (1 + n + 1) c2) (1 + n + 1) (ints (key :: l ++ [key])) := by simpa [ints] using ho2
  refine (specHash_any (Rd.of_own ho3) (by omega) hI2).mono ?_
  rintro e w3 ⟨rfl, q, rfl⟩
  go_wp2
  go_ret
  exact ⟨rfl, below_drewN hb2 _⟩
set_option maxHeartbeats 400000 in
theorem specDigestOf_any {A : Option Addr} {n c : Nat} {l : List Int} {id : Int} {w : World} (h : Rd w 1 A n (ints l)) (hn : n ≤ 549755813888) (hI : ∀ x ∈ l, I64 x) (hk : I64 id) :
    Calls Try.prog 68 #[.int .i64 id, .slice A n c] w fun e w' => e = .returned (.int .i64 (digestF id l)) ∧ Below w.heap.size w w' := by
  obtain ⟨i0, hi, hz0, hz1, hz2⟩ := info_parts Int_info
  have hI2 : ∀ x ∈ 7 :: id :: l, I64 x := by
    intro x hx
    simp at hx
    rcases hx with rfl | rfl | hx
    · exact ⟨by omega, by omega⟩
    · exact hk
    · exact hI x hx
  have hb0 : Below w.heap.size w (w.alloc (.cells #[.int .i64 7, .int .i64 id] 3)) := (Below.refl _ _).alloc (Nat.le_refl _) _
  have ho0 := World.ownsRow_lit (base := w.heap.size) (e := 3) (size := 1) w #[.int .i64 7, .int .i64 id] 2 (Nat.le_refl _) (by unfold maxLen; omega) rfl
  have hr0 := h.below hb0
  go_enter Try.func68, Try.ntmps68
  go_wp2_with (first
    | (at_builtin; refine wpList_app _ rfl (.tmp 6) (.tmp 7) 24 rfl 3 i0 (.int .i64 0) 1 8 Try.underlying24 hi hz0 hz1 hz2 rfl (by omega) rfl ho0 rfl hr0 (ints_one _) (by unfold maxLen; omega) (by omega) hb0 (by simp) (Nat.le_refl _) (by simp) ?_; intro A1 c1 w1 ho1 hb1 hg1 hat1))
  have ho3 : w1.ownsRow w.heap.size 3 1 (.slice A1 (2 + n) c1) (2 + n) (ints (7 :: id :: l)) := by simpa [ints] using ho1
  refine (specHash_any (Rd.of_own ho3) (by omega) hI2).mono ?_
  rintro e w3 ⟨rfl, q, rfl⟩
  go_wp2
  go_ret
  exact ⟨rfl, below_drewN hb1 _⟩
set_option maxHeartbeats 400000 in
theorem implKeyedHash_any {A : Option Addr} {n c : Nat} {l : List Int} {key : Int} {w : World} (h : Rd w 1 A n (ints l)) (hn : n ≤ 549755813888) (hI : ∀ x ∈ l, I64 x) (hk : I64 key) :
    Calls Try.prog 63 #[.int .i64 key, .slice A n c] w fun e w' => e = .returned (.int .i64 (keyedF key l)) ∧ Below w.heap.size w w' := by
  obtain ⟨i0, hi, hz0, hz1, hz2⟩ := info_parts Int_info
  have hI2 : ∀ x ∈ key :: l ++ [key], I64 x := by
    intro x hx
    simp at hx
    rcases hx with rfl | hx | rfl
    · exact hk
    · exact hI x hx
    · exact hk
  have hb0 : Below w.heap.size w (w.alloc (.cells #[.int .i64 key] 3)) := (Below.refl _ _).alloc (Nat.le_refl _) _
  have ho0 := World.ownsRow_lit (base := w.heap.size) (e := 3) (size := 1) w #[.int .i64 key] 1 (Nat.le_refl _) (by unfold maxLen; omega) rfl
  have hr0 := h.below hb0
  go_enter Try.func63, Try.ntmps63
  go_wp2_with (first
    | (at_builtin; refine wpList_app _ rfl (.tmp 6) (.tmp 7) 24 rfl 3 i0 (.int .i64 0) 1 8 Try.underlying24 hi hz0 hz1 hz2 rfl (by omega) rfl ho0 rfl hr0 (ints_one _) (by unfold maxLen; omega) (by omega) hb0 (by simp) (Nat.le_refl _) (by simp) ?_; intro A1 c1 w1 ho1 hb1 hg1 hat1)
    | (at_builtin; refine wpList_app _ rfl (.tmp 8) (.tmp 10) 24 rfl 3 i0 (.int .i64 0) 1 8 Try.underlying24 hi hz0 hz1 hz2 rfl (by omega) rfl (ho1.alloc _) rfl (Rd.one _ _ _) (ints_one [key]) (by unfold maxLen; omega) (by omega) (hb1.alloc hb1.size _) (by have := hb1.size; simp; omega) (Nat.le_refl _) (by have := hb1.size; simp; omega) ?_; intro A2 c2 w2 ho2 hb2 hg2 hat2))
  have ho3 : w2.ownsRow w.heap.size 3 1 (.slice A2 (1 + n + 1) c2) (1 + n + 1) (ints (key :: l ++ [key])) := by simpa [ints] using ho2
  refine (implHash_any (Rd.of_own ho3) (by omega) hI2).mono ?_
  rintro e w3 ⟨rfl, q, rfl⟩
  go_wp2
  go_ret
  exact ⟨rfl, below_drewN hb2 _⟩
set_option maxHeartbeats 400000 in
theorem implDigestOf_any {A : Option Addr} {n c : Nat} {l : List Int} {id : Int} {w : World} (h : Rd w 1 A n (ints l)) (hn : n ≤ 549755813888) (hI : ∀ x ∈ l, I64 x) (hk : I64 id) :
    Calls Try.prog 41 #[.int .i64 id, .slice A n c] w fun e w' => e = .returned (.int .i64 (digestF id l)) ∧ Below w.heap.size w w' := by
  obtain ⟨i0, hi, hz0, hz1, hz2⟩ := info_parts Int_info
  have hI2 : ∀ x ∈ 7 :: id :: l, I64 x := by
    intro x hx
    simp at hx
    rcases hx with rfl | rfl | hx
    · exact ⟨by omega, by omega⟩
    · exact hk
    · exact hI x hx
  have hb0 : Below w.heap.size w (w.alloc (.cells #[.int .i64 7, .int .i64 id] 3)) := (Below.refl _ _).alloc (Nat.le_refl _) _
  have ho0 := World.ownsRow_lit (base := w.heap.size) (e := 3) (size := 1) w #[.int .i64 7, .int .i64 id] 2 (Nat.le_refl _) (by unfold maxLen; omega) rfl
  have hr0 := h.below hb0
  go_enter Try.func41, Try.ntmps41
  go_wp2_with (first
    | (at_builtin; refine wpList_app _ rfl (.tmp 6) (.tmp 7) 24 rfl 3 i0 (.int .i64 0) 1 8 Try.underlying24 hi hz0 hz1 hz2 rfl (by omega) rfl ho0 rfl hr0 (ints_one _) (by unfold maxLen; omega) (by omega) hb0 (by simp) (Nat.le_refl _) (by simp) ?_; intro A1 c1 w1 ho1 hb1 hg1 hat1))
  have ho3 : w1.ownsRow w.heap.size 3 1 (.slice A1 (2 + n) c1) (2 + n) (ints (7 :: id :: l)) := by simpa [ints] using ho1
  refine (implHash_any (Rd.of_own ho3) (by omega) hI2).mono ?_
  rintro e w3 ⟨rfl, q, rfl⟩
  go_wp2
  go_ret
  exact ⟨rfl, below_drewN hb1 _⟩
end Go.Proofs.Ythjdigiaajdnbaa
