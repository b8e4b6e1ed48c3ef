/- Contracts of indexOf. For rows of at most 2^40 elements. -/
import Derived.Test.YthjdigiaajdnbaaIntS
namespace Go.Proofs.Ythjdigiaajdnbaa
open Go.RowKit Go.WideShapes Go.ChangeShapes Go.Deep
set_option linter.unusedSimpArgs false
set_option linter.unusedVariables false
set_option maxRecDepth 1000000
def idxF : List Int → Int → Nat
  | [], _ => 0
  | y :: ms, x => if y = x then 0 else idxF ms x + 1
theorem idxF_hit : ∀ {k : Nat} {ms : List Int} {x : Int}, (∀ (j : Nat) (y : Int), j < k → ms[j]? = some y → y ≠ x) → ms[k]? = some x → idxF ms x = k := by
  intro k
  induction k with
  | zero =>
    intro ms x _ h
    match ms, h with
    | y :: ms, h => simp at h; simp [idxF, h]
  | succ k ih =>
    intro ms x hn h
    match ms, h with
    | y :: ms, h =>
      have h0 := hn 0 y (by omega) rfl
      simp at h
      simp only [idxF, if_neg h0]
      rw [ih (fun j z hj hz => hn (j + 1) z (by omega) (by simpa using hz)) h]
theorem idxF_miss : ∀ {ms : List Int} {x : Int}, (∀ (j : Nat) (y : Int), ms[j]? = some y → y ≠ x) → idxF ms x = ms.length := by
  intro ms
  induction ms with
  | nil => intro x _; rfl
  | cons y ms ih =>
    intro x hn
    have h0 := hn 0 y rfl
    simp only [idxF, if_neg h0, List.length_cons]
    rw [ih fun j z hz => hn (j + 1) z (by simpa using hz)]
theorem idxF_le : ∀ (ms : List Int) (x : Int), idxF ms x ≤ ms.length := by
  intro ms
  induction ms with
  | nil => intro x; exact Nat.le_refl _
  | cons y ms ih => intro x; have := ih x; simp only [idxF, List.length_cons]; split <;> omega
theorem idxF_at : ∀ {ms : List Int} {x : Int}, idxF ms x < ms.length → ms[idxF ms x]? = some x := by
  intro ms
  induction ms with
  | nil => intro x h; simp [idxF] at h
  | cons y ms ih =>
    intro x h
    by_cases hy : y = x
    · simp [idxF, hy]
    · simp only [idxF, if_neg hy, List.length_cons] at h ⊢
      simpa using ih (by omega)
theorem idxF_lt : ∀ {ms : List Int} {x : Int}, x ∈ ms → idxF ms x < ms.length := by
  intro ms
  induction ms with
  | nil => intro x h; cases h
  | cons y ms ih =>
    intro x h
    simp only [idxF, List.length_cons]
    split
    · omega
    · rcases List.mem_cons.1 h with h1 | h1
      · exact absurd h1.symm (by assumption)
      · have := ih h1; omega
theorem all_stepI {l : List Int} {x : Int} {k : Nat} {z : Int} (h : ∀ (j : Nat) (y : Int), j < k → l[j]? = some y → y ≠ x) (hx : l[k]? = some z) (hq : z ≠ x) : ∀ (j : Nat) (y : Int), j < k + 1 → l[j]? = some y → y ≠ x := by
  intro j y hj hy
  rcases Nat.lt_or_ge j k with h1 | h1
  · exact h j y h1 hy
  · obtain rfl : j = k := by omega
    rw [hx] at hy
    injection hy with e
    exact e ▸ hq
def idxI (ms : List Int) (x : Int) : Int := if idxF ms x < ms.length then (idxF ms x : Int) else -1
set_option maxHeartbeats 1000000 in
theorem indexOf_any {A : Option Addr} {n c : Nat} {x : Int} {l : List Int} {w : World} (h : Rd w 1 A n (ints l)) (hn : n ≤ 1099511627776) :
    Calls Try.prog 40 #[.slice A n c, .int .i64 x] w fun e w' => e = .returned (.int .i64 (idxI l x)) ∧ w = w' := by
  have HL := hide h.len
  go_enter Try.func40, Try.ntmps40
  go_wp2_with fail
  go_loopw [9] (fun i wr => ∃ k : Nat, k ≤ n ∧ i = .int .i64 k ∧ Hid (∀ (j : Nat) (y : Int), j < k → l[j]? = some y → y ≠ x) ∧ wr = w) (fun i _ => n - (intOf i).toNat)
  case atStart => exact ⟨0, Nat.zero_le _, rfl, (fun j p hj => absurd hj (Nat.not_lt_zero _)), rfl⟩
  case round =>
    obtain ⟨k, hk, rfl, hall, rfl⟩ := hrel
    have hk0 : (0 : Int) ≤ (k : Int) := by omega
    by_cases hlt : k < n
    · obtain ⟨ad, y, rfl, hy, hcy⟩ := Rd.int h hlt
      have hkn : (k : Int) < (n : Int) := by omega
      by_cases hxy : y = x
      · subst hxy
        have hfin := hide (show idxI l y = k by unfold idxI; rw [idxF_hit hall.out hy, if_pos (by have := HL.out; omega)])
        have hq : (y == y) = true := by simp
        clear hy
        go_wp2_with fail
        go_ret
        exact ⟨ret_i hfin.out.symm, rfl⟩
      · have hq : (y == x) = false := by simpa using hxy
        have hst := hide (all_stepI hall.out hy hxy)
        clear hy hxy
        go_wp2_with fail
        go_roundw
        case rel => exact ⟨k + 1, by omega, by go_num, hst, trivial⟩
        case measure => simp [intOf]; omega
    · have hkn : ¬ (k : Int) < (n : Int) := by omega
      have hfin := hide (show idxI l x = -1 by
        unfold idxI
        rw [idxF_miss (fun j y hj => hall.out j y (by have := get_lt hj; have := HL.out; omega) hj), if_neg (Nat.lt_irrefl _)])
      go_wp2_with fail
      go_ret
      exact ⟨ret_i hfin.out.symm, rfl⟩
def hasF (l : List Int) (x : Int) : Bool := l.contains x
theorem hasF_iff {l : List Int} {x : Int} : hasF l x = true ↔ x ∈ l := by simp [hasF]
set_option maxHeartbeats 1000000 in
theorem l7Has_any {A : Option Addr} {n c : Nat} {x : Int} {l : List Int} {w : World} (h : Rd w 1 A n (ints l)) (hn : n ≤ 1099511627776) :
    Calls Try.prog 37 #[.slice A n c, .int .i64 x] w fun e w' => e = .returned (.bool (hasF l x)) ∧ w = w' := by
  have HL := hide h.len
  go_enter Try.func37, Try.ntmps37
  go_wp2_with fail
  go_loopw [5] (fun i wr => ∃ k : Nat, k ≤ n ∧ i = .int .i64 k ∧ Hid (∀ (j : Nat) (y : Int), j < k → l[j]? = some y → y ≠ x) ∧ wr = w) (fun i _ => n - (intOf i).toNat)
  case atStart => exact ⟨0, Nat.zero_le _, rfl, (fun j p hj => absurd hj (Nat.not_lt_zero _)), rfl⟩
  case round =>
    obtain ⟨k, hk, rfl, hall, rfl⟩ := hrel
    have hk0 : (0 : Int) ≤ (k : Int) := by omega
    by_cases hlt : k < n
    · obtain ⟨ad, y, rfl, hy, hcy⟩ := Rd.int h hlt
      have hkn : (k : Int) < (n : Int) := by omega
      by_cases hxy : y = x
      · subst hxy
        have hfin := hide (show hasF l y = true from hasF_iff.2 (List.mem_of_getElem? hy))
        have hq : (y == y) = true := by simp
        clear hy
        go_wp2_with fail
        go_ret
        exact ⟨ret_b hfin.out.symm, rfl⟩
      · have hq : (y == x) = false := by simpa using hxy
        have hst := hide (all_stepI hall.out hy hxy)
        clear hy hxy
        go_wp2_with fail
        go_roundw
        case rel => exact ⟨k + 1, by omega, by go_num, hst, trivial⟩
        case measure => simp [intOf]; omega
    · have hkn : ¬ (k : Int) < (n : Int) := by omega
      have hfin := hide (show hasF l x = false by
        rw [Bool.eq_false_iff]
        intro hc
        obtain ⟨j, hj⟩ := List.mem_iff_getElem?.1 (hasF_iff.1 hc)
        exact hall.out j x (by have := get_lt hj; have := HL.out; omega) hj rfl)
      go_wp2_with fail
      go_ret
      exact ⟨ret_b hfin.out.symm, rfl⟩
set_option maxHeartbeats 1000000 in
theorem contains_any {A : Option Addr} {n c : Nat} {x : Int} {l : List Int} {w : World} (h : Rd w 1 A n (ints l)) (hn : n ≤ 1099511627776) :
    Calls Try.prog 13 #[.slice A n c, .int .i64 x] w fun e w' => e = .returned (.bool (hasF l x)) ∧ w = w' := by
  have HL := hide h.len
  go_enter Try.func13, Try.ntmps13
  go_wp2_with fail
  go_loopw [5] (fun i wr => ∃ k : Nat, k ≤ n ∧ i = .int .i64 k ∧ Hid (∀ (j : Nat) (y : Int), j < k → l[j]? = some y → y ≠ x) ∧ wr = w) (fun i _ => n - (intOf i).toNat)
  case atStart => exact ⟨0, Nat.zero_le _, rfl, (fun j p hj => absurd hj (Nat.not_lt_zero _)), rfl⟩
  case round =>
    obtain ⟨k, hk, rfl, hall, rfl⟩ := hrel
    have hk0 : (0 : Int) ≤ (k : Int) := by omega
    by_cases hlt : k < n
    · obtain ⟨ad, y, rfl, hy, hcy⟩ := Rd.int h hlt
      have hkn : (k : Int) < (n : Int) := by omega
      by_cases hxy : y = x
      · subst hxy
        have hfin := hide (show hasF l y = true from hasF_iff.2 (List.mem_of_getElem? hy))
        have hq : (y == y) = true := by simp
        clear hy
        go_wp2_with fail
        go_ret
        exact ⟨ret_b hfin.out.symm, rfl⟩
      · have hq : (y == x) = false := by simpa using hxy
        have hst := hide (all_stepI hall.out hy hxy)
        clear hy hxy
        go_wp2_with fail
        go_roundw
        case rel => exact ⟨k + 1, by omega, by go_num, hst, trivial⟩
        case measure => simp [intOf]; omega
    · have hkn : ¬ (k : Int) < (n : Int) := by omega
      have hfin := hide (show hasF l x = false by
        rw [Bool.eq_false_iff]
        intro hc
        obtain ⟨j, hj⟩ := List.mem_iff_getElem?.1 (hasF_iff.1 hc)
        exact hall.out j x (by have := get_lt hj; have := HL.out; omega) hj rfl)
      go_wp2_with fail
      go_ret
      exact ⟨ret_b hfin.out.symm, rfl⟩
theorem hasF_idx (l : List Int) (x : Int) : decide (idxI l x ≥ 0) = hasF l x := by
  unfold idxI
  by_cases h : idxF l x < l.length
  · rw [if_pos h, hasF_iff.2 (List.mem_of_getElem? (idxF_at h))]
    simp
  · rw [if_neg h]
    have : hasF l x = false := by
      rw [Bool.eq_false_iff]
      intro hc
      have hm := hasF_iff.1 hc
      exact h (idxF_lt hm)
    rw [this]
    simp
theorem hasInt_any {A : Option Addr} {n c : Nat} {x : Int} {l : List Int} {w : World} (h : Rd w 1 A n (ints l)) (hn : n ≤ 1099511627776) :
    Calls Try.prog 34 #[.slice A n c, .int .i64 x] w fun e w' => e = .returned (.bool (hasF l x)) ∧ w = w' := by
  have hfin := hide (hasF_idx l x)
  go_enter Try.func34, Try.ntmps34
  go_wp2_with fail
  refine (indexOf_any h hn).mono ?_
  rintro e _ ⟨rfl, rfl⟩
  go_wp2_with fail
  go_ret
  exact ⟨ret_b (by first | exact hfin.out | simpa using hfin.out), rfl⟩
end Go.Proofs.Ythjdigiaajdnbaa
