/- Contracts of ParseInt, of the program and of the reference. No condition but the string's size. -/
import Derived.Test.YtmlkhgekacjidaeFmt
import Derived.Test.YtmlkhgekacjidaeStrB
import Derived.Test.YtmlkhgekacjidaeInt
namespace Go.Proofs.Ytmlkhgekacjidae
open Go.RowKit Go.WideShapes Go.ChangeShapes Go.Deep
set_option linter.unusedSimpArgs false
set_option linter.unusedVariables false
set_option maxRecDepth 100000
/-- the number that decimal digits say, from n on -/
def digs : List Int → Int → Option Int
  | [], n => some n
  | c :: l, n => if c < 48 ∨ 57 < c then none else digs l (10 * n + (c - 48))
/-- what ParseInt returns -/
def prs (s : ByteArray) : Int × Bool :=
  if s.size = 0 ∨ 13 < s.size then (0, false)
  else match digs (bytesL s) 0 with
    | none => (0, false)
    | some n => if 1000000000000 < n ∨ fmtI n ≠ s then (0, false) else (n, true)
def prsV (r : Int × Bool) : Value := .tuple #[.int .i64 r.1, .bool r.2]
theorem bytesL_at_ {s : ByteArray} {k : Nat} (h : k < s.size) : (bytesL s)[k]? = some ((s[k]'h).toNat : Int) := by
  have h' : k < s.data.toList.length := by rw [Array.length_toList]; exact h
  simp only [bytesL, List.getElem?_map, List.getElem?_eq_getElem h', Option.map_some, Option.some.injEq]
  rfl
theorem digs_bad {l : List Int} {k : Nat} {n c : Int} (h : l[k]? = some c) (hc : c < 48 ∨ 57 < c) : digs (l.drop k) n = none := by
  have hl := get_lt h
  rw [List.getElem?_eq_getElem hl] at h
  injection h with h
  rw [List.drop_eq_getElem_cons hl, h, digs, if_pos hc]
theorem digs_go {l : List Int} {k : Nat} {n c : Int} (h : l[k]? = some c) (hc : ¬ (c < 48 ∨ 57 < c)) : digs (l.drop k) n = digs (l.drop (k + 1)) (10 * n + (c - 48)) := by
  have hl := get_lt h
  rw [List.getElem?_eq_getElem hl] at h
  injection h with h
  rw [List.drop_eq_getElem_cons hl, h, digs, if_neg hc]
theorem prs_size {s : ByteArray} (h : s.size = 0 ∨ 13 < s.size) : prs s = (0, false) := by unfold prs; rw [if_pos h]
theorem prs_none {s : ByteArray} (h : ¬ (s.size = 0 ∨ 13 < s.size)) (hd : digs (bytesL s) 0 = none) : prs s = (0, false) := by unfold prs; rw [if_neg h, hd]
theorem prs_no {s : ByteArray} {n : Int} (h : ¬ (s.size = 0 ∨ 13 < s.size)) (hd : digs (bytesL s) 0 = some n) (hn : 1000000000000 < n ∨ fmtI n ≠ s) : prs s = (0, false) := by
  unfold prs; rw [if_neg h, hd]; simp only; rw [if_pos hn]
theorem prs_yes {s : ByteArray} {n : Int} (h : ¬ (s.size = 0 ∨ 13 < s.size)) (hd : digs (bytesL s) 0 = some n) (hn : ¬ (1000000000000 < n ∨ fmtI n ≠ s)) : prs s = (n, true) := by
  unfold prs; rw [if_neg h, hd]; simp only; rw [if_neg hn]
theorem emp0 {s : ByteArray} (h : s.size = 0) : s.toList.isEmpty = true := by
  rw [ByteArray.toList_eq, List.isEmpty_iff, ← List.length_eq_zero_iff, Array.length_toList]; exact h
theorem emp1 {s : ByteArray} (h : s.size ≠ 0) : s.toList.isEmpty = false := by
  rw [Bool.eq_false_iff]; intro h2; rw [ByteArray.toList_eq, List.isEmpty_iff, ← List.length_eq_zero_iff, Array.length_toList] at h2; exact h h2
theorem str_beq {a b : ByteArray} (h : a = b) : (a.toList == b.toList) = true := by simp [h]
theorem str_bne {a b : ByteArray} (h : a ≠ b) : (a.toList == b.toList) = false := by
  rw [beq_eq_false_iff_ne]
  intro e
  rw [ByteArray.toList_eq, ByteArray.toList_eq] at e
  exact h (ByteArray.ext (Array.toList_inj.1 e))
theorem ret_prs {s : ByteArray} {a : Int} {b : Bool} (h : prs s = (a, b)) : Ending.returned (.tuple #[.int .i64 a, .bool b]) = .returned (prsV (prs s)) := by rw [h]; rfl
theorem pow_step {n : Int} {k : Nat} {c : Int} (h : n < 10 ^ k) (hc : c ≤ 57) : 10 * n + (c - 48) < 10 ^ (k + 1) := by
  rw [Int.pow_succ]; omega
theorem pow_13 {n : Int} {k : Nat} (h : n < 10 ^ k) (hk : k ≤ 13) : n < 10000000000000 := by
  have h2 : ((10 ^ k : Nat) : Int) ≤ ((10 ^ 13 : Nat) : Int) := by
    have := Nat.pow_le_pow_right (n := 10) (by omega) hk
    omega
  have h3 : ((10 ^ k : Nat) : Int) = (10 : Int) ^ k := by simp
  omega
set_option maxHeartbeats 2000000 in
theorem implParseInt_any {s : ByteArray} (w : World) (hn : s.size ≤ 9223372036854775807) :
    Calls Try.prog 17 #[.string s] w fun e w' => e = .returned (prsV (prs s)) ∧ Below w.heap.size w w' := by
  by_cases hz : s.size = 0 ∨ 13 < s.size
  · have hfin := hide (prs_size hz)
    rcases hz with h0 | h0
    · have h1 := emp0 h0
      go_enter Try.func17, Try.ntmps17
      go_wp2
      go_ret2
      exact ⟨ret_prs hfin.out, Below.refl _ _⟩
    · have h1 := emp1 (s := s) (by omega)
      have h2 : (13 : Int) < (s.size : Int) := by omega
      go_enter Try.func17, Try.ntmps17
      go_wp2
      go_ret2
      exact ⟨ret_prs hfin.out, Below.refl _ _⟩
  · have h1 := emp1 (s := s) (by omega)
    have h2 : ¬ (13 : Int) < (s.size : Int) := by omega
    have hle : s.size ≤ 13 := by omega
    have HZ := hide hz
    clear hz
    go_enter Try.func17, Try.ntmps17
    go_wp2
    go_loopw [4, 5] (fun nv i wr => ∃ (k : Nat) (n : Int), k ≤ s.size ∧ i = .int .i64 k ∧ nv = .int .i64 n ∧ 0 ≤ n ∧ Hid (n < 10 ^ k) ∧ Hid (digs ((bytesL s).drop k) n = digs (bytesL s) 0) ∧ wr = w) (fun _ i _ => s.size - (intOf i).toNat)
    case atStart => exact ⟨0, 0, Nat.zero_le _, rfl, rfl, Int.le_refl _, (by show (0 : Int) < 10 ^ 0; decide), rfl, rfl⟩
    case round =>
      obtain ⟨k, n, hk, rfl, rfl, hn0, hnk, hd, rfl⟩ := hrel
      have hn13 := pow_13 hnk.out (by omega : k ≤ 13)
      by_cases hlt : k < s.size
      · have HX := hide (bytesL_at_ hlt)
        have hb1 : (s[k].toNat : Int) ≤ 255 := by have := s[k].toNat_lt; omega
        by_cases hc : (s[k].toNat : Int) < 48 ∨ 57 < (s[k].toNat : Int)
        · have hfin := hide (prs_none HZ.out (hd.out.symm.trans (digs_bad HX.out hc)))
          rcases hc with hc | hc
          · go_wp2
            go_ret2
            exact ⟨ret_prs hfin.out, Below.refl _ _⟩
          · have hc' : ¬ (s[k].toNat : Int) < 48 := by omega
            go_wp2
            go_ret2
            exact ⟨ret_prs hfin.out, Below.refl _ _⟩
        ·
          have hc1 : ¬ (s[k].toNat : Int) < 48 := by omega
          have hc2 : ¬ (57 : Int) < (s[k].toNat : Int) := by omega
          have hstep := hide ((digs_go HX.out hc).symm.trans hd.out)
          have hpow := hide (pow_step hnk.out (by omega : (s[k].toNat : Int) ≤ 57))
          clear hc
          go_wp2
          go_roundw
          case rel => exact ⟨k + 1, 10 * n + ((s[k].toNat : Int) - 48), by omega, by go_num, by go_num, by omega, hpow, hstep, by first | rfl | trivial⟩
          case measure => simp [intOf]; omega
      · have hks : k = s.size := by omega
        have hd2 := hd.out
        rw [List.drop_of_length_le (by rw [bytesL_length]; omega), digs] at hd2
        have HD := hide hd2.symm
        clear hd2
        by_cases hbig : 1000000000000 < n
        · have hfin := hide (prs_no HZ.out HD.out (Or.inl hbig))
          go_wp2_with fail
          go_ret2
          exact ⟨ret_prs hfin.out, Below.refl _ _⟩
        · by_cases hf : fmtI n = s
          · have hfin := hide (prs_yes HZ.out HD.out (by simp [hf]; omega))
            have hq := str_beq hf
            clear hf
            go_wp2_with fail
            refine (implFormatInt_any n _ ⟨by omega, by omega⟩).mono ?_
            rintro e w1 ⟨rfl, hb⟩
            go_wp2_with fail
            go_ret2
            exact ⟨ret_prs hfin.out, hb⟩
          · have hfin := hide (prs_no HZ.out HD.out (Or.inr hf))
            have hq := str_bne hf
            clear hf
            go_wp2_with fail
            refine (implFormatInt_any n _ ⟨by omega, by omega⟩).mono ?_
            rintro e w1 ⟨rfl, hb⟩
            go_wp2_with fail
            go_ret2
            exact ⟨ret_prs hfin.out, hb⟩
end Go.Proofs.Ytmlkhgekacjidae
