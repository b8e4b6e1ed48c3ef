/- Contracts of EqualInts, of the program and of the reference, and of their kin: whether two lists are equal. For lists of at most 2^40 elements. -/
import Derived.Test.YthjdigiaajdnbaaBase
import Derived.Test.YthjdigiaajdnbaaRows
namespace Go.Proofs.Ythjdigiaajdnbaa
open Go.RowKit Go.WideShapes Go.ChangeShapes Go.Deep
set_option linter.unusedSimpArgs false
set_option linter.unusedVariables false
set_option maxHeartbeats 400000 in
theorem specEqualInts_any {A B : Option Addr} {n m c d : Nat} {l1 l2 : List Int} {w : World} (h1 : Rd w 1 A n (ints l1)) (h2 : Rd w 1 B m (ints l2)) (hn : n ≤ 1099511627776) (hm : m ≤ 1099511627776) :
    Calls Try.prog 71 #[.slice A n c, .slice B m d] w fun e w' => e = .returned (.bool (decide (l1 = l2))) ∧ ∃ q, w' = w.drewN q := by
  have e1 : l1.length = n := h1.maplen
  have e2 : l2.length = m := h2.maplen
  by_cases hnm : n = m
  · subst hnm
    have E1 := hide e1
    have E2 := hide e2
    clear e1 e2
    go_enter Try.func71, Try.ntmps71
    go_wp2
    go_loopw [5] (fun i wr => ∃ k q : Nat, k ≤ n ∧ i = .int .i64 k ∧ Hid (l1.take k = l2.take k) ∧ wr = w.drewN q) (fun i _ => n - (intOf i).toNat)
    case atStart => exact ⟨0, 0, Nat.zero_le _, rfl, rfl, rfl⟩
    case round =>
      obtain ⟨k, q, hk, rfl, ht, rfl⟩ := hrel
      by_cases hlt : k < n
      · obtain ⟨ad, x, rfl, hx, hcx⟩ := Rd.int h1 hlt
        obtain ⟨bd, y, rfl, hy, hcy⟩ := Rd.int h2 hlt
        have hk0 : (0 : Int) ≤ (k : Int) := by omega
        have hkn : (k : Int) < (n : Int) := by omega
        have HX := hide hx
        have HY := hide hy
        clear hx hy
        by_cases hxy : x = y
        · subst hxy
          go_wp2
          go_quiet (fail)
          go_wp2
          go_roundw
          case rel => exact ⟨k + 1, q + nq, by omega, by go_num, take_step HX.out HY.out ht, rfl⟩
          case measure => simp [intOf]; omega
        · have hb : (x == y) = false := by simpa using hxy
          have hfin := hide (show decide (l1 = l2) = false by simpa using ne_of_at HX.out HY.out hxy)
          clear hxy
          go_wp2
          go_quiet (fail)
          go_wp2
          go_ret
          exact ⟨ret_b hfin.out.symm, q + nq, by first | rfl | simp [World.drewN_drewN]⟩
      · have hfin := hide (show decide (l1 = l2) = true by
          have hkn : k = n := by omega
          subst hkn
          simpa using eq_of_takes E1.out E2.out ht.out)
        have hkn : ¬ (k : Int) < (n : Int) := by omega
        go_wp2
        go_ret
        exact ⟨ret_b hfin.out.symm, q, rfl⟩
  · have hfin := hide (show decide (l1 = l2) = false by
      simp only [decide_eq_false_iff_not]
      rintro rfl
      omega)
    have hb : ((n : Int) == (m : Int)) = false := by simpa using (by omega : ¬ (n : Int) = m)
    clear hnm e1 e2
    go_enter Try.func71, Try.ntmps71
    go_wp2
    go_ret
    exact ⟨ret_b hfin.out.symm, 0, rfl⟩
set_option maxHeartbeats 400000 in
theorem implEqualInts_any {A B : Option Addr} {n m c d : Nat} {l1 l2 : List Int} {w : World} (h1 : Rd w 1 A n (ints l1)) (h2 : Rd w 1 B m (ints l2)) (hn : n ≤ 1099511627776) (hm : m ≤ 1099511627776) :
    Calls Try.prog 44 #[.slice A n c, .slice B m d] w fun e w' => e = .returned (.bool (decide (l1 = l2))) ∧ ∃ q, w' = w.drewN q := by
  have e1 : l1.length = n := h1.maplen
  have e2 : l2.length = m := h2.maplen
  by_cases hnm : n = m
  · subst hnm
    have E1 := hide e1
    have E2 := hide e2
    clear e1 e2
    go_enter Try.func44, Try.ntmps44
    go_wp2
    go_loopw [13] (fun i wr => ∃ k q : Nat, k ≤ n ∧ i = .int .i64 k ∧ Hid (l1.take k = l2.take k) ∧ wr = w.drewN q) (fun i _ => n - (intOf i).toNat)
    case atStart => exact ⟨0, 0, Nat.zero_le _, rfl, rfl, rfl⟩
    case round =>
      obtain ⟨k, q, hk, rfl, ht, rfl⟩ := hrel
      by_cases hlt : k < n
      · obtain ⟨ad, x, rfl, hx, hcx⟩ := Rd.int h1 hlt
        obtain ⟨bd, y, rfl, hy, hcy⟩ := Rd.int h2 hlt
        have hk0 : (0 : Int) ≤ (k : Int) := by omega
        have hkn : (k : Int) < (n : Int) := by omega
        have HX := hide hx
        have HY := hide hy
        clear hx hy
        by_cases hxy : x = y
        · subst hxy
          go_wp2
          go_quiet (fail)
          go_wp2
          go_roundw
          case rel => exact ⟨k + 1, q + nq, by omega, by go_num, take_step HX.out HY.out ht, rfl⟩
          case measure => simp [intOf]; omega
        · have hb : (x == y) = false := by simpa using hxy
          have hfin := hide (show decide (l1 = l2) = false by simpa using ne_of_at HX.out HY.out hxy)
          clear hxy
          go_wp2
          go_quiet (fail)
          go_wp2
          go_ret
          exact ⟨ret_b hfin.out.symm, q + nq, by first | rfl | simp [World.drewN_drewN]⟩
      · have hfin := hide (show decide (l1 = l2) = true by
          have hkn : k = n := by omega
          subst hkn
          simpa using eq_of_takes E1.out E2.out ht.out)
        have hkn : ¬ (k : Int) < (n : Int) := by omega
        go_wp2
        go_ret
        exact ⟨ret_b hfin.out.symm, q, rfl⟩
  · have hfin := hide (show decide (l1 = l2) = false by
      simp only [decide_eq_false_iff_not]
      rintro rfl
      omega)
    have hb : ((n : Int) == (m : Int)) = false := by simpa using (by omega : ¬ (n : Int) = m)
    clear hnm e1 e2
    go_enter Try.func44, Try.ntmps44
    go_wp2
    go_ret
    exact ⟨ret_b hfin.out.symm, 0, rfl⟩
set_option maxHeartbeats 400000 in
theorem equalStrings_any {A B : Option Addr} {n m c d : Nat} {l1 l2 : List ByteArray} {w : World} (h1 : Rd w 1 A n (sts l1)) (h2 : Rd w 1 B m (sts l2)) (hn : n ≤ 1099511627776) (hm : m ≤ 1099511627776) :
    Calls Try.prog 43 #[.slice A n c, .slice B m d] w fun e w' => e = .returned (.bool (decide (l1 = l2))) ∧ ∃ q, w' = w.drewN q := by
  have e1 : l1.length = n := h1.maplen
  have e2 : l2.length = m := h2.maplen
  by_cases hnm : n = m
  · subst hnm
    have E1 := hide e1
    have E2 := hide e2
    clear e1 e2
    go_enter Try.func43, Try.ntmps43
    go_wp2
    go_loopw [13] (fun i wr => ∃ k q : Nat, k ≤ n ∧ i = .int .i64 k ∧ Hid (l1.take k = l2.take k) ∧ wr = w.drewN q) (fun i _ => n - (intOf i).toNat)
    case atStart => exact ⟨0, 0, Nat.zero_le _, rfl, rfl, rfl⟩
    case round =>
      obtain ⟨k, q, hk, rfl, ht, rfl⟩ := hrel
      by_cases hlt : k < n
      · obtain ⟨ad, x, rfl, hx, hcx⟩ := Rd.st h1 hlt
        obtain ⟨bd, y, rfl, hy, hcy⟩ := Rd.st h2 hlt
        have hk0 : (0 : Int) ≤ (k : Int) := by omega
        have hkn : (k : Int) < (n : Int) := by omega
        have HX := hide hx
        have HY := hide hy
        clear hx hy
        by_cases hxy : x = y
        · subst hxy
          go_wp2
          go_quiet (fail)
          go_wp2
          go_roundw
          case rel => exact ⟨k + 1, q + nq, by omega, by go_num, take_step HX.out HY.out ht, rfl⟩
          case measure => simp [intOf]; omega
        · have hb : (x.toList == y.toList) = false := by simpa [ByteArray.toList_eq, ByteArray.ext_iff, Array.ext_iff] using hxy
          have hfin := hide (show decide (l1 = l2) = false by simpa using ne_of_at HX.out HY.out hxy)
          clear hxy
          go_wp2
          go_quiet (fail)
          go_wp2
          go_ret
          exact ⟨ret_b hfin.out.symm, q + nq, by first | rfl | simp [World.drewN_drewN]⟩
      · have hfin := hide (show decide (l1 = l2) = true by
          have hkn : k = n := by omega
          subst hkn
          simpa using eq_of_takes E1.out E2.out ht.out)
        have hkn : ¬ (k : Int) < (n : Int) := by omega
        go_wp2
        go_ret
        exact ⟨ret_b hfin.out.symm, q, rfl⟩
  · have hfin := hide (show decide (l1 = l2) = false by
      simp only [decide_eq_false_iff_not]
      rintro rfl
      omega)
    have hb : ((n : Int) == (m : Int)) = false := by simpa using (by omega : ¬ (n : Int) = m)
    clear hnm e1 e2
    go_enter Try.func43, Try.ntmps43
    go_wp2
    go_ret
    exact ⟨ret_b hfin.out.symm, 0, rfl⟩
end Go.Proofs.Ythjdigiaajdnbaa
