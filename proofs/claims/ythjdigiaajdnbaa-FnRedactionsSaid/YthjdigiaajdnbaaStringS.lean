/- Contracts of the laws' own helpers on slices of elements of the kind string (copy, compare, mark, held), for slices that read as lists of at most 2^40 elements. -/
import Derived.Test.YthjdigiaajdnbaaBase
import Derived.Test.YthjdigiaajdnbaaRows
import Derived.Test.YthjdigiaajdnbaaMarkT
namespace Go.Proofs.Ythjdigiaajdnbaa
open Go.RowKit Go.WideShapes Go.ChangeShapes Go.Deep
set_option linter.unusedSimpArgs false
set_option linter.unusedVariables false

theorem String_info : (Try.prog.info? 9).map (fun i => (i.zero, i.size, i.bytes)) = some (some (.string ByteArray.empty), 1, 16) := by kernel_rfl
set_option maxHeartbeats 400000 in
theorem eqStringS_any {A B : Option Addr} {n m c d : Nat} {l1 l2 : List ByteArray} {w : World} (h1 : Rd w 1 A n (sts l1)) (h2 : Rd w 1 B m (sts l2)) (hn : n ≤ 4398046511104) (hm : m ≤ 4398046511104) :
    Calls Try.prog 56 #[.slice A n c, .slice B m d] w fun e w' => e = .returned (.bool (decide (l1 = l2))) ∧ ∃ q, w' = w.drewN q := by
  have e1 : l1.length = n := h1.maplen
  have e2 : l2.length = m := h2.maplen
  by_cases hnm : n = m
  · subst hnm
    have E1 := hide e1
    have E2 := hide e2
    clear e1 e2
    go_enter Try.func56, Try.ntmps56
    go_wp2
    go_loopw [5] (fun i wr => ∃ k q : Nat, k ≤ n ∧ i = .int .i64 k ∧ Hid (l1.take k = l2.take k) ∧ wr = w.drewN q) (fun i _ => n - (intOf i).toNat)
    case atStart => exact ⟨0, 0, Nat.zero_le _, rfl, rfl, rfl⟩
    case round =>
      obtain ⟨k, q, hk, rfl, ht, rfl⟩ := hrel
      by_cases hlt : k < n
      · obtain ⟨ad, x, rfl, hx, hcx⟩ := Rd.st h1 hlt
        obtain ⟨bd, y, rfl, hy, hcy⟩ := Rd.st h2 hlt
        have hk0 : (0 : Int) ≤ (k : Int) := by omega
        have hkn : (k : Int) < (n : Int) := by omega
        have HX := hide hx
        have HY := hide hy
        clear hx hy
        by_cases hxy : x = y
        · subst hxy
          go_wp2
          go_quiet (fail)
          go_wp2
          go_roundw
          case rel => exact ⟨k + 1, q + nq, by omega, by go_num, take_step HX.out HY.out ht, rfl⟩
          case measure => simp [intOf]; omega
        · have hb : (x.toList == y.toList) = false := by simpa [ByteArray.toList_eq, ByteArray.ext_iff, Array.ext_iff] using hxy
          have hfin := hide (show decide (l1 = l2) = false by simpa using ne_of_at HX.out HY.out hxy)
          clear hxy
          go_wp2
          go_quiet (fail)
          go_wp2
          go_ret
          exact ⟨ret_b hfin.out.symm, q + nq, by first | rfl | simp [World.drewN_drewN]⟩
      · have hfin := hide (show decide (l1 = l2) = true by
          have hkn : k = n := by omega
          subst hkn
          simpa using eq_of_takes E1.out E2.out ht.out)
        have hkn : ¬ (k : Int) < (n : Int) := by omega
        go_wp2
        go_ret
        exact ⟨ret_b hfin.out.symm, q, rfl⟩
  · have hfin := hide (show decide (l1 = l2) = false by
      simp only [decide_eq_false_iff_not]
      rintro rfl
      omega)
    have hb : ((n : Int) == (m : Int)) = false := by simpa using (by omega : ¬ (n : Int) = m)
    clear hnm e1 e2
    go_enter Try.func56, Try.ntmps56
    go_wp2
    go_ret
    exact ⟨ret_b hfin.out.symm, 0, rfl⟩
set_option maxHeartbeats 400000 in
theorem toStringS_any {A : Option Addr} {n c : Nat} {l : List ByteArray} {w : World} (h : Rd w 1 A n (sts l)) (hn : n ≤ 4398046511104) :
    Calls Try.prog 52 #[.slice A n c] w fun e w' => ∃ B d, e = .returned (.slice B n d) ∧ w'.ownsRow w.heap.size 9 1 (.slice B n d) n (sts l) ∧ Below w.heap.size w w' := by
  obtain ⟨i0, hi, hz0, hz1, hz2⟩ := info_parts String_info
  have HL := hide h.maplen
  go_enter Try.func52, Try.ntmps52
  go_wp2_with (at_make; refine wpList_make_full _ rfl _ _ _ rfl w.heap.size 9 i0 (.string ByteArray.empty) 1 Try.underlying25 hi hz0 hz1 _ _ _ _ n rfl rfl rfl rfl (by rw [hz2]; omega) (by unfold maxLen; omega) (Nat.le_refl _) ?_; intro w1 ho hg)
  have hB := (Below.refl w.heap.size w).grown hg (Nat.le_refl _) (by simp)
  rw [Nat.mul_one] at ho
  generalize hz : (madeCells (Value.string ByteArray.empty).cells n).toList = zs at ho
  have HZ := hide hz
  clear hz
  have HN := hide (show zs.length = n by simpa using ho.1)
  go_loopw [4] (fun i wr => ∃ j : Nat, j ≤ n ∧ i = .int .i64 j ∧ wr.ownsRow w.heap.size 9 1 (.slice (some ⟨w.heap.size, 0, none⟩) n n) n (sts (l.take j) ++ zs.drop j) ∧ Below w.heap.size w wr) (fun i _ => n - (intOf i).toNat)
  case atStart => exact ⟨0, Nat.zero_le _, rfl, by simpa [sts] using ho, hB⟩
  case round =>
    clear hB ho hg
    obtain ⟨j, hj, rfl, ho, hb⟩ := hrel
    by_cases hlt : j < n
    · obtain ⟨ad, x, rfl, hx, hcx⟩ := Rd.st (h.below hb) hlt
      obtain ⟨u, hu, hcell, hfz⟩ := own_at_ ho hlt
      have HX := hide hx
      clear hu hx
      go_wp2
      have hzl := HN.out
      have hll := HL.out
      obtain ⟨s1, s2⟩ := own_set ho j (Value.string (x))
      rw [set_step (by rw [sts_length, List.length_take]; omega) (by omega), ← sts_snoc, ← take_snoc_ HX.out] at s1
      have S1 := hide s1
      have S2 := hide (hb.setCell (p := ⟨w.heap.size, j, none⟩) (Nat.le_refl _) (Value.string (x)))
      clear s1 s2
      go_roundw
      case rel => exact ⟨j + 1, by omega, by go_num, S1.out, S2.out⟩
      case measure => simp [intOf]; omega
    · have hjn : j = n := by omega
      subst hjn
      go_wp2
      go_ret
      have hzl := HN.out
      have hll := HL.out
      refine ⟨_, _, rfl, ?_, hb⟩
      rw [List.drop_of_length_le (by omega), List.append_nil, List.take_of_length_le (by omega)] at ho
      exact ho
end Go.Proofs.Ythjdigiaajdnbaa
