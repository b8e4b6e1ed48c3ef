/- Contracts of the laws' own helpers on slices of spans. For slices of at most 2^40 elements. -/
import Derived.Test.YtmlkhgekacjidaeStr
import Derived.Test.YtmlkhgekacjidaeSpan
import Derived.Test.YtmlkhgekacjidaeQui
namespace Go.Proofs.Ytmlkhgekacjidae
open Go.RowKit Go.WideShapes Go.ChangeShapes Go.Deep
set_option linter.unusedSimpArgs false
set_option linter.unusedVariables false
abbrev sqV (m : Sp) : Value := .agg #[.int .i64 m.f, .int .i64 m.t]
theorem Sp.eq_iff {x y : Sp} : x = y ↔ x.f = y.f ∧ x.t = y.t := by cases x; cases y; simp
def mkSp (k : Int) (n : Nat) : List Sp := (List.range n).map fun j : Nat => ⟨k + 2 * (j : Int), k + 2 * (j : Int) + 1⟩
theorem mkSp_length (k : Int) (n : Nat) : (mkSp k n).length = n := by simp [mkSp]
theorem mkSp_succ (k : Int) (n : Nat) : mkSp k (n + 1) = mkSp k n ++ [⟨k + 2 * (n : Int), k + 2 * (n : Int) + 1⟩] := by simp [mkSp, List.range_succ]
theorem mkSp_at (k : Int) {n j : Nat} (h : j < n) : (mkSp k n)[j]? = some ⟨k + 2 * (j : Int), k + 2 * (j : Int) + 1⟩ := by simp [mkSp, h]
theorem szSpanS_ok {A : Option Addr} {n c : Nat} {left : Int} (w : World) (hl0 : 0 ≤ left) (hl1 : left ≤ 1048576) (hn : (n : Int) ≤ left) :
    Calls Try.prog 39 #[.slice A n c, .int .i64 left] w fun e w' => e = .returned (.int .i64 (left - n)) ∧ w = w' := by
  have hw : wrap64 (left - n) = left - n := by simp only [wrap64]; omega
  have h1 : ¬ (left - n < 0) := by omega
  go_enter Try.func39, Try.ntmps39
  go_wp2
  go_ret
  exact ⟨rfl, rfl⟩
theorem szSpanS_no {A : Option Addr} {n c : Nat} {left : Int} (w : World) (hl0 : 0 ≤ left) (hl1 : left ≤ 1048576) (hn : n ≤ 9223372036854775807) (hg : left < (n : Int)) :
    Calls Try.prog 39 #[.slice A n c, .int .i64 left] w fun e w' => e = .returned (.int .i64 (-1)) ∧ w = w' := by
  have hw : wrap64 (left - n) = left - n := by simp only [wrap64]; omega
  have h1 : left - n < 0 := by omega
  go_enter Try.func39, Try.ntmps39
  go_wp2
  go_ret
  exact ⟨rfl, rfl⟩
set_option maxHeartbeats 1600000 in
theorem eqSpanS_any {A B : Option Addr} {n m c d : Nat} {l1 l2 : List Sp} {w : World} (h1 : Rd w 2 A n (sps l1)) (h2 : Rd w 2 B m (sps l2)) (hn : n ≤ 1099511627776) (hm : m ≤ 1099511627776) :
    Calls Try.prog 43 #[.slice A n c, .slice B m d] w fun e w' => e = .returned (.bool (decide (l1 = l2))) ∧ Below w.heap.size w w' := by
  have e1 : l1.length = n := h1.splen
  have e2 : l2.length = m := h2.splen
  by_cases hnm : n = m
  · subst hnm
    have E1 := hide e1
    have E2 := hide e2
    clear e1 e2
    go_enter Try.func43, Try.ntmps43
    go_wp2
    go_loopw [5] (fun i wr => ∃ k : Nat, k ≤ n ∧ i = .int .i64 k ∧ Hid (l1.take k = l2.take k) ∧ Below w.heap.size w wr) (fun i _ => n - (intOf i).toNat)
    case atStart => exact ⟨0, Nat.zero_le _, rfl, rfl, Below.refl _ _⟩
    case round =>
      obtain ⟨k, hk, rfl, ht, hb⟩ := hrel
      by_cases hlt : k < n
      · obtain ⟨ad, x, rfl, hx, hc0, hc1⟩ := Rd.sp (h1.below hb) hlt
        obtain ⟨bd, y, rfl, hy, hd0, hd1⟩ := Rd.sp (h2.below hb) hlt
        have hk0 : (0 : Int) ≤ (k : Int) := by omega
        have hkn : (k : Int) < (n : Int) := by omega
        have HX := hide hx
        have HY := hide hy
        clear hx hy
        have hz := hb.size
        by_cases hxy : x = y
        · have hq : decide (x.f = y.f ∧ x.t = y.t) = true := by simpa [Sp.eq_iff] using hxy
          have hst := hide (take_step HX.out (hxy ▸ HY.out) ht)
          clear hxy
          go_wp2
          have ha0 := after_cell hc0
          have ha1 := after_cell_f hc1
          have ha2 := after_cell hd0
          have ha3 := after_cell_f hd1
          refine wp_region_after (by kernel_rfl) (by kernel_rfl) ?_
          repeat (go_big_quiet_step ((go_at_call 105; refine Calls.after (eqSpan_any _ _ _ _ _))))
          refine wpQuiet_nil ?_
          rintro _ ⟨⟨w1, hb1⟩, rfl⟩
          go_wp2
          go_roundw
          case rel => exact ⟨k + 1, by omega, by go_num, hst, by repeat (first | exact Below.refl _ _ | assumption | refine Below.next_ ?_ ?_ (by assumption) | refine Below.drew ?_ | refine below_drewN ?_ _ | refine Below.alloc ?_ ?_ _ | refine Below.setCell ?_ ?_ _ | omega | (simp <;> omega) | (simp at * <;> omega))⟩
          case measure => simp [intOf]; omega
        · have hq : decide (x.f = y.f ∧ x.t = y.t) = false := by simpa [Sp.eq_iff] using hxy
          have hfin := hide (show decide (l1 = l2) = false by simpa using ne_of_at HX.out HY.out hxy)
          clear hxy
          go_wp2
          have ha0 := after_cell hc0
          have ha1 := after_cell_f hc1
          have ha2 := after_cell hd0
          have ha3 := after_cell_f hd1
          refine wp_region_after (by kernel_rfl) (by kernel_rfl) ?_
          repeat (go_big_quiet_step ((go_at_call 105; refine Calls.after (eqSpan_any _ _ _ _ _))))
          refine wpQuiet_nil ?_
          rintro _ ⟨⟨w1, hb1⟩, rfl⟩
          go_wp2
          go_ret
          exact ⟨ret_b hfin.out.symm, by repeat (first | exact Below.refl _ _ | assumption | refine Below.next_ ?_ ?_ (by assumption) | refine Below.drew ?_ | refine below_drewN ?_ _ | refine Below.alloc ?_ ?_ _ | refine Below.setCell ?_ ?_ _ | omega | (simp <;> omega) | (simp at * <;> omega))⟩
      · have hfin := hide (show decide (l1 = l2) = true by
          have hkn : k = n := by omega
          subst hkn
          simpa using eq_of_takes E1.out E2.out ht.out)
        have hkn : ¬ (k : Int) < (n : Int) := by omega
        go_wp2
        go_ret
        exact ⟨ret_b hfin.out.symm, hb⟩
  · have hfin := hide (show decide (l1 = l2) = false by
      simp only [decide_eq_false_iff_not]
      rintro rfl
      omega)
    have hb : ((n : Int) == (m : Int)) = false := by simpa using (by omega : ¬ (n : Int) = m)
    clear hnm e1 e2
    go_enter Try.func43, Try.ntmps43
    go_wp2
    go_ret
    exact ⟨ret_b hfin.out.symm, Below.refl _ _⟩
theorem Span_info : (Try.prog.info? 82).map (fun i => (i.zero, i.size, i.bytes)) = some (some (sqV ⟨0, 0⟩), 2, 16) := by kernel_rfl
set_option maxHeartbeats 1600000 in
theorem toSpanS_any {A : Option Addr} {n c : Nat} {l : List Sp} {w : World} (h : Rd w 2 A n (sps l)) (hn : n ≤ 1099511627776) :
    Calls Try.prog 41 #[.slice A n c] w fun e w' => ∃ B d, e = .returned (.slice B n d) ∧ w'.ownsRow w.heap.size 82 2 (.slice B n d) n (sps l) ∧ Below w.heap.size w w' := by
  obtain ⟨i0, hi, hz0, hz1, hz2⟩ := info_parts Span_info
  have HL := hide h.splen
  go_enter Try.func41, Try.ntmps41
  go_wp2_with (at_make; refine wpList_make_full _ rfl _ _ _ rfl w.heap.size 82 i0 (sqV ⟨0, 0⟩) 2 Try.underlying54 hi hz0 hz1 _ _ _ _ n rfl rfl rfl rfl (by rw [hz2]; omega) (by unfold maxLen; omega) (Nat.le_refl _) ?_; intro w1 ho hg)
  have hB := (Below.refl w.heap.size w).grown hg (Nat.le_refl _) (by simp)
  generalize hz : (madeCells (sqV ⟨0, 0⟩).cells (n * 2)).toList = zs at ho
  have HZ := hide hz
  clear hz
  have HN := hide (show zs.length = n * 2 by simpa using ho.1)
  go_loopw [4] (fun i wr => ∃ j : Nat, j ≤ n ∧ i = .int .i64 j ∧ wr.ownsRow w.heap.size 82 2 (.slice (some ⟨w.heap.size, 0, none⟩) n n) n (sps (l.take j) ++ zs.drop (j * 2)) ∧ Below w.heap.size w wr) (fun i _ => n - (intOf i).toNat)
  case atStart => exact ⟨0, Nat.zero_le _, rfl, by simpa [sps] using ho, hB⟩
  case round =>
    clear hB ho hg
    obtain ⟨j, hj, rfl, ho, hb⟩ := hrel
    by_cases hlt : j < n
    · obtain ⟨ad, x, rfl, hx, hc0, hc1⟩ := Rd.sp (h.below hb) hlt
      have HX := hide hx
      clear hx
      have hj2 : j * 2 + 2 ≤ n * 2 := by omega
      go_wp2_with fail
      refine (toSpan_any _ _ _).mono ?_
      rintro e w2 ⟨rfl, hb2⟩
      have ho2 := own_below ho hb2
      have hz := hb.size
      have hb3 := Below.next_ hb hz hb2
      obtain ⟨u0, g0, f0⟩ := own_cell ho2 (j := j * 2) (by omega)
      obtain ⟨u1, g1, f1⟩ := own_cell ho2 (j := j * 2 + 1) (by omega)
      go_wp2_with fail
      have S1 := hide (own_sp ho2 HX.out HN.out hlt)
      have S2 := hide ((hb3.setCell (p := ⟨w.heap.size, j * 2, none⟩) (Nat.le_refl _) (.int .i64 x.f)).setCell (p := ⟨w.heap.size, j * 2 + 1, none⟩) (Nat.le_refl _) (.int .i64 x.t))
      go_roundw
      case rel => exact ⟨j + 1, by omega, by go_num, S1.out, S2.out⟩
      case measure => simp [intOf]; omega
    · have hjn : j = n := by omega
      subst hjn
      go_wp2
      go_ret
      have hzl := HN.out
      have hll := HL.out
      refine ⟨_, _, rfl, ?_, hb⟩
      rw [List.drop_of_length_le (by omega), List.append_nil, List.take_of_length_le (by omega)] at ho
      exact ho
set_option maxHeartbeats 1600000 in
theorem markSpanS_any {A : Option Addr} {n c base : Nat} {xs : List Value} {k : Int} {w : World} (h : w.ownsRow base 82 2 (.slice A n c) n xs) (hn : n ≤ 4398046511104) (hk0 : 0 ≤ k) (hk : k ≤ 1125899906842624) :
    Calls Try.prog 44 #[.slice A n c, .int .i64 k] w fun e w' => e = .returned (.int .i64 (k + 2 * n)) ∧ w'.ownsRow base 82 2 (.slice A n c) n (sps (mkSp k n)) ∧ w.grownBy w' (blk A) := by
  have HL := hide h.1
  go_enter Try.func44, Try.ntmps44
  go_wp2
  go_loopw [1, 5] (fun kk i wr => ∃ j : Nat, j ≤ n ∧ i = .int .i64 j ∧ kk = .int .i64 (k + 2 * j) ∧ wr.ownsRow base 82 2 (.slice A n c) n (sps (mkSp k j) ++ xs.drop (j * 2)) ∧ w.grownBy wr (blk A)) (fun _ i _ => n - (intOf i).toNat)
  case atStart => exact ⟨0, Nat.zero_le _, rfl, by go_num, by simpa [mkSp, sps] using h, World.grownBy.refl _ _⟩
  case round =>
    obtain ⟨j, hj, rfl, rfl, ho, hg⟩ := hrel
    by_cases hlt : j < n
    · obtain ⟨g, cap, hv, hbg, hlt2⟩ := ho.form (by omega)
      obtain ⟨rfl, rfl⟩ : A = some ⟨g, 0, none⟩ ∧ c = cap := by injection hv with h1 h2 h3; exact ⟨h1, h3⟩
      clear hv
      obtain ⟨u0, g0, f0⟩ := own_cell ho (j := j * 2) (by omega)
      obtain ⟨u1, g1, f1⟩ := own_cell ho (j := j * 2 + 1) (by omega)
      go_wp2
      have hl := HL.out
      have hlen : (mkSp k n).length = n := mkSp_length k n
      have hx := mkSp_at k hlt
      have htk : ∀ i, i ≤ n → (mkSp k n).take i = mkSp k i := by
        intro i hi
        simp only [mkSp, ← List.map_take]
        rw [List.take_range, Nat.min_eq_left hi]
      have S1 := own_sp (l := mkSp k n) (zs := xs) (j := j) (x := ⟨k + 2 * (j : Int), k + 2 * (j : Int) + 1⟩) (by rw [htk j (by omega)]; exact ho) hx hl hlt
      rw [htk (j + 1) (by omega)] at S1
      have s2a := (own_set ho (j * 2) (.int .i64 (k + 2 * (j : Int)))).2
      have s2b := (own_set (own_set ho (j * 2) (.int .i64 (k + 2 * (j : Int)))).1 (j * 2 + 1) (.int .i64 (k + 2 * (j : Int) + 1))).2
      have S2 := hide (grown_trans_ hg (grown_trans_ s2a s2b))
      have S1' := hide S1
      clear S1 s2a s2b htk hx hlen
      go_roundw
      case rel => exact ⟨j + 1, by omega, by go_num, by first | go_num | (congr 1; omega) | (simp; omega), S1'.out, S2.out⟩
      case measure => simp [intOf]; omega
    · have hjn : j = n := by omega
      subst hjn
      go_wp2
      go_ret
      have hl := HL.out
      exact ⟨rfl, by rw [List.drop_of_length_le (by omega), List.append_nil] at ho; exact ho, hg⟩
set_option maxHeartbeats 1600000 in
theorem heldSpanS_any {A : Option Addr} {n c : Nat} {k : Int} {w : World} (h : Rd w 2 A n (sps (mkSp k n))) (hn : n ≤ 4398046511104) (hk0 : 0 ≤ k) (hk : k ≤ 1125899906842624) :
    Calls Try.prog 45 #[.slice A n c, .int .i64 k] w fun e w' => e = .returned (.int .i64 (k + 2 * n)) ∧ ∃ q, w' = w.drewN q := by
  go_enter Try.func45, Try.ntmps45
  go_wp2
  go_loopw [1, 5] (fun kk i wr => ∃ j q : Nat, j ≤ n ∧ i = .int .i64 j ∧ kk = .int .i64 (k + 2 * j) ∧ wr = w.drewN q) (fun _ i _ => n - (intOf i).toNat)
  case atStart => exact ⟨0, 0, Nat.zero_le _, rfl, by go_num, rfl⟩
  case round =>
    obtain ⟨j, q, hj, rfl, rfl, rfl⟩ := hrel
    by_cases hlt : j < n
    · obtain ⟨ad, x, rfl, hx, hc0, hc1⟩ := Rd.sp h hlt
      rw [mkSp_at k hlt] at hx
      obtain rfl : (⟨k + 2 * (j : Int), k + 2 * (j : Int) + 1⟩ : Sp) = x := by injection hx
      clear hx
      go_wp2
      go_roundw
      case rel => exact ⟨j + 1, q, by omega, by go_num, by first | go_num | (congr 1; omega) | (simp; omega), rfl⟩
      case measure => simp [intOf]; omega
    · have hjn : j = n := by omega
      subst hjn
      go_wp2
      go_ret
      exact ⟨rfl, q, rfl⟩
end Go.Proofs.Ytmlkhgekacjidae
