/- The contract of the reference's JoinAll. For at most 2^20 spans. -/
import Derived.Test.YtgeffaohdoeclaaSpP
namespace Go.Proofs.Ytgeffaohdoeclaa
open Go.RowKit Go.WideShapes Go.ChangeShapes Go.Deep
set_option linter.unusedSimpArgs false
set_option linter.unusedVariables false
set_option maxRecDepth 100000
theorem joinF_yes {l : List Sp} {k : Nat} {x : Sp} (h : l[k]? = some x) (hx : okSp x = true) : joinF (l.take (k + 1)) = putF (joinF (l.take k)) x := by rw [joinF_step h, if_pos hx]
theorem joinF_not {l : List Sp} {k : Nat} {x : Sp} (h : l[k]? = some x) (hx : okSp x = false) : joinF (l.take (k + 1)) = joinF (l.take k) := by rw [joinF_step h, hx]; simp
set_option maxHeartbeats 4000000 in
theorem specJoinAll_any {A : Option Addr} {n c : Nat} {l : List Sp} {w : World} (h : Rd w 2 A n (sps l)) (hn : n ≤ 1099511627776) :
    Calls Try.prog 41 #[.slice A n c] w fun e w' => ∃ B N d, e = .returned (.slice B N d) ∧ N = (joinF l).length ∧ w'.ownsRow w.heap.size 65 2 (.slice B N d) N (sps (joinF l)) ∧ Below w.heap.size w w' := by
  have HL := hide h.splen
  have ho0 := World.ownsRow_lit (base := w.heap.size) (e := 65) (size := 2) w #[] 0 (Nat.le_refl _) (by unfold maxLen; omega) rfl
  have hb0 : Below w.heap.size w (w.alloc (.cells #[] 65)) := (Below.refl _ _).alloc (Nat.le_refl _) _
  go_enter Try.func41, Try.ntmps41
  go_wp2_with fail
  go_loopw [3, 4] (fun ov i wr => ∃ (k : Nat) (P : List Sp) (B : Option Addr) (d : Nat), k ≤ n ∧ i = .int .i64 k ∧ ov = .slice B P.length d ∧ Hid (joinF (l.take k) = P) ∧ wr.ownsRow w.heap.size 65 2 (.slice B P.length d) P.length (sps P) ∧ Below w.heap.size w wr) (fun _ i _ => n - (intOf i).toNat)
  case atStart => exact ⟨0, [], _, _, Nat.zero_le _, rfl, rfl, rfl, ho0, hb0⟩
  case round =>
    clear ho0 hb0
    obtain ⟨k, P, B, d, hk, rfl, rfl, hp, ho, hb⟩ := hrel
    have hz := hb.size
    have hpl : P.length ≤ k := by have h1 := joinF_len (l.take k); rw [hp.out, List.length_take] at h1; omega
    by_cases hlt : k < n
    · obtain ⟨ad, x, rfl, hx, hc0, hc1⟩ := Rd.sp (h.below hb) hlt
      have hkn : (k : Int) < (n : Int) := by omega
      have hk0 : (0 : Int) ≤ (k : Int) := by omega
      have HX := hide hx
      clear hx
      cases hs : isSp x.f x.t with
      | true =>
        have hst := hide (joinF_yes HX.out hs)
        have HS := hide hs
        go_wp2_with fail
        refine (specIsSpan_any _ _ _).mono ?_
        rintro e w1 ⟨rfl, hb1⟩
        rw [HS.out]
        have g0 := (hb1.cell (p := ad.add (k * 2)) (cell_lt hc0)).trans hc0
        have g1 := (hb1.cell (p := ⟨(ad.add (k * 2)).block, (ad.add (k * 2)).off + 1, none⟩) (cell_lt hc1)).trans hc1
        have hz1 := hb1.size
        go_wp2_with fail
        refine (l4Put_any (s := x) ((Rd.of_own ho).below hb1) (by omega) (by rw [← hp.out]; exact joinF_ok _) HS.out).mono ?_
        rintro e w2 ⟨B2, N2, d2, rfl, rfl, ho2, hb2⟩
        go_wp2_with fail
        have hb3 : Below w.heap.size w w2 := Below.next_ (Below.next_ hb hz hb1) (by omega) hb2
        have hq := hide (show joinF (l.take (k + 1)) = putF P x by rw [hst.out, hp.out])
        have ho3 := own_base ho2 (show w.heap.size ≤ w1.heap.size by omega)
        go_roundw
        case rel => exact ⟨k + 1, putF P x, B2, d2, by omega, by go_num, rfl, hq, ho3, hb3⟩
        case measure => simp [intOf]; omega
      | false =>
        have hst := hide ((joinF_not HX.out hs).trans hp.out)
        go_wp2_with fail
        refine (specIsSpan_any _ _ _).mono ?_
        rintro e w1 ⟨rfl, hb1⟩
        rw [hs]
        go_wp2_with fail
        have ho3 := own_below ho hb1
        go_roundw
        case rel => exact ⟨k + 1, P, B, d, by omega, by go_num, rfl, hst, ho3, Below.next_ hb hz hb1⟩
        case measure => simp [intOf]; omega
    · have hkn : ¬ (k : Int) < (n : Int) := by omega
      have hfin := hide (show joinF l = P by have h1 := hp.out; rwa [List.take_of_length_le (by have := HL.out; omega)] at h1)
      go_wp2_with fail
      go_ret
      exact ⟨B, P.length, d, rfl, by rw [hfin.out], by rw [hfin.out]; exact ho, hb⟩
end Go.Proofs.Ytgeffaohdoeclaa
