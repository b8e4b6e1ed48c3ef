/- Contracts of CoversSpan, of the program and of the reference. For at most 2^20 spans. -/
import Derived.Test.YtgeffaohdoeclaaSpI
namespace Go.Proofs.Ytgeffaohdoeclaa
open Go.RowKit Go.WideShapes Go.ChangeShapes Go.Deep
set_option linter.unusedSimpArgs false
set_option linter.unusedVariables false
set_option maxRecDepth 100000
theorem specJoinAll_h {A : Option Addr} {n c : Nat} {l : List Sp} {w : World} (h : Rd w 2 A n (sps l)) (hn : n ≤ 1099511627776) :
    Calls Try.prog 41 #[.slice A n c] w fun e w' => ∃ B N d, e = .returned (.slice B N d) ∧ Hid (N = (joinF l).length ∧ N ≤ n) ∧ w'.ownsRow w.heap.size 65 2 (.slice B N d) N (sps (joinF l)) ∧ Below w.heap.size w w' :=
  (specJoinAll_any h hn).mono fun e w' ⟨B, N, d, h1, h2, h3, h4⟩ => ⟨B, N, d, h1, ⟨h2, by have := joinF_len l; have := h.splen; omega⟩, h3, h4⟩
theorem implJoinAll_h {A : Option Addr} {n c : Nat} {l : List Sp} {w : World} (h : Rd w 2 A n (sps l)) (hn : n ≤ 1099511627776) :
    Calls Try.prog 40 #[.slice A n c] w fun e w' => ∃ B N d, e = .returned (.slice B N d) ∧ Hid (N = (joinF l).length ∧ N ≤ n) ∧ w'.ownsRow w.heap.size 65 2 (.slice B N d) N (sps (joinF l)) ∧ Below w.heap.size w w' :=
  (implJoinAll_any h hn).mono fun e w' ⟨B, N, d, h1, h2, h3, h4⟩ => ⟨B, N, d, h1, ⟨h2, by have := joinF_len l; have := h.splen; omega⟩, h3, h4⟩
def coverF (l : List Sp) (f t : Int) : Bool := (joinF l).any fun x => insd f t x.f x.t
theorem coverF_hit {l : List Sp} {f t : Int} {k : Nat} {x : Sp} (hx : (joinF l)[k]? = some x) (h : insd f t x.f x.t = true) : coverF l f t = true := by
  unfold coverF
  rw [List.any_eq_true]
  exact ⟨x, List.mem_of_getElem? hx, h⟩
def NoCover (l : List Sp) (f t : Int) (k : Nat) : Prop := ∀ (j : Nat) (x : Sp), j < k → (joinF l)[j]? = some x → insd f t x.f x.t = false
theorem NoCover.step {l : List Sp} {f t : Int} {k : Nat} {m : Sp} (h : NoCover l f t k) (hk : (joinF l)[k]? = some m) (hm : insd f t m.f m.t = false) : NoCover l f t (k + 1) := by
  intro j m' hj hj'
  rcases Nat.lt_or_ge j k with h1 | h1
  · exact h j m' h1 hj'
  · obtain rfl : j = k := by omega
    rw [hk] at hj'
    injection hj' with e
    exact e ▸ hm
theorem NoCover.all {l : List Sp} {f t : Int} {k : Nat} (h : NoCover l f t k) (hk : (joinF l).length ≤ k) : coverF l f t = false := by
  unfold coverF
  rw [List.any_eq_false]
  intro x hx
  obtain ⟨j, hj⟩ := List.mem_iff_getElem?.1 hx
  simp [h j x (by have := get_lt hj; omega) hj]
set_option maxHeartbeats 2000000 in
theorem implCoversSpan_any {A : Option Addr} {n c : Nat} {l : List Sp} {sf st : Int} {w : World} (h : Rd w 2 A n (sps l)) (hn : n ≤ 1099511627776) :
    Calls Try.prog 47 #[.slice A n c, spV sf st] w fun e w' => e = .returned (.bool (coverF l sf st)) ∧ Below w.heap.size w w' := by
  obtain ⟨W1, hW_W1⟩ : ∃ W1, w.alloc (.cells #[.int .i64 sf, .int .i64 st] 65) = W1 := ⟨_, rfl⟩
  have hc_W10 : W1.cell? ⟨w.heap.size, 0, none⟩ = some (.int .i64 sf) := by rw [← hW_W1]; simp
  have hc_W11 : W1.cell? ⟨w.heap.size, 1, none⟩ = some (.int .i64 st) := by rw [← hW_W1]; simp
  have hs_W1 : w.heap.size < W1.heap.size := by rw [← hW_W1]; simp
  have hb_W1 : Below w.heap.size w W1 := by rw [← hW_W1]; repeat (first | exact Below.refl _ _ | assumption | refine Below.next_ ?_ ?_ (by assumption) | refine Below.drew ?_ | refine below_drewN ?_ _ | refine Below.alloc ?_ ?_ _ | refine Below.setCell ?_ ?_ _ | omega | (simp <;> omega) | (simp at * <;> omega))
  have HW_W1 := hide hW_W1
  clear hW_W1
  have hr := h.below hb_W1
  go_enter Try.func47, Try.ntmps47
  go_wp2_with fail
  rw [HW_W1.out]
  clear HW_W1
  refine (implJoinAll_h hr hn).mono ?_
  rintro e w2 ⟨B, N, d, rfl, hN, ho, hb2⟩
  have hNn := hN.out.2
  have hz2 := hb2.size
  have hs0_ := (hb2.cell (cell_lt hc_W10)).trans hc_W10
  have hs1_ := (hb2.cell (cell_lt hc_W11)).trans hc_W11
  go_wp2_with fail
  go_loopw [10] (fun i wr => ∃ k : Nat, k ≤ N ∧ i = .int .i64 k ∧ Hid (NoCover l sf st k) ∧ Below w2.heap.size w2 wr) (fun i _ => N - (intOf i).toNat)
  case atStart => exact ⟨0, Nat.zero_le _, rfl, (fun j m' hj => absurd hj (Nat.not_lt_zero _)), Below.refl _ _⟩
  case round =>
    obtain ⟨k, hk, rfl, hno, hb⟩ := hrel
    have hz := hb.size
    have hs0 := (hb.cell (cell_lt hs0_)).trans hs0_
    have hs1 := (hb.cell (cell_lt hs1_)).trans hs1_
    by_cases hlt : k < N
    · obtain ⟨ad, x, rfl, hx, hc0, hc1⟩ := Rd.sp ((Rd.of_own ho).below hb) hlt
      have hk0 : (0 : Int) ≤ (k : Int) := by omega
      have hkn : (k : Int) < (N : Int) := by omega
      have HX := hide hx
      clear hx
      have hA0 : ∀ o, (wr.alloc o).cell? ⟨w.heap.size, 0, none⟩ = some (.int .i64 sf) := fun o => (World.cell?_alloc_lt _ _ ⟨w.heap.size, 0, none⟩ (cell_lt hs0)).trans hs0
      have hA1 : ∀ o, (wr.alloc o).cell? ⟨w.heap.size, 1, none⟩ = some (.int .i64 st) := fun o => (World.cell?_alloc_lt _ _ ⟨w.heap.size, 1, none⟩ (cell_lt hs1)).trans hs1
      cases hm : insd sf st x.f x.t with
      | true =>
        have hfin := hide (coverF_hit HX.out hm)
        go_wp2_with fail
        refine (implIsInside_any _ _ _ _ _).mono ?_
        rintro e w3 ⟨rfl, hb3⟩
        have hs3_ := hb3.size; (try simp at hs3_)
        rw [hm]
        go_wp2_with fail
        go_ret
        exact ⟨ret_b hfin.out.symm, by repeat (first | exact Below.refl _ _ | assumption | refine Below.next_ ?_ ?_ (by assumption) | refine Below.drew ?_ | refine below_drewN ?_ _ | refine Below.alloc ?_ ?_ _ | refine Below.setCell ?_ ?_ _ | omega | (dsimp only; omega) | (simp <;> omega) | (simp at * <;> omega))⟩
      | false =>
        have hst := hide (hno.out.step HX.out hm)
        go_wp2_with fail
        refine (implIsInside_any _ _ _ _ _).mono ?_
        rintro e w3 ⟨rfl, hb3⟩
        have hs3_ := hb3.size; (try simp at hs3_)
        rw [hm]
        go_wp2_with fail
        go_roundw
        case rel => exact ⟨k + 1, by omega, by go_num, hst, by repeat (first | exact Below.refl _ _ | assumption | refine Below.next_ ?_ ?_ (by assumption) | refine Below.drew ?_ | refine below_drewN ?_ _ | refine Below.alloc ?_ ?_ _ | refine Below.setCell ?_ ?_ _ | omega | (dsimp only; omega) | (simp <;> omega) | (simp at * <;> omega))⟩
        case measure => simp [intOf]; omega
    · have hfin := hide (hno.out.all (by have := hN.out.1; omega))
      have hkn : ¬ (k : Int) < (N : Int) := by omega
      go_wp2_with fail
      go_ret
      exact ⟨ret_b hfin.out.symm, by repeat (first | exact Below.refl _ _ | assumption | refine Below.next_ ?_ ?_ (by assumption) | refine Below.drew ?_ | refine below_drewN ?_ _ | refine Below.alloc ?_ ?_ _ | refine Below.setCell ?_ ?_ _ | omega | (dsimp only; omega) | (simp <;> omega) | (simp at * <;> omega))⟩
end Go.Proofs.Ytgeffaohdoeclaa
