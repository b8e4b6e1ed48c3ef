/- Contracts of TouchesSpan, of the program and of the reference. For slices of at most 2^40 spans. -/
import Derived.Test.YtgeffaohdoeclaaSpS
import Derived.Test.YtgeffaohdoeclaaSpanT
import Derived.Test.YtgeffaohdoeclaaSpanU
namespace Go.Proofs.Ytgeffaohdoeclaa
open Go.RowKit Go.WideShapes Go.ChangeShapes Go.Deep
set_option linter.unusedSimpArgs false
set_option linter.unusedVariables false
set_option maxRecDepth 100000
def touchF (l : List Sp) (f t : Int) : Bool := l.any fun x => mtOk x.f x.t f t
theorem touchF_hit {l : List Sp} {f t : Int} {k : Nat} {x : Sp} (hx : l[k]? = some x) (h : mtOk x.f x.t f t = true) : touchF l f t = true := by
  unfold touchF
  rw [List.any_eq_true]
  exact ⟨x, List.mem_of_getElem? hx, h⟩
theorem touchF_miss {l : List Sp} {f t : Int} (h : ∀ (j : Nat) (x : Sp), l[j]? = some x → mtOk x.f x.t f t = false) : touchF l f t = false := by
  unfold touchF
  rw [List.any_eq_false]
  intro x hx
  obtain ⟨j, hj⟩ := List.mem_iff_getElem?.1 hx
  simp [h j x hj]
def NoTouch (l : List Sp) (f t : Int) (k : Nat) : Prop := ∀ (j : Nat) (x : Sp), j < k → l[j]? = some x → mtOk x.f x.t f t = false
theorem NoTouch.step {l : List Sp} {f t : Int} {k : Nat} {m : Sp} (h : NoTouch l f t k) (hk : l[k]? = some m) (hm : mtOk m.f m.t f t = false) : NoTouch l f t (k + 1) := by
  intro j m' hj hj'
  rcases Nat.lt_or_ge j k with h1 | h1
  · exact h j m' h1 hj'
  · obtain rfl : j = k := by omega
    rw [hk] at hj'
    injection hj' with e
    exact e ▸ hm
theorem NoTouch.all {l : List Sp} {f t : Int} {k : Nat} (h : NoTouch l f t k) (hk : l.length ≤ k) : touchF l f t = false :=
  touchF_miss fun j m' hj => h j m' (by have := get_lt hj; omega) hj
set_option maxHeartbeats 1600000 in
theorem implTouchesSpan_any {A : Option Addr} {n c : Nat} {l : List Sp} {sf st : Int} {w : World} (h : Rd w 2 A n (sps l)) (hn : n ≤ 1099511627776) :
    Calls Try.prog 46 #[.slice A n c, spV sf st] w fun e w' => e = .returned (.bool (touchF l sf st)) ∧ Below w.heap.size w w' := by
  have HL := hide h.splen
  obtain ⟨W1, hW_W1⟩ : ∃ W1, w.alloc (.cells #[.int .i64 sf, .int .i64 st] 65) = W1 := ⟨_, rfl⟩
  have hc_W10 : W1.cell? ⟨w.heap.size, 0, none⟩ = some (.int .i64 sf) := by rw [← hW_W1]; simp
  have hc_W11 : W1.cell? ⟨w.heap.size, 1, none⟩ = some (.int .i64 st) := by rw [← hW_W1]; simp
  have hs_W1 : w.heap.size < W1.heap.size := by rw [← hW_W1]; simp
  have hb_W1 : Below w.heap.size w W1 := by rw [← hW_W1]; repeat (first | exact Below.refl _ _ | assumption | refine Below.next_ ?_ ?_ (by assumption) | refine Below.drew ?_ | refine below_drewN ?_ _ | refine Below.alloc ?_ ?_ _ | refine Below.setCell ?_ ?_ _ | omega | (simp <;> omega) | (simp at * <;> omega))
  have HW_W1 := hide hW_W1
  clear hW_W1
  have hr := h.below hb_W1
  go_enter Try.func46, Try.ntmps46
  go_wp2_with fail
  rw [HW_W1.out]
  clear HW_W1
  go_loopw [11] (fun i wr => ∃ k : Nat, k ≤ n ∧ i = .int .i64 k ∧ Hid (NoTouch l sf st k) ∧ Below W1.heap.size W1 wr) (fun i _ => n - (intOf i).toNat)
  case atStart => exact ⟨0, Nat.zero_le _, rfl, (fun j m' hj => absurd hj (Nat.not_lt_zero _)), Below.refl _ _⟩
  case round =>
    obtain ⟨k, hk, rfl, hno, hb⟩ := hrel
    have hz := hb.size
    have hs0 := (hb.cell (cell_lt hc_W10)).trans hc_W10
    have hs1 := (hb.cell (cell_lt hc_W11)).trans hc_W11
    by_cases hlt : k < n
    · obtain ⟨ad, x, rfl, hx, hc0, hc1⟩ := Rd.sp (hr.below hb) hlt
      have hk0 : (0 : Int) ≤ (k : Int) := by omega
      have hkn : (k : Int) < (n : Int) := by omega
      have HX := hide hx
      clear hx
      have hb_ := hb.alloc hb.size (.cells #[.int .i64 x.f, .int .i64 x.t] 65)
      have hA0 : ∀ o, (wr.alloc o).cell? ⟨w.heap.size, 0, none⟩ = some (.int .i64 sf) := fun o => (World.cell?_alloc_lt _ _ ⟨w.heap.size, 0, none⟩ (cell_lt hs0)).trans hs0
      have hA1 : ∀ o, (wr.alloc o).cell? ⟨w.heap.size, 1, none⟩ = some (.int .i64 st) := fun o => (World.cell?_alloc_lt _ _ ⟨w.heap.size, 1, none⟩ (cell_lt hs1)).trans hs1
      cases hm : mtOk x.f x.t sf st with
      | true =>
        have hfin := hide (touchF_hit HX.out hm)
        go_wp2_with fail
        refine (implMeetSpans_any _ _ _ _ _).mono ?_
        rintro e w1 ⟨rfl, hb1⟩
        have hs1_ := hb1.size; (try simp at hs1_)
        go_wp2_with fail
        go_ret
        exact ⟨ret_b hfin.out.symm, by repeat (first | exact Below.refl _ _ | assumption | refine Below.next_ ?_ ?_ (by assumption) | refine Below.drew ?_ | refine below_drewN ?_ _ | refine Below.alloc ?_ ?_ _ | refine Below.setCell ?_ ?_ _ | omega | (dsimp only; omega) | (simp <;> omega) | (simp at * <;> omega))⟩
      | false =>
        have hst := hide (hno.out.step HX.out hm)
        go_wp2_with fail
        refine (implMeetSpans_any _ _ _ _ _).mono ?_
        rintro e w1 ⟨rfl, hb1⟩
        have hs1_ := hb1.size; (try simp at hs1_)
        go_wp2_with fail
        go_roundw
        case rel => exact ⟨k + 1, by omega, by go_num, hst, by repeat (first | exact Below.refl _ _ | assumption | refine Below.next_ ?_ ?_ (by assumption) | refine Below.drew ?_ | refine below_drewN ?_ _ | refine Below.alloc ?_ ?_ _ | refine Below.setCell ?_ ?_ _ | omega | (dsimp only; omega) | (simp <;> omega) | (simp at * <;> omega))⟩
        case measure => simp [intOf]; omega
    · have hfin := hide (hno.out.all (by have := HL.out; omega))
      have hkn : ¬ (k : Int) < (n : Int) := by omega
      go_wp2_with fail
      go_ret
      exact ⟨ret_b hfin.out.symm, by repeat (first | exact Below.refl _ _ | assumption | refine Below.next_ ?_ ?_ (by assumption) | refine Below.drew ?_ | refine below_drewN ?_ _ | refine Below.alloc ?_ ?_ _ | refine Below.setCell ?_ ?_ _ | omega | (simp <;> omega) | (simp at * <;> omega))⟩
end Go.Proofs.Ytgeffaohdoeclaa
