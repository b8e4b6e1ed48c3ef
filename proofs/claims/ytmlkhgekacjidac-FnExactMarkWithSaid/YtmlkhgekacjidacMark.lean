/- Contracts of MarkWith, of the program and of the reference. For slices of at most 2^38 numbers. -/
import Derived.Test.YtmlkhgekacjidacKeyed
import Derived.Test.YtmlkhgekacjidacKey
import Derived.Test.YtmlkhgekacjidacStep
import Derived.Test.YtmlkhgekacjidacQui
namespace Go.Proofs.Ytmlkhgekacjidac
open Go.RowKit Go.WideShapes Go.ChangeShapes Go.Deep
set_option linter.unusedSimpArgs false
set_option linter.unusedVariables false
set_option maxRecDepth 100000
def markF (c s : Int) (l : List Int) : Int := keyedF s (c :: l)
set_option maxHeartbeats 2000000 in
theorem specMarkWith_any {A : Option Addr} {n c : Nat} {l : List Int} {a b c_ d s : Int} {w : World} (h : Rd w 1 A n (ints l)) (hn : n ≤ 274877906944) (hI : ∀ x ∈ l, I64 x) (hc : I64 c_) (hs : I64 s) :
    Calls Try.prog 23 #[keV a b c_ d s, .slice A n c] w fun e w' => e = .returned (.int .i64 (markF c_ s l)) ∧ Below w.heap.size w w' := by
  obtain ⟨iInt, hiInt, hzInt0, hzInt1, hzInt2⟩ := info_parts Int_info
  have hI' : ∀ x ∈ c_ :: l, I64 x := by intro x hx; rcases List.mem_cons.1 hx with rfl | hx; exact hc; exact hI x hx
  obtain ⟨W1, hW_W1⟩ : ∃ W1, w.alloc (.cells #[.int .i64 a, .int .i64 b, .int .i64 c_, .int .i64 d, .int .i64 s] 33) = W1 := ⟨_, rfl⟩
  have hc_W10 : W1.cell? ⟨w.heap.size, 2, none⟩ = some (.int .i64 c_) := by rw [← hW_W1]; simp
  have hc_W11 : W1.cell? ⟨w.heap.size, 4, none⟩ = some (.int .i64 s) := by rw [← hW_W1]; simp
  have hs_W1 : w.heap.size < W1.heap.size := by rw [← hW_W1]; simp
  have hb_W1 : Below w.heap.size w W1 := by rw [← hW_W1]; repeat (first | exact Below.refl _ _ | assumption | refine Below.next_ ?_ ?_ (by assumption) | refine Below.drew ?_ | refine below_drewN ?_ _ | refine Below.alloc ?_ ?_ _ | refine Below.setCell ?_ ?_ _ | omega | (simp <;> omega) | (simp at * <;> omega))
  have HW_W1 := hide hW_W1
  clear hW_W1
  have hr := h.below hb_W1
  go_enter Try.func23, Try.ntmps23
  go_wp2_with fail
  rw [HW_W1.out]
  clear HW_W1
  go_region_held3 (fun w' => w'.cell? ⟨w.heap.size, 2, none⟩ = some (.int .i64 c_) ∧ w'.cell? ⟨w.heap.size, 4, none⟩ = some (.int .i64 s)) (((refine keep2 (W := W1) ?_ hc_W10 hc_W11); (focus (repeat (first | exact Below.refl _ _ | assumption | refine Below.next_ ?_ ?_ (by assumption) | refine Below.drew ?_ | refine below_drewN ?_ _ | refine Below.alloc ?_ ?_ _ | refine Below.setCell ?_ ?_ _ | omega | (simp <;> omega) | (simp at * <;> omega))))))
      (first | (refine step_app2 (B := W1.heap.size) (w0 := W1) _ rfl (.tmp 9) (.tmp 10) 31 rfl 3 iInt (.int .i64 0) 1 8 Try.underlying31 hiInt hzInt0 hzInt1 hzInt2 rfl (by omega) rfl (World.ownsRow_lit (base := W1.heap.size) (e := 3) (size := 1) _ #[.int .i64 c_] 1 (by first | omega | (simp <;> omega) | (simp at * <;> omega)) (by unfold maxLen; omega) rfl) rfl (hr.below (by repeat (first | exact Below.refl _ _ | assumption | refine Below.next_ ?_ ?_ (by assumption) | refine Below.drew ?_ | refine below_drewN ?_ _ | refine Below.alloc ?_ ?_ _ | refine Below.setCell ?_ ?_ _ | omega | (simp <;> omega) | (simp at * <;> omega)))) (ints_one _) ?_ ?_ rfl (show [Value.int .i64 c_] ++ ints l = ints (c_ :: l) from rfl) ?_ ?_ (Nat.le_refl _) ?_ ?_; (focus (unfold maxLen; omega)); (focus omega); (focus (repeat (first | exact Below.refl _ _ | assumption | refine Below.next_ ?_ ?_ (by assumption) | refine Below.drew ?_ | refine below_drewN ?_ _ | refine Below.alloc ?_ ?_ _ | refine Below.setCell ?_ ?_ _ | omega | (simp <;> omega) | (simp at * <;> omega)))); (focus (first | omega | (simp <;> omega) | (simp at * <;> omega))); (focus (first | omega | (simp <;> omega) | (simp at * <;> omega))); intro A3 c3 w3 ho3 hb3 hg3 hat3; have z_ := hb3.size) | (go_at_call 54; refine (specKeyedHash_any (l := c_ :: l) (Rd.of_own ho3) ?_ ?_ hs).mono ?_; (focus omega); (focus exact hI'); rintro e w4 ⟨rfl, hb4⟩; have z4_ := hb4.size))
  all_goals
    go_wp2_with fail
    go_ret
    exact ⟨rfl, by repeat (first | exact Below.refl _ _ | assumption | refine Below.next_ ?_ ?_ (by assumption) | refine Below.drew ?_ | refine below_drewN ?_ _ | refine Below.alloc ?_ ?_ _ | refine Below.setCell ?_ ?_ _ | omega | (dsimp only; omega) | (simp <;> omega) | (simp at * <;> omega))⟩
set_option maxHeartbeats 2000000 in
theorem implMarkWith_any {A : Option Addr} {n c : Nat} {l : List Int} {a b c_ d s : Int} {w : World} (h : Rd w 1 A n (ints l)) (hn : n ≤ 274877906944) (hI : ∀ x ∈ l, I64 x) (hc : I64 c_) (hs : I64 s) :
    Calls Try.prog 26 #[keV a b c_ d s, .slice A n c] w fun e w' => e = .returned (.int .i64 (markF c_ s l)) ∧ Below w.heap.size w w' := by
  obtain ⟨iInt, hiInt, hzInt0, hzInt1, hzInt2⟩ := info_parts Int_info
  have hI' : ∀ x ∈ c_ :: l, I64 x := by intro x hx; rcases List.mem_cons.1 hx with rfl | hx; exact hc; exact hI x hx
  obtain ⟨W1, hW_W1⟩ : ∃ W1, w.alloc (.cells #[.int .i64 a, .int .i64 b, .int .i64 c_, .int .i64 d, .int .i64 s] 33) = W1 := ⟨_, rfl⟩
  have hc_W10 : W1.cell? ⟨w.heap.size, 2, none⟩ = some (.int .i64 c_) := by rw [← hW_W1]; simp
  have hc_W11 : W1.cell? ⟨w.heap.size, 4, none⟩ = some (.int .i64 s) := by rw [← hW_W1]; simp
  have hs_W1 : w.heap.size < W1.heap.size := by rw [← hW_W1]; simp
  have hb_W1 : Below w.heap.size w W1 := by rw [← hW_W1]; repeat (first | exact Below.refl _ _ | assumption | refine Below.next_ ?_ ?_ (by assumption) | refine Below.drew ?_ | refine below_drewN ?_ _ | refine Below.alloc ?_ ?_ _ | refine Below.setCell ?_ ?_ _ | omega | (simp <;> omega) | (simp at * <;> omega))
  have HW_W1 := hide hW_W1
  clear hW_W1
  have hr := h.below hb_W1
  go_enter Try.func26, Try.ntmps26
  go_wp2_with fail
  rw [HW_W1.out]
  clear HW_W1
  go_region_held3 (fun w' => w'.cell? ⟨w.heap.size, 2, none⟩ = some (.int .i64 c_) ∧ w'.cell? ⟨w.heap.size, 4, none⟩ = some (.int .i64 s)) (((refine keep2 (W := W1) ?_ hc_W10 hc_W11); (focus (repeat (first | exact Below.refl _ _ | assumption | refine Below.next_ ?_ ?_ (by assumption) | refine Below.drew ?_ | refine below_drewN ?_ _ | refine Below.alloc ?_ ?_ _ | refine Below.setCell ?_ ?_ _ | omega | (simp <;> omega) | (simp at * <;> omega))))))
      (first | (refine step_app2 (B := W1.heap.size) (w0 := W1) _ rfl (.tmp 9) (.tmp 10) 31 rfl 3 iInt (.int .i64 0) 1 8 Try.underlying31 hiInt hzInt0 hzInt1 hzInt2 rfl (by omega) rfl (World.ownsRow_lit (base := W1.heap.size) (e := 3) (size := 1) _ #[.int .i64 c_] 1 (by first | omega | (simp <;> omega) | (simp at * <;> omega)) (by unfold maxLen; omega) rfl) rfl (hr.below (by repeat (first | exact Below.refl _ _ | assumption | refine Below.next_ ?_ ?_ (by assumption) | refine Below.drew ?_ | refine below_drewN ?_ _ | refine Below.alloc ?_ ?_ _ | refine Below.setCell ?_ ?_ _ | omega | (simp <;> omega) | (simp at * <;> omega)))) (ints_one _) ?_ ?_ rfl (show [Value.int .i64 c_] ++ ints l = ints (c_ :: l) from rfl) ?_ ?_ (Nat.le_refl _) ?_ ?_; (focus (unfold maxLen; omega)); (focus omega); (focus (repeat (first | exact Below.refl _ _ | assumption | refine Below.next_ ?_ ?_ (by assumption) | refine Below.drew ?_ | refine below_drewN ?_ _ | refine Below.alloc ?_ ?_ _ | refine Below.setCell ?_ ?_ _ | omega | (simp <;> omega) | (simp at * <;> omega)))); (focus (first | omega | (simp <;> omega) | (simp at * <;> omega))); (focus (first | omega | (simp <;> omega) | (simp at * <;> omega))); intro A3 c3 w3 ho3 hb3 hg3 hat3; have z_ := hb3.size) | (go_at_call 55; refine (implKeyedHash_any (l := c_ :: l) (Rd.of_own ho3) ?_ ?_ hs).mono ?_; (focus omega); (focus exact hI'); rintro e w4 ⟨rfl, hb4⟩; have z4_ := hb4.size))
  all_goals
    go_wp2_with fail
    go_ret
    exact ⟨rfl, by repeat (first | exact Below.refl _ _ | assumption | refine Below.next_ ?_ ?_ (by assumption) | refine Below.drew ?_ | refine below_drewN ?_ _ | refine Below.alloc ?_ ?_ _ | refine Below.setCell ?_ ?_ _ | omega | (dsimp only; omega) | (simp <;> omega) | (simp at * <;> omega))⟩
end Go.Proofs.Ytmlkhgekacjidac
