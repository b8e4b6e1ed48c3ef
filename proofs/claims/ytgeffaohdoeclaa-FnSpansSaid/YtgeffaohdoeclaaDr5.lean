/- Contracts of what draws methods. For codes of at most 2^20 bytes. -/
import Derived.Test.YtgeffaohdoeclaaDr3
import Derived.Test.YtgeffaohdoeclaaMeB
namespace Go.Proofs.Ytgeffaohdoeclaa
open Go.RowKit Go.WideShapes Go.ChangeShapes Go.Deep
set_option linter.unusedSimpArgs false
set_option linter.unusedVariables false
set_option maxRecDepth 1000000
def AllM (l : List Mt) : Prop := ∀ m ∈ l, I64 m.a ∧ I64 m.b ∧ I64 m.c ∧ I64 m.d
theorem mts_set : ∀ (l : List Mt) (k : Nat) (x : Int), k < l.length * 4 → AllM l → I64 x → ∃ l', (mts l).set k (.int .i64 x) = mts l' ∧ l'.length = l.length ∧ AllM l' := by
  intro l
  induction l with
  | nil => intro k x hk; simp at hk
  | cons m l ih =>
    intro k x hk hl hx
    have hm := hl m (by simp)
    have e : mts (m :: l) = .int .i64 m.a :: .int .i64 m.b :: .int .i64 m.c :: .int .i64 m.d :: mts l := rfl
    have ht : AllM l := fun y hy => hl y (by simp [hy])
    rw [e]
    match k, hk with
    | 0, _ => exact ⟨⟨x, m.b, m.c, m.d⟩ :: l, rfl, rfl, fun y hy => by rcases List.mem_cons.1 hy with rfl | hy; exact ⟨hx, hm.2⟩; exact ht y hy⟩
    | 1, _ => exact ⟨⟨m.a, x, m.c, m.d⟩ :: l, rfl, rfl, fun y hy => by rcases List.mem_cons.1 hy with rfl | hy; exact ⟨hm.1, hx, hm.2.2⟩; exact ht y hy⟩
    | 2, _ => exact ⟨⟨m.a, m.b, x, m.d⟩ :: l, rfl, rfl, fun y hy => by rcases List.mem_cons.1 hy with rfl | hy; exact ⟨hm.1, hm.2.1, hx, hm.2.2.2⟩; exact ht y hy⟩
    | 3, _ => exact ⟨⟨m.a, m.b, m.c, x⟩ :: l, rfl, rfl, fun y hy => by rcases List.mem_cons.1 hy with rfl | hy; exact ⟨hm.1, hm.2.1, hm.2.2.1, hx⟩; exact ht y hy⟩
    | k + 4, hk =>
      obtain ⟨l', h1, h2, h3⟩ := ih k x (by simp only [List.length_cons] at hk; omega) ht hx
      refine ⟨m :: l', ?_, by simp [h2], fun y hy => by rcases List.mem_cons.1 hy with rfl | hy; exact hm; exact h3 y hy⟩
      simp only [List.set_cons_succ, h1]
      rfl
theorem own_setM {w : World} {b n c g k : Nat} {e : TypeId} {l : List Mt} {x : Int} (h : w.ownsRow b e 4 (.slice (some ⟨g, 0, none⟩) n c) n (mts l)) (hl : l.length = n) (hk : k < n * 4) (hA : AllM l) (hx : I64 x) :
    ∃ l', (w.setCell ⟨g, k, none⟩ (.int .i64 x)).ownsRow b e 4 (.slice (some ⟨g, 0, none⟩) n c) n (mts l') ∧ l'.length = n ∧ AllM l' := by
  obtain ⟨l', h1, h2, h3⟩ := mts_set l k x (by omega) hA hx
  have := (own_set h k (.int .i64 x)).1
  rw [h1] at this
  exact ⟨l', this, by omega, h3⟩
theorem mts_take (l : List Mt) (k : Nat) : mts (l.take k) = (mts l).take (k * 4) := by
  induction l generalizing k with
  | nil => simp [mts]
  | cons m l ih =>
    cases k with
    | zero => simp [mts]
    | succ k =>
      have e : (k + 1) * 4 = k * 4 + 4 := by omega
      rw [List.take_succ_cons, e]
      show mtc m ++ mts (l.take k) = List.take (k * 4 + 4) (mtc m ++ mts l)
      rw [ih]
      simp [mtc]
theorem own_takeM {w : World} {b g : Nat} {e : TypeId} {l : List Mt} {n c k : Nat} (h : w.ownsRow b e 4 (.slice (some ⟨g, 0, none⟩) n c) n (mts l)) (hk : k ≤ n) : w.ownsRow b e 4 (.slice (some ⟨g, 0, none⟩) k c) k (mts (l.take k)) := by
  rcases h.2 with ⟨h1, _⟩ | ⟨g', cap, cur, hv, hb, hc, hn, hcap, hsz, ht⟩
  · cases h1
  · injection hv with h1 h2 h3
    have hl : (mts l).length = n * 4 := h.1
    refine ⟨by rw [mts_take, List.length_take]; omega, .inr ⟨g', cap, cur, by rw [h1, h3], hb, hc, by omega, hcap, hsz, ?_⟩⟩
    rw [mts_take, ← ht, List.take_take]
    congr 1
    omega
set_option maxHeartbeats 2000000 in
theorem l4Raw_any {p : Nat} {w : World} (hC : Cur w p) :
    Calls Try.prog 101 #[curV p] w fun e w' => ∃ x, e = .returned (.int .i64 x) ∧ I64 x ∧ Drawn w w' p := by
  go_enter Try.func101, Try.ntmps101
  go_wp2_with fail
  refine (l1Once_any hC (by omega)).mono ?_
  rintro e w1 ⟨b, rfl, hd1⟩
  cases b with
  | true =>
    go_wp2_with fail
    refine (l1Int_any (l := [(-1), (0), (10000), (10001), (9223372036854775807), (-9223372036854775808)]) (hd1.1.below ((Below.refl w1.heap.size w1).alloc (Nat.le_refl _) _)) (Rd.of_own (World.ownsRow_lit (base := w1.heap.size) (e := 3) (size := 1) w1 #[.int .i64 (-1), .int .i64 (0), .int .i64 (10000), .int .i64 (10001), .int .i64 (9223372036854775807), .int .i64 (-9223372036854775808)] 6 (Nat.le_refl _) (by unfold maxLen; omega) rfl)) (fun a e => by injection e with e; subst e; exact Nat.ne_of_gt (hd1.1).lt) (by omega) (by omega)).mono ?_
    rintro e w2 ⟨x, rfl, hx, hd2⟩
    go_wp2_with fail
    go_ret
    exact ⟨x, rfl, by simp at hx; unfold I64; omega, hd1.lit hd2⟩
  | false =>
    go_wp2_with fail
    refine (l1Below_any hd1.1 (by omega)).mono ?_
    rintro e w2 ⟨x, rfl, hx, hxI, hd2⟩
    go_wp2_with fail
    go_ret
    exact ⟨x, rfl, hxI, hd1.next hd2⟩
end Go.Proofs.Ytgeffaohdoeclaa
