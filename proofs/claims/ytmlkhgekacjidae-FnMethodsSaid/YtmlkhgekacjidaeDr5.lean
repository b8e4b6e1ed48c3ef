/- Contracts of what draws methods. For codes of at most 2^20 bytes. -/
import Derived.Test.YtmlkhgekacjidaeDr3
import Derived.Test.YtmlkhgekacjidaeMeB
namespace Go.Proofs.Ytmlkhgekacjidae
open Go.RowKit Go.WideShapes Go.ChangeShapes Go.Deep
set_option linter.unusedSimpArgs false
set_option linter.unusedVariables false
set_option maxRecDepth 1000000
def AllM (l : List Mt) : Prop := ∀ m ∈ l, I64 m.a ∧ I64 m.b ∧ I64 m.c ∧ I64 m.d
theorem mts_set : ∀ (l : List Mt) (k : Nat) (x : Int), k < l.length * 4 → AllM l → I64 x → ∃ l', (mts l).set k (.int .i64 x) = mts l' ∧ l'.length = l.length ∧ AllM l' := by
  intro l
  induction l with
  | nil => intro k x hk; simp at hk
  | cons m l ih =>
    intro k x hk hl hx
    have hm := hl m (by simp)
    have e : mts (m :: l) = .int .i64 m.a :: .int .i64 m.b :: .int .i64 m.c :: .int .i64 m.d :: mts l := rfl
    have ht : AllM l := fun y hy => hl y (by simp [hy])
    rw [e]
    match k, hk with
    | 0, _ => exact ⟨⟨x, m.b, m.c, m.d⟩ :: l, rfl, rfl, fun y hy => by rcases List.mem_cons.1 hy with rfl | hy; exact ⟨hx, hm.2⟩; exact ht y hy⟩
    | 1, _ => exact ⟨⟨m.a, x, m.c, m.d⟩ :: l, rfl, rfl, fun y hy => by rcases List.mem_cons.1 hy with rfl | hy; exact ⟨hm.1, hx, hm.2.2⟩; exact ht y hy⟩
    | 2, _ => exact ⟨⟨m.a, m.b, x, m.d⟩ :: l, rfl, rfl, fun y hy => by rcases List.mem_cons.1 hy with rfl | hy; exact ⟨hm.1, hm.2.1, hx, hm.2.2.2⟩; exact ht y hy⟩
    | 3, _ => exact ⟨⟨m.a, m.b, m.c, x⟩ :: l, rfl, rfl, fun y hy => by rcases List.mem_cons.1 hy with rfl | hy; exact ⟨hm.1, hm.2.1, hm.2.2.1, hx⟩; exact ht y hy⟩
    | k + 4, hk =>
      obtain ⟨l', h1, h2, h3⟩ := ih k x (by simp only [List.length_cons] at hk; omega) ht hx
      refine ⟨m :: l', ?_, by simp [h2], fun y hy => by rcases List.mem_cons.1 hy with rfl | hy; exact hm; exact h3 y hy⟩
      simp only [List.set_cons_succ, h1]
      rfl
theorem own_setM {w : World} {b n c g k : Nat} {e : TypeId} {l : List Mt} {x : Int} (h : w.ownsRow b e 4 (.slice (some ⟨g, 0, none⟩) n c) n (mts l)) (hl : l.length = n) (hk : k < n * 4) (hA : AllM l) (hx : I64 x) :
    ∃ l', (w.setCell ⟨g, k, none⟩ (.int .i64 x)).ownsRow b e 4 (.slice (some ⟨g, 0, none⟩) n c) n (mts l') ∧ l'.length = n ∧ AllM l' := by
  obtain ⟨l', h1, h2, h3⟩ := mts_set l k x (by omega) hA hx
  have := (own_set h k (.int .i64 x)).1
  rw [h1] at this
  exact ⟨l', this, by omega, h3⟩
theorem mts_take (l : List Mt) (k : Nat) : mts (l.take k) = (mts l).take (k * 4) := by
  induction l generalizing k with
  | nil => simp [mts]
  | cons m l ih =>
    cases k with
    | zero => simp [mts]
    | succ k =>
      have e : (k + 1) * 4 = k * 4 + 4 := by omega
      rw [List.take_succ_cons, e]
      show mtc m ++ mts (l.take k) = List.take (k * 4 + 4) (mtc m ++ mts l)
      rw [ih]
      simp [mtc]
theorem own_takeM {w : World} {b g : Nat} {e : TypeId} {l : List Mt} {n c k : Nat} (h : w.ownsRow b e 4 (.slice (some ⟨g, 0, none⟩) n c) n (mts l)) (hk : k ≤ n) : w.ownsRow b e 4 (.slice (some ⟨g, 0, none⟩) k c) k (mts (l.take k)) := by
  rcases h.2 with ⟨h1, _⟩ | ⟨g', cap, cur, hv, hb, hc, hn, hcap, hsz, ht⟩
  · cases h1
  · injection hv with h1 h2 h3
    have hl : (mts l).length = n * 4 := h.1
    refine ⟨by rw [mts_take, List.length_take]; omega, .inr ⟨g', cap, cur, by rw [h1, h3], hb, hc, by omega, hcap, hsz, ?_⟩⟩
    rw [mts_take, ← ht, List.take_take]
    congr 1
    omega
set_option maxHeartbeats 2000000 in
theorem l4Raw_any {p : Nat} {w : World} (hC : Cur w p) :
    Calls Try.prog 124 #[curV p] w fun e w' => ∃ x, e = .returned (.int .i64 x) ∧ I64 x ∧ Drawn w w' p := by
  go_enter Try.func124, Try.ntmps124
  go_wp2_with fail
  refine (l1Once_any hC (by omega)).mono ?_
  rintro e w1 ⟨b, rfl, hd1⟩
  cases b with
  | true =>
    go_wp2_with fail
    refine (l1Int_any (l := [(-1), (0), (10000), (10001), (9223372036854775807), (-9223372036854775808)]) (hd1.1.below ((Below.refl w1.heap.size w1).alloc (Nat.le_refl _) _)) (Rd.of_own (World.ownsRow_lit (base := w1.heap.size) (e := 3) (size := 1) w1 #[.int .i64 (-1), .int .i64 (0), .int .i64 (10000), .int .i64 (10001), .int .i64 (9223372036854775807), .int .i64 (-9223372036854775808)] 6 (Nat.le_refl _) (by unfold maxLen; omega) rfl)) (fun a e => by injection e with e; subst e; exact Nat.ne_of_gt (hd1.1).lt) (by omega) (by omega)).mono ?_
    rintro e w2 ⟨x, rfl, hx, hd2⟩
    go_wp2_with fail
    go_ret
    exact ⟨x, rfl, by simp at hx; unfold I64; omega, hd1.lit hd2⟩
  | false =>
    go_wp2_with fail
    refine (l1Below_any hd1.1 (by omega)).mono ?_
    rintro e w2 ⟨x, rfl, hx, hxI, hd2⟩
    go_wp2_with fail
    go_ret
    exact ⟨x, rfl, hxI, hd1.next hd2⟩
set_option maxHeartbeats 2000000 in
theorem l5Table_any (w : World) :
    Calls Try.prog 154 #[] w fun e w' => e = .returned (.slice (some ⟨w.heap.size, 0, none⟩) 4 4) ∧ w'.ownsRow w.heap.size 47 4 (.slice (some ⟨w.heap.size, 0, none⟩) 4 4) 4 (mts [⟨1, 0, 40, 50⟩, ⟨2, 20, 80, 70⟩, ⟨3, 40, 120, 200⟩, ⟨4, 60, 10001, 10001⟩]) ∧ Below w.heap.size w w' := by
  have ho := World.ownsRow_lit (base := w.heap.size) (e := 47) (size := 4) w #[.int .i64 1, .int .i64 0, .int .i64 40, .int .i64 50, .int .i64 2, .int .i64 20, .int .i64 80, .int .i64 70, .int .i64 3, .int .i64 40, .int .i64 120, .int .i64 200, .int .i64 4, .int .i64 60, .int .i64 10001, .int .i64 10001] 4 (Nat.le_refl _) (by unfold maxLen; omega) rfl
  go_enter Try.func154, Try.ntmps154
  go_wp2_with fail
  go_ret
  exact ⟨rfl, ho, by repeat (first | exact Below.refl _ _ | assumption | refine Below.next_ ?_ ?_ (by assumption) | refine Below.drew ?_ | refine below_drewN ?_ _ | refine Below.alloc ?_ ?_ _ | refine Below.setCell ?_ ?_ _ | omega | (simp <;> omega) | (simp at * <;> omega))⟩
set_option maxHeartbeats 8000000 in
theorem l5Any_any {p : Nat} {w : World} (hC : Cur w p) :
    Calls Try.prog 145 #[curV p] w fun e w' => ∃ B m d, e = .returned (.slice B m d) ∧ m ≤ 4 ∧ ∃ l, w'.ownsRow w.heap.size 47 4 (.slice B m d) m (mts l) ∧ AllM l ∧ Drawn w w' p := by
  have hA : AllM [⟨1, 0, 40, 50⟩, ⟨2, 20, 80, 70⟩, ⟨3, 40, 120, 200⟩, ⟨4, 60, 10001, 10001⟩] := by
    intro m hm
    simp at hm
    unfold I64
    rcases hm with rfl | rfl | rfl | rfl <;> simp
  have hpw := hC.lt
  go_enter Try.func145, Try.ntmps145
  go_wp2_with fail
  refine (l5Table_any _).mono ?_
  rintro e w1 ⟨rfl, ho1, hb1⟩
  obtain ⟨g, hg⟩ : ∃ g, w.heap.size = g := ⟨_, rfl⟩
  have hgw : w.heap.size ≤ g := by omega
  rw [show (.slice (some ⟨w.heap.size, 0, none⟩) 4 4 : Value) = .slice (some ⟨g, 0, none⟩) 4 4 by rw [hg]] at ho1 ⊢
  have HG := hide hg
  clear hg
  have hz1 := hb1.size
  go_wp2_with fail
  refine (l1Below_any (hC.below hb1) (by omega)).mono ?_
  rintro e w2 ⟨i, rfl, hi, hiI, hd2⟩
  obtain ⟨hi0, hi1⟩ := hi.2 (by omega)
  obtain ⟨i, rfl⟩ := Int.eq_ofNat_of_zero_le hi0
  have hi4 : i < 4 := by omega
  have ho2 := own_cur ho1 hd2.2 hpw
  clear hi hiI ho1
  go_wp2_with fail
  refine (l1Below_any hd2.1 (by omega)).mono ?_
  rintro e w3 ⟨s, rfl, hs, hsI, hd3_⟩
  obtain ⟨hs0, hs1⟩ := hs.2 (by omega)
  have ho3 := own_cur ho2 hd3_.2 hpw
  have hd3 : Drawn w w3 p := Drawn.of hb1 (hd2.next hd3_)
  clear hs hsI ho2 hd2 hd3_ hb1
  by_cases h0 : s = 0
  · subst h0
    go_wp2_with fail
    refine (l1Int_any (l := [(-1), (0), (1), (99), (100)]) (hd3.1.below ((Below.refl w3.heap.size w3).alloc (Nat.le_refl _) _)) (Rd.of_own (World.ownsRow_lit (base := w3.heap.size) (e := 3) (size := 1) w3 #[.int .i64 (-1), .int .i64 (0), .int .i64 (1), .int .i64 (99), .int .i64 (100)] 5 (Nat.le_refl _) (by unfold maxLen; omega) rfl)) (fun a e => by injection e with e; subst e; exact Nat.ne_of_gt (hd3.1).lt) (by omega) (by omega)).mono ?_
    rintro e w4 ⟨x, rfl, hx, hd4⟩
    have hxI : I64 x := by simp at hx; unfold I64; omega
    have ho4 := own_cur (own_below ho3 ((Below.refl w3.heap.size w3).alloc (Nat.le_refl _) (.cells #[.int .i64 (-1), .int .i64 (0), .int .i64 (1), .int .i64 (99), .int .i64 (100)] 3))) hd4.2 hpw
    have hD4 := hd3.lit hd4
    clear hx
    obtain ⟨u, hcu, hfu⟩ := own_cell ho4 (show i * 4 < 4 * 4 by omega)
    obtain ⟨l', ho5, hl5, hA5⟩ := own_setM ho4 rfl (show i * 4 < 4 * 4 by omega) hA hxI
    have hst : Below w.heap.size w4 (w4.setCell ⟨g, i * 4, none⟩ (.int .i64 x)) := (Below.refl w.heap.size w4).setCell (p := ⟨g, i * 4, none⟩) hgw _
    go_wp2_with fail
    go_ret
    exact ⟨_, _, _, rfl, by omega, l', ho5, hA5, hD4.belowB hC.lt hst⟩
  · have b0 : (s == 0) = false := by simpa using h0
    by_cases h1 : s = 1
    · subst h1
      go_wp2_with fail
      refine (l4Raw_any hd3.1).mono ?_
      rintro e w4 ⟨x, rfl, hxI, hd4⟩
      have ho4 := own_cur ho3 hd4.2 hpw
      have hD4 := hd3.next hd4
      obtain ⟨u, hcu, hfu⟩ := own_cell ho4 (show i * 4 + 1 < 4 * 4 by omega)
      obtain ⟨l', ho5, hl5, hA5⟩ := own_setM ho4 rfl (show i * 4 + 1 < 4 * 4 by omega) hA hxI
      have hst : Below w.heap.size w4 (w4.setCell ⟨g, i * 4 + 1, none⟩ (.int .i64 x)) := (Below.refl w.heap.size w4).setCell (p := ⟨g, i * 4 + 1, none⟩) hgw _
      go_wp2_with fail
      go_ret
      exact ⟨_, _, _, rfl, by omega, l', ho5, hA5, hD4.belowB hC.lt hst⟩
    · have b1 : (s == 1) = false := by simpa using h1
      by_cases h2 : s = 2
      · subst h2
        go_wp2_with fail
        refine (l1Int_any (l := [(0), (1), (45), (10001), (10002)]) (hd3.1.below ((Below.refl w3.heap.size w3).alloc (Nat.le_refl _) _)) (Rd.of_own (World.ownsRow_lit (base := w3.heap.size) (e := 3) (size := 1) w3 #[.int .i64 (0), .int .i64 (1), .int .i64 (45), .int .i64 (10001), .int .i64 (10002)] 5 (Nat.le_refl _) (by unfold maxLen; omega) rfl)) (fun a e => by injection e with e; subst e; exact Nat.ne_of_gt (hd3.1).lt) (by omega) (by omega)).mono ?_
        rintro e w4 ⟨x, rfl, hx, hd4⟩
        have hxI : I64 x := by simp at hx; unfold I64; omega
        have ho4 := own_cur (own_below ho3 ((Below.refl w3.heap.size w3).alloc (Nat.le_refl _) (.cells #[.int .i64 (0), .int .i64 (1), .int .i64 (45), .int .i64 (10001), .int .i64 (10002)] 3))) hd4.2 hpw
        have hD4 := hd3.lit hd4
        clear hx
        obtain ⟨u, hcu, hfu⟩ := own_cell ho4 (show i * 4 + 2 < 4 * 4 by omega)
        obtain ⟨l', ho5, hl5, hA5⟩ := own_setM ho4 rfl (show i * 4 + 2 < 4 * 4 by omega) hA hxI
        have hst : Below w.heap.size w4 (w4.setCell ⟨g, i * 4 + 2, none⟩ (.int .i64 x)) := (Below.refl w.heap.size w4).setCell (p := ⟨g, i * 4 + 2, none⟩) hgw _
        go_wp2_with fail
        go_ret
        exact ⟨_, _, _, rfl, by omega, l', ho5, hA5, hD4.belowB hC.lt hst⟩
      · have b2 : (s == 2) = false := by simpa using h2
        by_cases h3 : s = 3
        · subst h3
          go_wp2_with fail
          refine (l1Int_any (l := [(0), (1), (45), (10001), (10002)]) (hd3.1.below ((Below.refl w3.heap.size w3).alloc (Nat.le_refl _) _)) (Rd.of_own (World.ownsRow_lit (base := w3.heap.size) (e := 3) (size := 1) w3 #[.int .i64 (0), .int .i64 (1), .int .i64 (45), .int .i64 (10001), .int .i64 (10002)] 5 (Nat.le_refl _) (by unfold maxLen; omega) rfl)) (fun a e => by injection e with e; subst e; exact Nat.ne_of_gt (hd3.1).lt) (by omega) (by omega)).mono ?_
          rintro e w4 ⟨x, rfl, hx, hd4⟩
          have hxI : I64 x := by simp at hx; unfold I64; omega
          have ho4 := own_cur (own_below ho3 ((Below.refl w3.heap.size w3).alloc (Nat.le_refl _) (.cells #[.int .i64 (0), .int .i64 (1), .int .i64 (45), .int .i64 (10001), .int .i64 (10002)] 3))) hd4.2 hpw
          have hD4 := hd3.lit hd4
          clear hx
          obtain ⟨u, hcu, hfu⟩ := own_cell ho4 (show i * 4 + 3 < 4 * 4 by omega)
          obtain ⟨l', ho5, hl5, hA5⟩ := own_setM ho4 rfl (show i * 4 + 3 < 4 * 4 by omega) hA hxI
          have hst : Below w.heap.size w4 (w4.setCell ⟨g, i * 4 + 3, none⟩ (.int .i64 x)) := (Below.refl w.heap.size w4).setCell (p := ⟨g, i * 4 + 3, none⟩) hgw _
          go_wp2_with fail
          go_ret
          exact ⟨_, _, _, rfl, by omega, l', ho5, hA5, hD4.belowB hC.lt hst⟩
        · have b3 : (s == 3) = false := by simpa using h3
          by_cases h4 : s = 4
          · subst h4
            have hR : w3.ownsRow w.heap.size 47 4 (.slice (some ⟨g, 0, none⟩) i 4) i (mts (List.take i [⟨1, 0, 40, 50⟩, ⟨2, 20, 80, 70⟩, ⟨3, 40, 120, 200⟩, ⟨4, 60, 10001, 10001⟩])) := own_takeM ho3 (by omega)
            go_wp2_with fail
            go_ret
            exact ⟨_, _, _, rfl, by omega, _, hR, fun m hm => hA m (List.mem_of_mem_take hm), hd3⟩
          · have b4 : (s == 4) = false := by simpa using h4
            go_wp2_with fail
            go_ret
            exact ⟨_, _, _, rfl, by omega, _, ho3, hA, hd3⟩
set_option maxHeartbeats 2000000 in
theorem DrawFindMethod_any {A : Option Addr} {n c : Nat} {l : List Int} {w : World} (h : Rd w 1 A n (u8s l)) (hn : n ≤ 1048576) (hB : ∀ x ∈ l, 0 ≤ x ∧ x ≤ 255) :
    Calls Try.prog 99 #[.slice A n c] w fun e w' => ∃ B m d x, e = .returned (.tuple #[.slice B m d, .int .i64 x]) ∧ m ≤ 4 ∧ I64 x ∧ ∃ ml, w'.ownsRow w.heap.size 47 4 (.slice B m d) m (mts ml) ∧ AllM ml ∧ Below w.heap.size w w' := by
  go_enter Try.func99, Try.ntmps99
  go_wp2_with fail
  refine (l1New_any h hn hB).mono ?_
  rintro e w1 ⟨p, rfl, hp, hC, hb1⟩
  go_wp2_with fail
  refine (l5Any_any hC).mono ?_
  rintro e w2 ⟨B, m, d, rfl, hm, ml, ho, hA, hd2⟩
  go_wp2_with fail
  refine (l1Below_any hd2.1 (by omega)).mono ?_
  rintro e w3 ⟨x, rfl, hx, hxI, hd3⟩
  have hD := hd2.next hd3
  have hz := hb1.size
  have ho' := own_cur ho hd3.2 hC.lt
  go_wp2_with fail
  exact bodyPost_ret (v := .tuple #[.slice B m d, .int .i64 x]) (by simp [results, Try.results99, go_sem, *]) rfl ⟨B, m, d, x, rfl, hm, hxI, ml, own_base ho' (by omega), hA, Below.cur hb1 hD.2 hz hp⟩
set_option maxHeartbeats 2000000 in
theorem DrawIsAlive_any {A : Option Addr} {n c : Nat} {l : List Int} {w : World} (h : Rd w 1 A n (u8s l)) (hn : n ≤ 1048576) (hB : ∀ x ∈ l, 0 ≤ x ∧ x ≤ 255) :
    Calls Try.prog 29 #[.slice A n c] w fun e w' => ∃ B m d x t, e = .returned (.tuple #[.slice B m d, .int .i64 x, .int .i64 t]) ∧ m ≤ 4 ∧ I64 x ∧ I64 t ∧ ∃ ml, w'.ownsRow w.heap.size 47 4 (.slice B m d) m (mts ml) ∧ AllM ml ∧ Below w.heap.size w w' := by
  go_enter Try.func29, Try.ntmps29
  go_wp2_with fail
  refine (DrawFindMethod_any h hn hB).mono ?_
  rintro e w0 ⟨B, m, d, x, rfl, hm, hxI, ml, ho, hA, hb0⟩
  have hz0 := hb0.size
  go_wp2_with fail
  refine (l1New_any (h.below hb0) hn hB).mono ?_
  rintro e w1 ⟨p, rfl, hp, hC, hb1⟩
  have ho1 := own_below ho hb1
  have hz1 := hb1.size
  go_wp2_with fail
  refine (l1Int_any (l := [(0), (10), (19), (20), (49), (50), (60), (69), (70), (199), (200), (10000)]) (hC.below ((Below.refl w1.heap.size w1).alloc (Nat.le_refl _) _)) (Rd.of_own (World.ownsRow_lit (base := w1.heap.size) (e := 3) (size := 1) w1 #[.int .i64 (0), .int .i64 (10), .int .i64 (19), .int .i64 (20), .int .i64 (49), .int .i64 (50), .int .i64 (60), .int .i64 (69), .int .i64 (70), .int .i64 (199), .int .i64 (200), .int .i64 (10000)] 12 (Nat.le_refl _) (by unfold maxLen; omega) rfl)) (fun a e => by injection e with e; subst e; exact Nat.ne_of_gt (hC).lt) (by omega) (by omega)).mono ?_
  rintro e w2 ⟨t, rfl, ht, hd2⟩
  have hal := (Below.refl w1.heap.size w1).alloc (Nat.le_refl _) (.cells #[.int .i64 (0), .int .i64 (10), .int .i64 (19), .int .i64 (20), .int .i64 (49), .int .i64 (50), .int .i64 (60), .int .i64 (69), .int .i64 (70), .int .i64 (199), .int .i64 (200), .int .i64 (10000)] 3)
  have hD := Drawn.lit0 hC hd2
  have hB2 : Below w0.heap.size w0 w2 := Below.cur hb1 hD.2 hz1 hp
  have ho2 := own_below ho hB2
  have htI : I64 t := by simp at ht; unfold I64; omega
  clear ht
  go_wp2_with fail
  exact bodyPost_ret (v := .tuple #[.slice B m d, .int .i64 x, .int .i64 t]) (by simp [results, Try.results29, go_sem, *]) rfl ⟨B, m, d, x, t, rfl, hm, hxI, htI, ml, ho2, hA, Below.next_ hb0 hz0 hB2⟩
set_option maxHeartbeats 2000000 in
theorem DrawBestMethod_any {A : Option Addr} {n c : Nat} {l : List Int} {w : World} (h : Rd w 1 A n (u8s l)) (hn : n ≤ 1048576) (hB : ∀ x ∈ l, 0 ≤ x ∧ x ≤ 255) :
    Calls Try.prog 34 #[.slice A n c] w fun e w' => ∃ B m d t, e = .returned (.tuple #[.slice B m d, .int .i64 t]) ∧ m ≤ 4 ∧ I64 t ∧ ∃ ml, w'.ownsRow w.heap.size 47 4 (.slice B m d) m (mts ml) ∧ AllM ml ∧ Below w.heap.size w w' := by
  go_enter Try.func34, Try.ntmps34
  go_wp2_with fail
  refine (DrawIsAlive_any h hn hB).mono ?_
  rintro e w0 ⟨B, m, d, x, t, rfl, hm, hxI, htI, ml, ho, hA, hb0⟩
  go_wp2_with fail
  exact bodyPost_ret (v := .tuple #[.slice B m d, .int .i64 t]) (by simp [results, Try.results34, go_sem, *]) rfl ⟨B, m, d, t, rfl, hm, htI, ml, ho, hA, hb0⟩
set_option maxHeartbeats 2000000 in
theorem DrawDigestOf_any {A : Option Addr} {n c : Nat} {l : List Int} {w : World} (h : Rd w 1 A n (u8s l)) (hn : n ≤ 1048576) (hB : ∀ x ∈ l, 0 ≤ x ∧ x ≤ 255) :
    Calls Try.prog 37 #[.slice A n c] w fun e w' => ∃ x B m d, e = .returned (.tuple #[.int .i64 x, .slice B m d]) ∧ m ≤ 3 ∧ 0 ≤ x ∧ x ≤ 4 ∧ ∃ bl, w'.ownsRow w.heap.size 3 1 (.slice B m d) m (ints bl) ∧ (∀ y ∈ bl, 0 ≤ y ∧ y ≤ 8) ∧ Below w.heap.size w w' := by
  obtain ⟨iInt, hiInt, hzInt0, hzInt1, hzInt2⟩ := info_parts Int_info
  go_enter Try.func37, Try.ntmps37
  go_wp2_with fail
  refine (l1New_any h hn hB).mono ?_
  rintro e w1 ⟨p, rfl, hp, hC, hb1⟩
  go_wp2_with fail
  refine (l1Below_any hC (by omega)).mono ?_
  rintro e w2 ⟨x, rfl, hx, hxI, hd2⟩
  obtain ⟨hx0, hx1⟩ := hx.2 (by omega)
  have hz := hb1.size
  have hp2 : p < w2.heap.size := hd2.1.lt
  have hz2 := hd2.2.size
  have ho12 := World.ownsRow_lit (base := w2.heap.size) (e := 3) (size := 1) w2 #[] 0 (Nat.le_refl _) (by unfold maxLen; omega) rfl
  have hb12 := (Below.refl w2.heap.size w2).alloc (Nat.le_refl _) (.cells #[] 3)
  clear hx
  go_wp2_with fail
  refine (l1Below_any (hd2.1.below hb12) (by omega)).mono ?_
  rintro e w3 ⟨M, rfl, hM, hMI, hd3⟩
  obtain ⟨hM0, hM1⟩ := hM.2 (by omega)
  obtain ⟨M, rfl⟩ := Int.eq_ofNat_of_zero_le hM0
  have ho3 := own_cur ho12 hd3.2 hp2
  have hD3 := Drawn.of hb12 hd3
  clear hM hMI ho12 hb12
  go_wp2_with fail
  go_loopw [6, 7] (fun ov i wr => ∃ (k j : Nat) (l : List Int) (B : Option Addr) (d : Nat), k + j = M ∧ i = .int .i64 k ∧ ov = .slice B j d ∧ wr.ownsRow w2.heap.size 3 1 (.slice B j d) j (ints l) ∧ Hid (∀ x ∈ l, 0 ≤ x ∧ x ≤ 8) ∧ Drawn w2 wr p) (fun _ i _ => (intOf i).toNat)
  case atStart => exact ⟨M, 0, [], _, _, by omega, rfl, rfl, ho3, (fun x hx => absurd hx (by simp)), hD3⟩
  case round =>
    clear ho3 hD3
    obtain ⟨k, j, l, B, d, hk, rfl, rfl, ho, hl, hd⟩ := hrel
    have hzr : w2.heap.size ≤ wr.heap.size := hd.2.size
    by_cases h0 : (k : Int) > 0
    · obtain ⟨k', rfl⟩ : ∃ k', k = k' + 1 := ⟨k - 1, by omega⟩
      go_wp2_with fail
      refine (l1Below_any hd.1 (by omega)).mono ?_
      rintro e w4 ⟨y, rfl, hy, hyI, hd4⟩
      obtain ⟨hy0, hy1⟩ := hy.2 (by omega)
      have hd4' := hd.next hd4
      have ho4 := own_cur ho hd4.2 hp2
      have hz4 := hd4'.2.size
      have hzz : w2.heap.size ≤ w4.heap.size := by omega
      clear hy
      go_wp2_with (at_builtin; refine wpList_app2 _ rfl (.tmp 19) (.tmp 22) 48 rfl 3 iInt (.int .i64 0) 1 8 Try.underlying48 hiInt hzInt0 hzInt1 hzInt2 rfl (by omega) rfl (ho4.alloc _) rfl (Rd.one _ _ _) (ints_one [_]) (by unfold maxLen; omega) (by omega) rfl rfl ((Below.refl w2.heap.size w4).alloc hzz _) (by simp; omega) (Nat.le_refl _) (by simp; omega) ?_; intro A5 c5 w5 ho5 hb5 hg5 hat5)
      go_roundw
      case rel => exact ⟨k', j + 1, l ++ [y], A5, c5, by omega, by go_num, rfl, by simpa [ints] using ho5, snoc_all hl.out ⟨hy0, by omega⟩, hd4'.belowB hp2 hb5⟩
      case measure => simp [intOf]
    · have hD := hd2.next hd
      go_wp2_with fail
      exact bodyPost_ret (v := .tuple #[.int .i64 x, .slice B j d]) (by simp [results, Try.results37, go_sem, *]) rfl ⟨x, B, j, d, rfl, by omega, hx0, by omega, l, own_base ho (by omega), hl.out, Below.cur hb1 hD.2 hz hp⟩
end Go.Proofs.Ytmlkhgekacjidae
