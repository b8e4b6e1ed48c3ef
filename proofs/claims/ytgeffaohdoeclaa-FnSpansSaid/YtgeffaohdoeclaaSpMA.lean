/- Contracts of MeetAll, of the program and of the reference. For lists of at most 2^20 spans each. -/
import Derived.Test.YtgeffaohdoeclaaSpCo
import Derived.Test.YtgeffaohdoeclaaSpanT
import Derived.Test.YtgeffaohdoeclaaSpanU
namespace Go.Proofs.Ytgeffaohdoeclaa
open Go.RowKit Go.WideShapes Go.ChangeShapes Go.Deep
set_option linter.unusedSimpArgs false
set_option linter.unusedVariables false
set_option maxRecDepth 100000
def meet1 (x y : Sp) : List Sp := if mtOk x.f x.t y.f y.t = true then [⟨mtF x.f x.t y.f y.t, mtT x.f x.t y.f y.t⟩] else []
def meetRow (b : List Sp) (x : Sp) : List Sp := b.flatMap (meet1 x)
def meetL (a b : List Sp) : List Sp := a.flatMap (meetRow b)
def meetAllF (a b : List Sp) : List Sp := joinF (meetL a b)
theorem grown_cellM {w w' : World} {row : Option Nat} {g j : Nat} {u : Value} (hg : w.grownBy w' row) (hne : row ≠ some g) (hc : w.cell? ⟨g, j, none⟩ = some u) : w'.cell? ⟨g, j, none⟩ = some u := by
  have hlt := cell_lt hc
  have hb := hg.block g hlt (fun h => hne h.symm)
  rw [← hc]
  exact World.cell?_of_block hb
theorem blk_ne {w : World} {b : Nat} {e : TypeId} {s n c g : Nat} {A : Option Addr} {xs : List Value} (h : w.ownsRow b e s (.slice A n c) n xs) (hg : w.heap.size ≤ g) : blk A ≠ some g := by
  intro he
  have := (h.lt g (by rw [blk_own]; exact he)).2
  omega
theorem meet1_yes {x y : Sp} (h : mtOk x.f x.t y.f y.t = true) : meet1 x y = [⟨mtF x.f x.t y.f y.t, mtT x.f x.t y.f y.t⟩] := if_pos h
theorem meet1_no {x y : Sp} (h : mtOk x.f x.t y.f y.t = false) : meet1 x y = [] := by unfold meet1; rw [h]; simp
theorem meet1_len (x y : Sp) : (meet1 x y).length ≤ 1 := by unfold meet1; split <;> simp
theorem meetRow_step {b : List Sp} {x y : Sp} {j : Nat} (h : b[j]? = some y) : meetRow (b.take (j + 1)) x = meetRow (b.take j) x ++ meet1 x y := by rw [take_snoc_ h]; simp [meetRow]
theorem meetRow_len (b : List Sp) (x : Sp) : (meetRow b x).length ≤ b.length := by
  unfold meetRow
  induction b with
  | nil => simp
  | cons y b ih => rw [List.flatMap_cons, List.length_append, List.length_cons]; have := meet1_len x y; omega
theorem meetL_step {a b : List Sp} {x : Sp} {k : Nat} (h : a[k]? = some x) : meetL (a.take (k + 1)) b = meetL (a.take k) b ++ meetRow b x := by rw [take_snoc_ h]; simp [meetL]
theorem meetL_len (a b : List Sp) : (meetL a b).length ≤ a.length * b.length := by
  unfold meetL
  induction a with
  | nil => simp
  | cons x a ih => rw [List.flatMap_cons, List.length_append, List.length_cons, Nat.succ_mul]; have := meetRow_len b x; omega
theorem inner_len {a b P Q : List Sp} {x : Sp} {k j n m : Nat} (hP : meetL (a.take k) b = P) (hQ : P ++ meetRow (b.take j) x = Q) (hk : k < n) (hj : j ≤ m) (hb : b.length = m) (hn : n ≤ 1048576) (hm : m ≤ 1048576) : Q.length ≤ 1099511627776 := by
  have h1 := meetL_len (a.take k) b
  have h2 := meetRow_len (b.take j) x
  rw [hP] at h1
  rw [← hQ, List.length_append]
  rw [List.length_take] at h1 h2
  have h3 : min k a.length * b.length ≤ 1048575 * 1048576 := Nat.mul_le_mul (by omega) (by omega)
  omega
theorem outer_len {a b P : List Sp} {k n m : Nat} (hP : meetL (a.take k) b = P) (hk : k ≤ n) (hb : b.length = m) (hn : n ≤ 1048576) (hm : m ≤ 1048576) : P.length ≤ 1099511627776 := by
  have h1 := meetL_len (a.take k) b
  rw [hP, List.length_take] at h1
  have h3 : min k a.length * b.length ≤ 1048576 * 1048576 := Nat.mul_le_mul (by omega) (by omega)
  omega
set_option maxHeartbeats 8000000 in
theorem implMeetAll_any {A A2 : Option Addr} {n m c c2 : Nat} {a b : List Sp} {w : World} (h : Rd w 2 A n (sps a)) (h2 : Rd w 2 A2 m (sps b)) (hn : n ≤ 1048576) (hm : m ≤ 1048576) :
    Calls Try.prog 45 #[.slice A n c, .slice A2 m c2] w fun e w' => ∃ B N d, e = .returned (.slice B N d) ∧ Hid (N = (meetAllF a b).length ∧ N ≤ 1099511627776) ∧ w'.ownsRow w.heap.size 65 2 (.slice B N d) N (sps (meetAllF a b)) ∧ Below w.heap.size w w' := by
  obtain ⟨iSp, hiSp, hzSp0, hzSp1, hzSp2⟩ := info_parts Span_info
  have HLa := hide h.splen
  have HLb := hide h2.splen
  go_enter Try.func45, Try.ntmps45
  go_wp2_with fail
  go_loopw [5, 14] (fun ov i wr => ∃ (k : Nat) (P : List Sp) (N : Nat) (B : Option Addr) (d : Nat), k ≤ n ∧ i = .int .i64 k ∧ ov = .slice B N d ∧ Hid (N = P.length) ∧ Hid (meetL (a.take k) b = P) ∧ wr.ownsRow w.heap.size 65 2 (.slice B N d) N (sps P) ∧ Below w.heap.size w wr) (fun _ i _ => n - (intOf i).toNat)
  case atStart => exact ⟨0, [], 0, none, 0, Nat.zero_le _, rfl, rfl, rfl, rfl, World.ownsRow_nil _ _ _ _, Below.refl _ _⟩
  case round =>
    obtain ⟨k, P, N, B, d, hk, rfl, rfl, hN, hP, ho, hbO⟩ := hrel
    obtain ⟨V, rfl⟩ : ∃ V, V = wr := ⟨wr, rfl⟩
    have hzO := hbO.size
    by_cases hlt : k < n
    · obtain ⟨ad, x, rfl, hx, hv0, hv1⟩ := Rd.sp (h.below hbO) hlt
      have hkn : (k : Int) < (n : Int) := by omega
      have hk0 : (0 : Int) ≤ (k : Int) := by omega
      have HX := hide hx
      clear hx
      obtain ⟨V1, hV1⟩ : ∃ V1, V.alloc (.cells #[.int .i64 x.f, .int .i64 x.t] 65) = V1 := ⟨_, rfl⟩
      have hu0 : V1.cell? ⟨V.heap.size, 0, none⟩ = some (.int .i64 x.f) := by rw [← hV1]; simp
      have hu1 : V1.cell? ⟨V.heap.size, 1, none⟩ = some (.int .i64 x.t) := by rw [← hV1]; simp
      have hbV : Below w.heap.size w V1 := by rw [← hV1]; exact hbO.alloc hzO _
      have hoV : V1.ownsRow w.heap.size 65 2 (.slice B N d) N (sps P) := by rw [← hV1]; exact ho.alloc _
      have hzV := hbV.size
      have HV1 := hide hV1
      clear hV1
      go_wp2_with fail
      rw [HV1.out]
      clear HV1
      go_loopw [5, 20] (fun ov i wr => ∃ (j : Nat) (Q : List Sp) (N : Nat) (B : Option Addr) (d : Nat), j ≤ m ∧ i = .int .i64 j ∧ ov = .slice B N d ∧ Hid (N = Q.length) ∧ Hid (P ++ meetRow (b.take j) x = Q) ∧ wr.ownsRow w.heap.size 65 2 (.slice B N d) N (sps Q) ∧ Below w.heap.size w wr ∧ wr.cell? ⟨V.heap.size, 0, none⟩ = some (.int .i64 x.f) ∧ wr.cell? ⟨V.heap.size, 1, none⟩ = some (.int .i64 x.t) ∧ Hid (blk B ≠ some V.heap.size)) (fun _ i _ => m - (intOf i).toNat)
      case atStart => exact ⟨0, P, N, B, d, Nat.zero_le _, rfl, rfl, hN, by show _ = _; simp [meetRow], hoV, hbV, hu0, hu1, blk_ne ho (Nat.le_refl _)⟩
      case round =>
        obtain ⟨j, Q, N1, B1, d1, hj, rfl, rfl, hN1, hQ, ho, hb, ha0, ha1, hbk⟩ := hrel
        have hz := hb.size
        have hNle : N1 ≤ 1099511627776 := by rw [hN1.out]; exact inner_len hP.out hQ.out hlt hj HLb.out hn hm
        by_cases hltj : j < m
        · obtain ⟨bd, y, rfl, hy, hc0, hc1⟩ := Rd.sp (h2.below hb) hltj
          have hjn : (j : Int) < (m : Int) := by omega
          have hj0 : (0 : Int) ≤ (j : Int) := by omega
          have HY := hide hy
          clear hy
          have hg0 : ∀ o, (wr.alloc o).cell? ⟨V.heap.size, 0, none⟩ = some (.int .i64 x.f) := fun o => (World.cell?_alloc_lt _ _ ⟨V.heap.size, 0, none⟩ (cell_lt ha0)).trans ha0
          have hg1 : ∀ o, (wr.alloc o).cell? ⟨V.heap.size, 1, none⟩ = some (.int .i64 x.t) := fun o => (World.cell?_alloc_lt _ _ ⟨V.heap.size, 1, none⟩ (cell_lt ha1)).trans ha1
          have hlt1 := cell_lt ha0
          cases hmt : mtOk x.f x.t y.f y.t with
          | true =>
          have hst := hide (show P ++ meetRow (b.take (j + 1)) x = Q ++ [⟨mtF x.f x.t y.f y.t, mtT x.f x.t y.f y.t⟩] by rw [meetRow_step HY.out, ← List.append_assoc, hQ.out, meet1_yes hmt])
          have HM := hide hmt
          clear hmt
          go_wp2_with fail
          refine (implMeetSpans_any _ _ _ _ _).mono ?_
          rintro e w1 ⟨rfl, hb_w1⟩
          have hs_w1 := hb_w1.size
          (try simp at hs_w1)
          rw [HM.out]
          have kx0 : ∀ W3, Below wr.heap.size wr W3 → W3.cell? ⟨V.heap.size, 0, none⟩ = some (.int .i64 x.f) := fun W3 hW => (hW.cell (cell_lt ha0)).trans ha0
          have kx1 : ∀ W3, Below wr.heap.size wr W3 → W3.cell? ⟨V.heap.size, 1, none⟩ = some (.int .i64 x.t) := fun W3 hW => (hW.cell (cell_lt ha1)).trans ha1
          have KX0 := hide kx0
          have KX1 := hide kx1
          clear kx0 kx1
          go_wp2_with (at_builtin; refine wpList_app2 _ rfl (.tmp 31) (.tmp 33) 61 rfl 65 iSp (sqV ⟨0, 0⟩) 2 16 Try.underlying61 hiSp hzSp0 hzSp1 hzSp2 rfl (by omega) rfl (own_below ho (by repeat (first | exact Below.refl _ _ | assumption | refine Below.next_ ?_ ?_ (by assumption) | refine Below.drew ?_ | refine below_drewN ?_ _ | refine Below.alloc ?_ ?_ _ | refine Below.setCell ?_ ?_ _ | omega | (dsimp only; omega) | (simp <;> omega) | (simp at * <;> omega)))) rfl (Rd.two_ _ ⟨mtF x.f x.t y.f y.t, mtT x.f x.t y.f y.t⟩ _ (by simp)) (sps_one _) (by unfold maxLen; omega) (by omega) rfl (sps_snoc _ _) (B := w.heap.size) (w0 := w) (Below.next_ hb hz (by repeat (first | exact Below.refl _ _ | assumption | refine Below.next_ ?_ ?_ (by assumption) | refine Below.drew ?_ | refine below_drewN ?_ _ | refine Below.alloc ?_ ?_ _ | refine Below.setCell ?_ ?_ _ | omega | (dsimp only; omega) | (simp <;> omega) | (simp at * <;> omega)))) (by first | omega | (simp <;> omega) | (simp at * <;> omega)) (Nat.le_refl _) (by first | omega | (simp <;> omega) | (simp at * <;> omega)) ?_; intro A3 c3 w3 ho3 hb3 hg3 hat3)
          have hlen := hide (show N1 + 1 = (Q ++ [(⟨mtF x.f x.t y.f y.t, mtT x.f x.t y.f y.t⟩ : Sp)]).length by rw [List.length_append, hN1.out]; rfl)
          go_roundw
          case rel => exact ⟨j + 1, _, N1 + 1, A3, c3, by omega, by go_num, rfl, hlen.out, hst, ho3, hb3, grown_cellM hg3 hbk.out (KX0.out _ (by repeat (first | exact Below.refl _ _ | assumption | refine Below.next_ ?_ ?_ (by assumption) | refine Below.drew ?_ | refine below_drewN ?_ _ | refine Below.alloc ?_ ?_ _ | refine Below.setCell ?_ ?_ _ | omega | (dsimp only; omega) | (simp <;> omega) | (simp at * <;> omega)))), grown_cellM hg3 hbk.out (KX1.out _ (by repeat (first | exact Below.refl _ _ | assumption | refine Below.next_ ?_ ?_ (by assumption) | refine Below.drew ?_ | refine below_drewN ?_ _ | refine Below.alloc ?_ ?_ _ | refine Below.setCell ?_ ?_ _ | omega | (dsimp only; omega) | (simp <;> omega) | (simp at * <;> omega)))), (by show blk A3 ≠ some V.heap.size; rcases hat3 with h | h; rw [h]; exact hbk.out; rw [h]; simp; omega)⟩
          case measure => simp [intOf]; omega
          | false =>
          have hst := hide (show P ++ meetRow (b.take (j + 1)) x = Q by rw [meetRow_step HY.out, ← List.append_assoc, hQ.out, meet1_no hmt, List.append_nil])
          have HM := hide hmt
          clear hmt
          go_wp2_with fail
          refine (implMeetSpans_any _ _ _ _ _).mono ?_
          rintro e w1 ⟨rfl, hb_w1⟩
          have hs_w1 := hb_w1.size
          (try simp at hs_w1)
          rw [HM.out]
          go_wp2_with fail
          have kx0 : ∀ W3, Below wr.heap.size wr W3 → W3.cell? ⟨V.heap.size, 0, none⟩ = some (.int .i64 x.f) := fun W3 hW => (hW.cell (cell_lt ha0)).trans ha0
          have kx1 : ∀ W3, Below wr.heap.size wr W3 → W3.cell? ⟨V.heap.size, 1, none⟩ = some (.int .i64 x.t) := fun W3 hW => (hW.cell (cell_lt ha1)).trans ha1
          have KX0 := hide kx0
          have KX1 := hide kx1
          clear kx0 kx1
          go_roundw
          case rel => exact ⟨j + 1, Q, N1, B1, d1, by omega, by go_num, rfl, hN1, hst, own_below ho (by repeat (first | exact Below.refl _ _ | assumption | refine Below.next_ ?_ ?_ (by assumption) | refine Below.drew ?_ | refine below_drewN ?_ _ | refine Below.alloc ?_ ?_ _ | refine Below.setCell ?_ ?_ _ | omega | (dsimp only; omega) | (simp <;> omega) | (simp at * <;> omega))), Below.next_ hb hz (by repeat (first | exact Below.refl _ _ | assumption | refine Below.next_ ?_ ?_ (by assumption) | refine Below.drew ?_ | refine below_drewN ?_ _ | refine Below.alloc ?_ ?_ _ | refine Below.setCell ?_ ?_ _ | omega | (dsimp only; omega) | (simp <;> omega) | (simp at * <;> omega))), KX0.out _ (by repeat (first | exact Below.refl _ _ | assumption | refine Below.next_ ?_ ?_ (by assumption) | refine Below.drew ?_ | refine below_drewN ?_ _ | refine Below.alloc ?_ ?_ _ | refine Below.setCell ?_ ?_ _ | omega | (dsimp only; omega) | (simp <;> omega) | (simp at * <;> omega))), KX1.out _ (by repeat (first | exact Below.refl _ _ | assumption | refine Below.next_ ?_ ?_ (by assumption) | refine Below.drew ?_ | refine below_drewN ?_ _ | refine Below.alloc ?_ ?_ _ | refine Below.setCell ?_ ?_ _ | omega | (dsimp only; omega) | (simp <;> omega) | (simp at * <;> omega))), hbk⟩
          case measure => simp [intOf]; omega
        · have hjn : ¬ (j : Int) < (m : Int) := by omega
          have hst := hide (show meetL (a.take (k + 1)) b = Q by rw [meetL_step HX.out, hP.out, ← hQ.out, List.take_of_length_le (by have := HLb.out; omega)])
          go_wp2_with fail
          go_roundw
          case rel => exact ⟨k + 1, Q, N1, B1, d1, by omega, by go_num, rfl, hN1, hst, ho, hb⟩
          case measure => simp [intOf]; omega
    · have hkn : ¬ (k : Int) < (n : Int) := by omega
      have hfin := hide (show meetL a b = P by have h1 := hP.out; rwa [List.take_of_length_le (by have := HLa.out; omega)] at h1)
      have hNle : N ≤ 1099511627776 := by rw [hN.out]; exact outer_len hP.out hk HLb.out hn hm
      go_wp2_with fail
      refine (implJoinAll_h (Rd.of_own ho) hNle).mono ?_
      rintro e w5 ⟨B5, N5, d5, rfl, hN5, ho5, hb5⟩
      go_wp2_with fail
      go_ret
      exact ⟨B5, N5, d5, rfl, ⟨by unfold meetAllF; rw [hfin.out]; exact hN5.out.1, by have := hN5.out.2; omega⟩, by unfold meetAllF; rw [hfin.out]; exact own_base ho5 hzO, Below.next_ hbO hzO hb5⟩
theorem implMeetAll_h {A A2 : Option Addr} {n m c c2 : Nat} {a b : List Sp} {w : World} (h : Rd w 2 A n (sps a)) (h2 : Rd w 2 A2 m (sps b)) (hn : n ≤ 1048576) (hm : m ≤ 1048576) :
    Calls Try.prog 45 #[.slice A n c, .slice A2 m c2] w fun e w' => ∃ B N d, e = .returned (.slice B N d) ∧ Hid (N = (meetAllF a b).length ∧ N ≤ 1099511627776) ∧ w'.ownsRow w.heap.size 65 2 (.slice B N d) N (sps (meetAllF a b)) ∧ Below w.heap.size w w' := implMeetAll_any h h2 hn hm
end Go.Proofs.Ytgeffaohdoeclaa
