/- The contract of the reference's l4Put. For at most 2^20 spans. -/
import Derived.Test.YtgeffaohdoeclaaSpS
import Derived.Test.YtgeffaohdoeclaaSpJ
import Derived.Test.YtgeffaohdoeclaaSpanM
import Derived.Test.YtgeffaohdoeclaaOwnB
import Derived.Test.YtgeffaohdoeclaaStep
namespace Go.Proofs.Ytgeffaohdoeclaa
open Go.RowKit Go.WideShapes Go.ChangeShapes Go.Deep
set_option linter.unusedSimpArgs false
set_option linter.unusedVariables false
set_option maxRecDepth 100000
theorem sps_one (l : List Sp) : ∀ u ∈ sps l, u.oneCell' = true := by
  intro u hu
  simp only [sps, List.mem_flatMap, spc] at hu
  obtain ⟨x, _, hu⟩ := hu
  simp at hu
  rcases hu with rfl | rfl <;> rfl
theorem sps_len (l : List Sp) : (sps l).length = l.length * 2 := flat_len spc_len l
theorem sps_append (l m : List Sp) : sps (l ++ m) = sps l ++ sps m := by simp [sps]
theorem sps_snoc (l : List Sp) (x : Sp) : sps l ++ sps [x] = sps (l ++ [x]) := (sps_append l [x]).symm
theorem own_box {w : World} {b : Nat} {e : TypeId} {s n : Nat} {v : Value} {xs : List Value} (h : w.ownsRow (b + 1) e s v n xs) (j : Nat) (u : Value) : (w.setCell ⟨b, j, none⟩ u).ownsRow (b + 1) e s v n xs := by
  refine h.kept (row := some b) ⟨rfl, rfl, rfl, ?_, ?_⟩ ?_
  · rw [World.size_setCell]; exact Nat.le_refl _
  · intro i hi hne
    simp only [World.setCell, Array.getElem?_modify]
    rw [if_neg (by intro h; exact hne (by rw [h]))]
  · cases hv : v.ownBlock with
    | none => exact .inl rfl
    | some k =>
      refine .inr fun he => ?_
      have h1 := (h.lt k hv).1
      injection he with he
      omega
theorem Rd.two (w : World) (x : Sp) (t : TypeId) : Rd (w.alloc (.cells #[.int .i64 x.f, .int .i64 x.t] t)) 2 (some ⟨w.heap.size, 0, none⟩) 1 (sps [x]) := by
  refine ⟨rfl, fun _ => ⟨_, rfl, fun j u hu => ?_⟩⟩
  match j, hu with
  | 0, hu => injection hu with hu; subst hu; simp [Addr.add]
  | 1, hu => injection hu with hu; subst hu; simp [Addr.add]
theorem Rd.two_ (w : World) (x : Sp) (t : TypeId) {g : Nat} (hg : g = w.heap.size) : Rd (w.alloc (.cells #[.int .i64 x.f, .int .i64 x.t] t)) 2 (some ⟨g, 0, none⟩) 1 (sps [x]) := hg ▸ Rd.two w x t
theorem Rd.takeS {w : World} {s n k : Nat} {A : Option Addr} {xs : List Value} (h : Rd w s A n xs) (hk : k ≤ n) : Rd w s A k (xs.take (k * s)) := by
  have hks : k * s ≤ n * s := Nat.mul_le_mul_right s hk
  refine ⟨by rw [List.length_take, h.1]; omega, fun h0 => ?_⟩
  obtain ⟨ad, e, hc⟩ := h.2 (by omega)
  refine ⟨ad, e, fun j u hu => hc j u ?_⟩
  have hj : j < k * s := by have := get_lt hu; rw [List.length_take] at this; omega
  rwa [List.getElem?_take_of_lt hj] at hu
theorem Rd.dropS {w : World} {s n k : Nat} {ad : Addr} {xs : List Value} (h : Rd w s (some ad) n xs) (hk : k ≤ n) : Rd w s (some (ad.add (k * s))) (n - k) (xs.drop (k * s)) := by
  refine ⟨by rw [List.length_drop, h.1, Nat.sub_mul], fun h0 => ⟨_, rfl, fun j u hu => ?_⟩⟩
  obtain ⟨ad', e, hc⟩ := h.2 (by omega)
  injection e with e
  subst e
  rw [List.getElem?_drop] at hu
  rw [add_of_add]
  exact hc _ u hu
theorem sps_take (k : Nat) (l : List Sp) : sps (l.take k) = (sps l).take (k * 2) := flat_take spc_len k l
theorem sps_drop (k : Nat) (l : List Sp) : sps (l.drop k) = (sps l).drop (k * 2) := by
  have h1 : sps l = sps (l.take k) ++ sps (l.drop k) := by rw [← sps_append, List.take_append_drop]
  rw [sps_take] at h1
  have h2 : sps l = (sps l).take (k * 2) ++ (sps l).drop (k * 2) := (List.take_append_drop _ _).symm
  have h3 := h1.symm.trans h2
  exact List.append_cancel_left h3
theorem own_cap {w : World} {b : Nat} {e : TypeId} {s n c : Nat} {A : Option Addr} {xs : List Value} (h : w.ownsRow b e s (.slice A n c) n xs) : n ≤ c := by
  rcases h.2 with ⟨h1, h2⟩ | ⟨g, cap, cur, hv, _, _, hn, _⟩
  · subst h2; exact Nat.zero_le _
  · injection hv with _ _ hc; omega
theorem Rd.grown {w w' : World} {s n g : Nat} {xs : List Value} {row : Option Nat} (h : Rd w s (some ⟨g, 0, none⟩) n xs) (hg : w.grownBy w' row) (hne : row ≠ some g) : Rd w' s (some ⟨g, 0, none⟩) n xs := by
  refine ⟨h.1, fun h0 => ?_⟩
  obtain ⟨ad, e, hc⟩ := h.2 h0
  injection e with e
  subst e
  refine ⟨_, rfl, fun j u hu => ?_⟩
  have hcell := hc j u hu
  have hlt := cell_lt hcell
  rw [block_of_add] at hlt
  have hb := hg.block g hlt (fun h => hne h.symm)
  rw [← hcell]
  exact World.cell?_of_block (by rw [block_of_add]; exact hb)
theorem own_drewQ {w : World} {b : Nat} {e : TypeId} {s n : Nat} {v : Value} {xs : List Value} (h : w.ownsRow b e s v n xs) : w.drew.ownsRow b e s v n xs := h
theorem Rd.drewQ {w : World} {s n : Nat} {A : Option Addr} {xs : List Value} (h : Rd w s A n xs) : Rd w.drew s A n xs := h
theorem own_lit_ {base g size : Nat} {e : TypeId} (w : World) (hg : g = w.heap.size) (hb : base ≤ w.heap.size) : (w.alloc (.cells #[] e)).ownsRow base e size (.slice (some ⟨g, 0, none⟩) 0 0) 0 [] := by
  subst hg
  exact World.ownsRow_lit (base := base) (e := e) (size := size) w #[] 0 hb (by unfold maxLen; omega) (by simp)
theorem below_from {B : Nat} {w0 w w' : World} (h : Below B w0 w) (k : Below (B + 1) w w') : Below B w0 w' := h.trans (k.mono (by omega))
theorem apart_l {x s : Sp} (h : x.t + 1 < s.f) : apart x s = true := by simp [apart, h]
theorem apart_r {x s : Sp} (h : s.t + 1 < x.f) : apart x s = true := by simp [apart, h]
theorem apart_no {x s : Sp} (h : ¬ x.t + 1 < s.f) (h2 : ¬ s.t + 1 < x.f) : apart x s = false := by simp [apart, h, h2]
theorem putN_keep {l P : List Sp} {s S x : Sp} {k : Nat} (hx : l[k]? = some x) (hp : putN (l.take k) s = (P, S)) (ha : apart x S = true) : putN (l.take (k + 1)) s = (P ++ [x], S) := by rw [putN_step hx, hp]; simp [putStep, ha]
theorem putN_join {l P : List Sp} {s S x : Sp} {k : Nat} (hx : l[k]? = some x) (hp : putN (l.take k) s = (P, S)) (ha : apart x S = false) : putN (l.take (k + 1)) s = (P, ⟨min S.f x.f, max S.t x.t⟩) := by rw [putN_step hx, hp]; simp [putStep, ha]
theorem putN_end {l P : List Sp} {s S : Sp} {k : Nat} (hp : putN (l.take k) s = (P, S)) (hk : l.length ≤ k) : putF l s = P.take (leadF P S.f) ++ [S] ++ P.drop (leadF P S.f) := by
  rw [List.take_of_length_le hk] at hp
  unfold putF
  rw [hp]
theorem putN_oks {l P : List Sp} {s S : Sp} {k : Nat} (hl : AllOk l) (hs : okSp s = true) (hp : putN (l.take k) s = (P, S)) : AllOk P ∧ okSp S = true := by
  have h := putN_ok (l := l.take k) (s := s) (fun x hx => hl x (List.mem_of_mem_take hx)) hs
  rw [hp] at h
  exact h
theorem putN_lens {l P : List Sp} {s S : Sp} {k : Nat} (hp : putN (l.take k) s = (P, S)) : P.length ≤ k := by
  have h := putN_len (l := l.take k) (s := s)
  rw [hp, List.length_take] at h
  simp only at h
  omega
set_option maxHeartbeats 8000000 in
theorem l4Put_any {A : Option Addr} {n c : Nat} {l : List Sp} {s : Sp} {w : World} (h : Rd w 2 A n (sps l)) (hn : n ≤ 1099511627776) (hok : AllOk l) (hs : okSp s = true) :
    Calls Try.prog 97 #[.slice A n c, spV s.f s.t] w fun e w' => ∃ B N d, e = .returned (.slice B N d) ∧ N = (putF l s).length ∧ w'.ownsRow w.heap.size 65 2 (.slice B N d) N (sps (putF l s)) ∧ Below w.heap.size w w' := by
  obtain ⟨iSp, hiSp, hzSp0, hzSp1, hzSp2⟩ := info_parts Span_info
  have HL := hide h.splen
  have HOK := hide hok
  have HS := hide hs
  clear hok hs
  obtain ⟨W1, hW_W1⟩ : ∃ W1, w.alloc (.cells #[.int .i64 s.f, .int .i64 s.t] 65) = W1 := ⟨_, rfl⟩
  have hc_W10 : W1.cell? ⟨w.heap.size, 0, none⟩ = some (.int .i64 s.f) := by rw [← hW_W1]; simp
  have hc_W11 : W1.cell? ⟨w.heap.size, 1, none⟩ = some (.int .i64 s.t) := by rw [← hW_W1]; simp
  have hs_W1 : w.heap.size < W1.heap.size := by rw [← hW_W1]; simp
  have hb_W1 : Below w.heap.size w W1 := by rw [← hW_W1]; repeat (first | exact Below.refl _ _ | assumption | refine Below.next_ ?_ ?_ (by assumption) | refine Below.drew ?_ | refine below_drewN ?_ _ | refine Below.alloc ?_ ?_ _ | refine Below.setCell ?_ ?_ _ | omega | (simp <;> omega) | (simp at * <;> omega))
  have HW_W1 := hide hW_W1
  clear hW_W1
  have hfz0 : W1.frozen? ⟨w.heap.size, 0, none⟩ = false := by rw [← HW_W1.out]; simp
  have hfz1 : W1.frozen? ⟨w.heap.size, 1, none⟩ = false := by rw [← HW_W1.out]; simp
  have ho0 := World.ownsRow_lit (base := w.heap.size + 1) (e := 65) (size := 2) W1 #[] 0 (by omega) (by unfold maxLen; omega) rfl
  rw [show W1.heap.size = w.heap.size + 1 by rw [← HW_W1.out]; simp] at ho0
  go_enter Try.func97, Try.ntmps97
  go_wp2_with fail
  rw [HW_W1.out]
  clear HW_W1
  have hA0 := (World.cell?_alloc_lt W1 (.cells #[] 65) ⟨w.heap.size, 0, none⟩ (cell_lt hc_W10)).trans hc_W10
  have hA1 := (World.cell?_alloc_lt W1 (.cells #[] 65) ⟨w.heap.size, 1, none⟩ (cell_lt hc_W11)).trans hc_W11
  have hA2 := (World.frozen?_alloc_old W1 (.cells #[] 65) ⟨w.heap.size, 0, none⟩ (Nat.ne_of_lt (cell_lt hc_W10))).trans hfz0
  have hA3 := (World.frozen?_alloc_old W1 (.cells #[] 65) ⟨w.heap.size, 1, none⟩ (Nat.ne_of_lt (cell_lt hc_W11))).trans hfz1
  have hAb := hb_W1.alloc hb_W1.size (.cells #[] 65)
  go_loopw [5, 6] (fun ov i wr => ∃ (k : Nat) (P : List Sp) (S : Sp) (B : Option Addr) (d : Nat), k ≤ n ∧ i = .int .i64 k ∧ ov = .slice B P.length d ∧ Hid (putN (l.take k) s = (P, S)) ∧ wr.ownsRow (w.heap.size + 1) 65 2 (.slice B P.length d) P.length (sps P) ∧ wr.cell? ⟨w.heap.size, 0, none⟩ = some (.int .i64 S.f) ∧ wr.cell? ⟨w.heap.size, 1, none⟩ = some (.int .i64 S.t) ∧ wr.frozen? ⟨w.heap.size, 0, none⟩ = false ∧ wr.frozen? ⟨w.heap.size, 1, none⟩ = false ∧ Below w.heap.size w wr) (fun _ i _ => n - (intOf i).toNat)
  case atStart => exact ⟨0, [], s, _, _, Nat.zero_le _, rfl, rfl, rfl, ho0, hA0, hA1, hA2, hA3, hAb⟩
  case round =>
    clear ho0 hA0 hA1 hA2 hA3 hAb hc_W10 hc_W11 hfz0 hfz1 hb_W1 hs_W1
    obtain ⟨k, P, S, B, d, hk, rfl, rfl, hp, ho, hs0, hs1, f0, f1, hb⟩ := hrel
    have hwz : w.heap.size < wr.heap.size := cell_lt hs0
    have hpl := putN_lens hp.out
    have hpok := hide (putN_oks HOK.out HS.out hp.out)
    by_cases hlt : k < n
    · obtain ⟨ad, x, rfl, hx, hc0, hc1⟩ := Rd.sp (h.below hb) hlt
      have hkn : (k : Int) < (n : Int) := by omega
      have hk0 : (0 : Int) ≤ (k : Int) := by omega
      obtain ⟨hx1, hx2, hx3⟩ := okSp_iff.1 (HOK.out x (List.mem_of_getElem? hx))
      obtain ⟨hS1, hS2, hS3⟩ := okSp_iff.1 hpok.out.2
      have HX := hide hx
      clear hx
      have e1 : wrap64 (x.t + 1) = x.t + 1 := by simp only [wrap64]; omega
      have e2 : wrap64 (S.t + 1) = S.t + 1 := by simp only [wrap64]; omega
      have g0 : ∀ o, (wr.alloc o).cell? ⟨w.heap.size, 0, none⟩ = some (.int .i64 S.f) := fun o => (World.cell?_alloc_lt _ _ ⟨w.heap.size, 0, none⟩ hwz).trans hs0
      have g1 : ∀ o, (wr.alloc o).cell? ⟨w.heap.size, 1, none⟩ = some (.int .i64 S.t) := fun o => (World.cell?_alloc_lt _ _ ⟨w.heap.size, 1, none⟩ hwz).trans hs1
      have g2 : ∀ o, (wr.alloc o).frozen? ⟨w.heap.size, 0, none⟩ = false := fun o => (World.frozen?_alloc_old _ _ ⟨w.heap.size, 0, none⟩ (Nat.ne_of_lt hwz)).trans f0
      have g3 : ∀ o, (wr.alloc o).frozen? ⟨w.heap.size, 1, none⟩ = false := fun o => (World.frozen?_alloc_old _ _ ⟨w.heap.size, 1, none⟩ (Nat.ne_of_lt hwz)).trans f1
      have hne : ¬ w.heap.size = wr.heap.size := by omega
      have hne' : ¬ wr.heap.size = w.heap.size := by omega
      by_cases ha1 : x.t + 1 < S.f
      ·
        have hst := hide (putN_keep HX.out hp.out (apart_l ha1))
        clear hpok
        go_wp2_with (at_builtin; refine wpList_app2 _ rfl (.tmp 34) (.tmp 36) 61 rfl 65 iSp (sqV ⟨0, 0⟩) 2 16 Try.underlying61 hiSp hzSp0 hzSp1 hzSp2 rfl (by omega) rfl ((ho.alloc _).alloc _) rfl (Rd.two_ _ _ _ (by simp)) (sps_one _) (by unfold maxLen; omega) (by omega) rfl (sps_snoc _ _) (((Below.refl (w.heap.size + 1) wr).alloc (by first | omega | (simp <;> omega) | (simp at * <;> omega)) _).alloc (by first | omega | (simp <;> omega) | (simp at * <;> omega)) _) (by first | omega | (simp <;> omega) | (simp at * <;> omega)) (Nat.le_refl _) (by first | omega | (simp <;> omega) | (simp at * <;> omega)) ?_; intro A2 c2 w2 ho2 hb2 hg2 hat2)
        have q0 := (hb2.cell (p := ⟨w.heap.size, 0, none⟩) (Nat.lt_succ_self _)).trans hs0
        have q1 := (hb2.cell (p := ⟨w.heap.size, 1, none⟩) (Nat.lt_succ_self _)).trans hs1
        have q2 := (hb2.frozen (p := ⟨w.heap.size, 0, none⟩) (Nat.lt_succ_self _)).trans f0
        have q3 := (hb2.frozen (p := ⟨w.heap.size, 1, none⟩) (Nat.lt_succ_self _)).trans f1
        have hbn := below_from hb hb2
        go_roundw
        case rel => exact ⟨k + 1, P ++ [x], S, A2, c2, by omega, by go_num, by rw [List.length_append]; rfl, hst, by rw [List.length_append]; exact ho2, q0, q1, q2, q3, hbn⟩
        case measure => simp [intOf]; omega
      · by_cases ha2 : S.t + 1 < x.f
        ·
          have hst := hide (putN_keep HX.out hp.out (apart_r ha2))
          clear hpok
          go_wp2_with (at_builtin; refine wpList_app2 _ rfl (.tmp 34) (.tmp 36) 61 rfl 65 iSp (sqV ⟨0, 0⟩) 2 16 Try.underlying61 hiSp hzSp0 hzSp1 hzSp2 rfl (by omega) rfl ((ho.alloc _).alloc _) rfl (Rd.two_ _ _ _ (by simp)) (sps_one _) (by unfold maxLen; omega) (by omega) rfl (sps_snoc _ _) (((Below.refl (w.heap.size + 1) wr).alloc (by first | omega | (simp <;> omega) | (simp at * <;> omega)) _).alloc (by first | omega | (simp <;> omega) | (simp at * <;> omega)) _) (by first | omega | (simp <;> omega) | (simp at * <;> omega)) (Nat.le_refl _) (by first | omega | (simp <;> omega) | (simp at * <;> omega)) ?_; intro A2 c2 w2 ho2 hb2 hg2 hat2)
          have q0 := (hb2.cell (p := ⟨w.heap.size, 0, none⟩) (Nat.lt_succ_self _)).trans hs0
          have q1 := (hb2.cell (p := ⟨w.heap.size, 1, none⟩) (Nat.lt_succ_self _)).trans hs1
          have q2 := (hb2.frozen (p := ⟨w.heap.size, 0, none⟩) (Nat.lt_succ_self _)).trans f0
          have q3 := (hb2.frozen (p := ⟨w.heap.size, 1, none⟩) (Nat.lt_succ_self _)).trans f1
          have hbn := below_from hb hb2
          go_roundw
          case rel => exact ⟨k + 1, P ++ [x], S, A2, c2, by omega, by go_num, by rw [List.length_append]; rfl, hst, by rw [List.length_append]; exact ho2, q0, q1, q2, q3, hbn⟩
          case measure => simp [intOf]; omega
        · have hst := hide (putN_join HX.out hp.out (apart_no ha1 ha2))
          go_wp2_with fail
          refine (specMin_any _ _ _).mono ?_
          rintro e w' ⟨rfl, rfl⟩
          go_wp2_with fail
          refine (specMax_any _ _ _).mono ?_
          rintro e w' ⟨rfl, rfl⟩
          go_wp2_with fail
          have s1 := own_box ho 0 (.int .i64 (min S.f x.f))
          have s2 := own_box s1 1 (.int .i64 (max S.t x.t))
          have s3 := hide (s2.alloc (.cells #[.int .i64 x.f, .int .i64 x.t] 65))
          obtain ⟨t0, t1⟩ := set2_cells (x := .int .i64 (min S.f x.f)) (y := .int .i64 (max S.t x.t)) hs0 hs1
          have u0 := hide ((World.cell?_alloc_lt _ (.cells #[.int .i64 x.f, .int .i64 x.t] 65) ⟨w.heap.size, 0, none⟩ (cell_lt t0)).trans t0)
          have u1 := hide ((World.cell?_alloc_lt _ (.cells #[.int .i64 x.f, .int .i64 x.t] 65) ⟨w.heap.size, 1, none⟩ (cell_lt t1)).trans t1)
          have v0 : ∀ o, (((wr.setCell ⟨w.heap.size, 0, none⟩ (.int .i64 (min S.f x.f))).setCell ⟨w.heap.size, 1, none⟩ (.int .i64 (max S.t x.t))).alloc o).frozen? ⟨w.heap.size, 0, none⟩ = false := fun o => (World.frozen?_alloc_old _ _ ⟨w.heap.size, 0, none⟩ (by simpa using hne)).trans (by simpa using f0)
          have v1 : ∀ o, (((wr.setCell ⟨w.heap.size, 0, none⟩ (.int .i64 (min S.f x.f))).setCell ⟨w.heap.size, 1, none⟩ (.int .i64 (max S.t x.t))).alloc o).frozen? ⟨w.heap.size, 1, none⟩ = false := fun o => (World.frozen?_alloc_old _ _ ⟨w.heap.size, 1, none⟩ (by simpa using hne)).trans (by simpa using f1)
          have hbn := hide (((hb.setCell (p := ⟨w.heap.size, 0, none⟩) (Nat.le_refl _) (.int .i64 (min S.f x.f))).setCell (p := ⟨w.heap.size, 1, none⟩) (Nat.le_refl _) (.int .i64 (max S.t x.t))).alloc (by first | omega | (simp <;> omega) | (simp at * <;> omega)) (.cells #[.int .i64 x.f, .int .i64 x.t] 65))
          clear s1 s2 t0 t1
          go_roundw
          case rel => exact ⟨k + 1, P, ⟨min S.f x.f, max S.t x.t⟩, B, d, by omega, by go_num, rfl, hst, s3.out, u0.out, u1.out, v0 _, v1 _, hbn.out⟩
          case measure => simp [intOf]; omega
    · have hkn : ¬ (k : Int) < (n : Int) := by omega
      have hpe := hide (putN_end hp.out (by have := HL.out; omega))
      have hkk : k = n := by omega
      clear hp
      have hP1 := hpok.out.1
      have HP1 := hide hP1
      clear hP1 hpok
      go_wp2_with fail
      go_loopw [8] (fun i w2 => ∃ (q : Nat) (nq : Nat), q ≤ P.length ∧ i = .int .i64 q ∧ Hid (∀ (j : Nat) (y : Sp), j < q → P[j]? = some y → y.f < S.f) ∧ w2 = wr.drewN nq) (fun i _ => P.length - (intOf i).toNat)
      case atStart => exact ⟨0, 0, Nat.zero_le _, rfl, (fun j y hj => absurd hj (Nat.not_lt_zero _)), rfl⟩
      case round =>
        obtain ⟨q, nq, hq, rfl, hlead, rfl⟩ := hrel
        by_cases hqp : q < P.length
        · obtain ⟨bd, y, rfl, hy, hd0, hd1⟩ := Rd.sp (Rd.of_own ho) hqp
          have hqn : (q : Int) < (P.length : Int) := by omega
          have hq0 : (0 : Int) ≤ (q : Int) := by omega
          have HY := hide hy
          clear hy
          by_cases hyf : y.f < S.f
          · have hst := hide (leadF_more hlead.out HY.out hyf)
            go_wp2_with fail
            go_quiet (fail)
            go_wp2_with fail
            go_roundw
            case rel => exact ⟨q + 1, _, by omega, by go_num, hst.out, rfl⟩
            case measure => simp [intOf]; omega
          · have hst := hide (leadF_stop (f := S.f) (by omega) hlead.out (fun x hx => by rw [HY.out] at hx; injection hx with hx; exact hx ▸ hyf))
            have hyf' : decide (y.f < S.f) = false := by simpa using hyf
            go_wp2_with fail
            go_quiet (fail)
            go_wp2_with fail
            generalize hW2e : World.drewN (World.drewN wr _) _ = W2
            have ho2 : W2.ownsRow (w.heap.size + 1) 65 2 (.slice (some bd) P.length d) P.length (sps P) := by rw [← hW2e]; exact own_drewN (own_drewN ho _) _
            have hq0 : W2.cell? ⟨w.heap.size, 0, none⟩ = some (.int .i64 S.f) := by rw [← hW2e]; simpa using hs0
            have hq1 : W2.cell? ⟨w.heap.size, 1, none⟩ = some (.int .i64 S.t) := by rw [← hW2e]; simpa using hs1
            have hb2 : Below w.heap.size w W2 := by rw [← hW2e]; exact below_drewN (below_drewN hb _) _
            have hwz2 : w.heap.size < W2.heap.size := cell_lt hq0
            clear hW2e hs0 hs1 hb ho f0 f1 hwz
            have hcap := own_cap ho2
            have hdq : (q : Int) ≤ (d : Int) := by omega
            have hnq : (q : Int) ≤ (P.length : Int) := by omega
            have hR1 : Rd W2 2 (some bd) q (sps (P.take q)) := by rw [sps_take]; exact (Rd.of_own ho2).takeS (by omega)
            have hdn : ¬ d = q := by omega
            have hR2 : Rd W2 2 (some (bd.add (q * 2))) (P.length - q) (sps (P.drop q)) := by rw [sps_drop]; exact (Rd.of_own ho2).dropS (by omega)
            have HF := hide (show putF l s = P.take q ++ [S] ++ P.drop q by rw [hpe.out, hst.out])
            clear hpe hst
            go_region_held3 (fun w' => w'.cell? ⟨w.heap.size, 0, none⟩ = some (.int .i64 S.f) ∧ w'.cell? ⟨w.heap.size, 1, none⟩ = some (.int .i64 S.t)) (((refine keep2 (W := W2) ?_ hq0 hq1); (focus (repeat (first | exact Below.refl _ _ | assumption | refine Below.next_ ?_ ?_ (by assumption) | refine Below.drew ?_ | refine below_drewN ?_ _ | refine Below.alloc ?_ ?_ _ | refine Below.setCell ?_ ?_ _ | omega | (simp <;> omega) | (simp at * <;> omega))))))
                  (first | (refine step_app2 (B := W2.heap.size) (w0 := W2) _ rfl (.tmp 66) (.tmp 69) 61 rfl 65 iSp (sqV ⟨0, 0⟩) 2 16 Try.underlying61 hiSp hzSp0 hzSp1 hzSp2 rfl (by omega) rfl (own_drewQ ((own_lit_ (base := W2.heap.size) (e := 65) (size := 2) _ (by simp) (by first | omega | (simp <;> omega) | (simp at * <;> omega))).alloc _)) rfl (hR1.below (by repeat (first | exact Below.refl _ _ | assumption | refine Below.next_ ?_ ?_ (by assumption) | refine Below.drew ?_ | refine below_drewN ?_ _ | refine Below.alloc ?_ ?_ _ | refine Below.setCell ?_ ?_ _ | omega | (simp <;> omega) | (simp at * <;> omega)))) (sps_one _) ?_ ?_ (Nat.zero_add q) (List.nil_append _) ?_ ?_ (Nat.le_refl _) ?_ ?_; (focus (unfold maxLen; omega)); (focus omega); (focus (repeat (first | exact Below.refl _ _ | assumption | refine Below.next_ ?_ ?_ (by assumption) | refine Below.drew ?_ | refine below_drewN ?_ _ | refine Below.alloc ?_ ?_ _ | refine Below.setCell ?_ ?_ _ | omega | (simp <;> omega) | (simp at * <;> omega)))); (focus (first | omega | (simp <;> omega) | (simp at * <;> omega))); (focus (first | omega | (simp <;> omega) | (simp at * <;> omega))); intro A3 c3 w3 ho3 hb3 hg3 hat3; have z_ := hb3.size; have rl := (Rd.drewQ (Rd.two_ (g := W2.heap.size + 1) _ S _ (by simp))).grown hg3 (by simp [blk])) | (refine step_app2 (B := W2.heap.size) (w0 := W2) _ rfl (.tmp 66) (.tmp 69) 61 rfl 65 iSp (sqV ⟨0, 0⟩) 2 16 Try.underlying61 hiSp hzSp0 hzSp1 hzSp2 rfl (by omega) rfl (own_drewQ (own_lit_ (base := W2.heap.size) (e := 65) (size := 2) _ (by simp) (by first | omega | (simp <;> omega) | (simp at * <;> omega)))) rfl (hR1.below (by repeat (first | exact Below.refl _ _ | assumption | refine Below.next_ ?_ ?_ (by assumption) | refine Below.drew ?_ | refine below_drewN ?_ _ | refine Below.alloc ?_ ?_ _ | refine Below.setCell ?_ ?_ _ | omega | (simp <;> omega) | (simp at * <;> omega)))) (sps_one _) ?_ ?_ (Nat.zero_add q) (List.nil_append _) ?_ ?_ (Nat.le_refl _) ?_ ?_; (focus (unfold maxLen; omega)); (focus omega); (focus (repeat (first | exact Below.refl _ _ | assumption | refine Below.next_ ?_ ?_ (by assumption) | refine Below.drew ?_ | refine below_drewN ?_ _ | refine Below.alloc ?_ ?_ _ | refine Below.setCell ?_ ?_ _ | omega | (simp <;> omega) | (simp at * <;> omega)))); (focus (first | omega | (simp <;> omega) | (simp at * <;> omega))); (focus (first | omega | (simp <;> omega) | (simp at * <;> omega))); intro A3 c3 w3 ho3 hb3 hg3 hat3; have z_ := hb3.size; have rl := (Rd.drewQ ((Rd.two_ (g := W2.heap.size) _ S _ (by simp)).below ((Below.refl _ _).alloc (Nat.le_refl _) _))).grown hg3 (by simp [blk])) | (refine step_app2 (B := W2.heap.size) (w0 := W2) _ rfl (.tmp 66) (.tmp 69) 61 rfl 65 iSp (sqV ⟨0, 0⟩) 2 16 Try.underlying61 hiSp hzSp0 hzSp1 hzSp2 rfl (by omega) rfl (own_lit_ (base := W2.heap.size) (e := 65) (size := 2) _ (by simp) (by first | omega | (simp <;> omega) | (simp at * <;> omega))) rfl (hR1.below (by repeat (first | exact Below.refl _ _ | assumption | refine Below.next_ ?_ ?_ (by assumption) | refine Below.drew ?_ | refine below_drewN ?_ _ | refine Below.alloc ?_ ?_ _ | refine Below.setCell ?_ ?_ _ | omega | (simp <;> omega) | (simp at * <;> omega)))) (sps_one _) ?_ ?_ (Nat.zero_add q) (List.nil_append _) ?_ ?_ (Nat.le_refl _) ?_ ?_; (focus (unfold maxLen; omega)); (focus omega); (focus (repeat (first | exact Below.refl _ _ | assumption | refine Below.next_ ?_ ?_ (by assumption) | refine Below.drew ?_ | refine below_drewN ?_ _ | refine Below.alloc ?_ ?_ _ | refine Below.setCell ?_ ?_ _ | omega | (simp <;> omega) | (simp at * <;> omega)))); (focus (first | omega | (simp <;> omega) | (simp at * <;> omega))); (focus (first | omega | (simp <;> omega) | (simp at * <;> omega))); intro A3 c3 w3 ho3 hb3 hg3 hat3; have z_ := hb3.size) | (refine step_app2 (B := W2.heap.size) (w0 := W2) _ rfl (.tmp 70) (.tmp 72) 61 rfl 65 iSp (sqV ⟨0, 0⟩) 2 16 Try.underlying61 hiSp hzSp0 hzSp1 hzSp2 rfl (by omega) rfl (ho3.alloc _) rfl (Rd.two_ _ S _ (by simp)) (sps_one _) ?_ ?_ rfl (sps_append _ _).symm ?_ ?_ (Nat.le_refl _) ?_ ?_; (focus (unfold maxLen; omega)); (focus omega); (focus (repeat (first | exact Below.refl _ _ | assumption | refine Below.next_ ?_ ?_ (by assumption) | refine Below.drew ?_ | refine below_drewN ?_ _ | refine Below.alloc ?_ ?_ _ | refine Below.setCell ?_ ?_ _ | omega | (simp <;> omega) | (simp at * <;> omega)))); (focus (first | omega | (simp <;> omega) | (simp at * <;> omega))); (focus (first | omega | (simp <;> omega) | (simp at * <;> omega))); intro A4 c4 w4 ho4 hb4 hg4 hat4; have z_ := hb4.size) | (refine step_app2 (B := W2.heap.size) (w0 := W2) _ rfl (.tmp 70) (.tmp 72) 61 rfl 65 iSp (sqV ⟨0, 0⟩) 2 16 Try.underlying61 hiSp hzSp0 hzSp1 hzSp2 rfl (by omega) rfl ho3 rfl rl (sps_one _) ?_ ?_ rfl (sps_append _ _).symm ?_ ?_ (Nat.le_refl _) ?_ ?_; (focus (unfold maxLen; omega)); (focus omega); (focus (repeat (first | exact Below.refl _ _ | assumption | refine Below.next_ ?_ ?_ (by assumption) | refine Below.drew ?_ | refine below_drewN ?_ _ | refine Below.alloc ?_ ?_ _ | refine Below.setCell ?_ ?_ _ | omega | (simp <;> omega) | (simp at * <;> omega)))); (focus (first | omega | (simp <;> omega) | (simp at * <;> omega))); (focus (first | omega | (simp <;> omega) | (simp at * <;> omega))); intro A4 c4 w4 ho4 hb4 hg4 hat4; have z_ := hb4.size) | (refine step_app2 (B := W2.heap.size) (w0 := W2) _ rfl (.tmp 73) (.tmp 76) 61 rfl 65 iSp (sqV ⟨0, 0⟩) 2 16 Try.underlying61 hiSp hzSp0 hzSp1 hzSp2 rfl (by omega) rfl ho4 rfl (hR2.below hb4) (sps_one _) ?_ ?_ (show q + 1 + (P.length - q) = P.length + 1 by omega) (sps_append _ _).symm ?_ ?_ (Nat.le_refl _) ?_ ?_; (focus (unfold maxLen; omega)); (focus omega); (focus (repeat (first | exact Below.refl _ _ | assumption | refine Below.next_ ?_ ?_ (by assumption) | refine Below.drew ?_ | refine below_drewN ?_ _ | refine Below.alloc ?_ ?_ _ | refine Below.setCell ?_ ?_ _ | omega | (simp <;> omega) | (simp at * <;> omega)))); (focus (first | omega | (simp <;> omega) | (simp at * <;> omega))); (focus (first | omega | (simp <;> omega) | (simp at * <;> omega))); intro A5 c5 w5 ho5 hb5 hg5 hat5; have z_ := hb5.size))
            all_goals
              go_wp2_with fail
              go_ret
              exact ⟨_, _, _, rfl, by rw [HF.out]; simp; omega, by rw [HF.out]; exact own_base ho5 (by omega), Below.next_ hb2 hb2.size hb5⟩
        · have hst := hide (leadF_stop (l := P) (f := S.f) (k := q) (by omega) hlead.out (fun x hx => by have := get_lt hx; omega))
          have hqn : decide ((q : Int) < (P.length : Int)) = false := by simp; omega
          go_wp2_with fail
          go_quiet (fail)
          go_wp2_with fail
          by_cases hdq2 : d = q
          · have hd_ : q = d := hdq2.symm
            subst hd_
            clear hdq2
            generalize hW2e : World.drewN (World.drewN wr _) _ = W2
            have ho2 : W2.ownsRow (w.heap.size + 1) 65 2 (.slice B P.length q) P.length (sps P) := by rw [← hW2e]; exact own_drewN (own_drewN ho _) _
            have hq0 : W2.cell? ⟨w.heap.size, 0, none⟩ = some (.int .i64 S.f) := by rw [← hW2e]; simpa using hs0
            have hq1 : W2.cell? ⟨w.heap.size, 1, none⟩ = some (.int .i64 S.t) := by rw [← hW2e]; simpa using hs1
            have hb2 : Below w.heap.size w W2 := by rw [← hW2e]; exact below_drewN (below_drewN hb _) _
            have hwz2 : w.heap.size < W2.heap.size := cell_lt hq0
            clear hW2e hs0 hs1 hb ho f0 f1 hwz
            have hcap := own_cap ho2
            have hdq : (q : Int) ≤ (q : Int) := by omega
            have hnq : (q : Int) ≤ (P.length : Int) := by omega
            have hR1 : Rd W2 2 B q (sps (P.take q)) := by rw [sps_take]; exact (Rd.of_own ho2).takeS (by omega)
            have hqe : P.length - q = 0 := by omega
            have hR2 : ∀ A_, Rd W2 2 A_ 0 (sps (P.drop q)) := fun A_ => by rw [List.drop_of_length_le (by omega)]; exact Rd.nil _ _ _
            clear hqe
            have HF := hide (show putF l s = P.take q ++ [S] ++ P.drop q by rw [hpe.out, hst.out])
            clear hpe hst
            go_region_held3 (fun w' => w'.cell? ⟨w.heap.size, 0, none⟩ = some (.int .i64 S.f) ∧ w'.cell? ⟨w.heap.size, 1, none⟩ = some (.int .i64 S.t)) (((refine keep2 (W := W2) ?_ hq0 hq1); (focus (repeat (first | exact Below.refl _ _ | assumption | refine Below.next_ ?_ ?_ (by assumption) | refine Below.drew ?_ | refine below_drewN ?_ _ | refine Below.alloc ?_ ?_ _ | refine Below.setCell ?_ ?_ _ | omega | (simp <;> omega) | (simp at * <;> omega))))))
                  (first | (refine step_app2 (B := W2.heap.size) (w0 := W2) _ rfl (.tmp 66) (.tmp 69) 61 rfl 65 iSp (sqV ⟨0, 0⟩) 2 16 Try.underlying61 hiSp hzSp0 hzSp1 hzSp2 rfl (by omega) rfl (own_drewQ ((own_lit_ (base := W2.heap.size) (e := 65) (size := 2) _ (by simp) (by first | omega | (simp <;> omega) | (simp at * <;> omega))).alloc _)) rfl (hR1.below (by repeat (first | exact Below.refl _ _ | assumption | refine Below.next_ ?_ ?_ (by assumption) | refine Below.drew ?_ | refine below_drewN ?_ _ | refine Below.alloc ?_ ?_ _ | refine Below.setCell ?_ ?_ _ | omega | (simp <;> omega) | (simp at * <;> omega)))) (sps_one _) ?_ ?_ (Nat.zero_add q) (List.nil_append _) ?_ ?_ (Nat.le_refl _) ?_ ?_; (focus (unfold maxLen; omega)); (focus omega); (focus (repeat (first | exact Below.refl _ _ | assumption | refine Below.next_ ?_ ?_ (by assumption) | refine Below.drew ?_ | refine below_drewN ?_ _ | refine Below.alloc ?_ ?_ _ | refine Below.setCell ?_ ?_ _ | omega | (simp <;> omega) | (simp at * <;> omega)))); (focus (first | omega | (simp <;> omega) | (simp at * <;> omega))); (focus (first | omega | (simp <;> omega) | (simp at * <;> omega))); intro A3 c3 w3 ho3 hb3 hg3 hat3; have z_ := hb3.size; have rl := (Rd.drewQ (Rd.two_ (g := W2.heap.size + 1) _ S _ (by simp))).grown hg3 (by simp [blk])) | (refine step_app2 (B := W2.heap.size) (w0 := W2) _ rfl (.tmp 66) (.tmp 69) 61 rfl 65 iSp (sqV ⟨0, 0⟩) 2 16 Try.underlying61 hiSp hzSp0 hzSp1 hzSp2 rfl (by omega) rfl (own_drewQ (own_lit_ (base := W2.heap.size) (e := 65) (size := 2) _ (by simp) (by first | omega | (simp <;> omega) | (simp at * <;> omega)))) rfl (hR1.below (by repeat (first | exact Below.refl _ _ | assumption | refine Below.next_ ?_ ?_ (by assumption) | refine Below.drew ?_ | refine below_drewN ?_ _ | refine Below.alloc ?_ ?_ _ | refine Below.setCell ?_ ?_ _ | omega | (simp <;> omega) | (simp at * <;> omega)))) (sps_one _) ?_ ?_ (Nat.zero_add q) (List.nil_append _) ?_ ?_ (Nat.le_refl _) ?_ ?_; (focus (unfold maxLen; omega)); (focus omega); (focus (repeat (first | exact Below.refl _ _ | assumption | refine Below.next_ ?_ ?_ (by assumption) | refine Below.drew ?_ | refine below_drewN ?_ _ | refine Below.alloc ?_ ?_ _ | refine Below.setCell ?_ ?_ _ | omega | (simp <;> omega) | (simp at * <;> omega)))); (focus (first | omega | (simp <;> omega) | (simp at * <;> omega))); (focus (first | omega | (simp <;> omega) | (simp at * <;> omega))); intro A3 c3 w3 ho3 hb3 hg3 hat3; have z_ := hb3.size; have rl := (Rd.drewQ ((Rd.two_ (g := W2.heap.size) _ S _ (by simp)).below ((Below.refl _ _).alloc (Nat.le_refl _) _))).grown hg3 (by simp [blk])) | (refine step_app2 (B := W2.heap.size) (w0 := W2) _ rfl (.tmp 66) (.tmp 69) 61 rfl 65 iSp (sqV ⟨0, 0⟩) 2 16 Try.underlying61 hiSp hzSp0 hzSp1 hzSp2 rfl (by omega) rfl (own_lit_ (base := W2.heap.size) (e := 65) (size := 2) _ (by simp) (by first | omega | (simp <;> omega) | (simp at * <;> omega))) rfl (hR1.below (by repeat (first | exact Below.refl _ _ | assumption | refine Below.next_ ?_ ?_ (by assumption) | refine Below.drew ?_ | refine below_drewN ?_ _ | refine Below.alloc ?_ ?_ _ | refine Below.setCell ?_ ?_ _ | omega | (simp <;> omega) | (simp at * <;> omega)))) (sps_one _) ?_ ?_ (Nat.zero_add q) (List.nil_append _) ?_ ?_ (Nat.le_refl _) ?_ ?_; (focus (unfold maxLen; omega)); (focus omega); (focus (repeat (first | exact Below.refl _ _ | assumption | refine Below.next_ ?_ ?_ (by assumption) | refine Below.drew ?_ | refine below_drewN ?_ _ | refine Below.alloc ?_ ?_ _ | refine Below.setCell ?_ ?_ _ | omega | (simp <;> omega) | (simp at * <;> omega)))); (focus (first | omega | (simp <;> omega) | (simp at * <;> omega))); (focus (first | omega | (simp <;> omega) | (simp at * <;> omega))); intro A3 c3 w3 ho3 hb3 hg3 hat3; have z_ := hb3.size) | (refine step_app2 (B := W2.heap.size) (w0 := W2) _ rfl (.tmp 70) (.tmp 72) 61 rfl 65 iSp (sqV ⟨0, 0⟩) 2 16 Try.underlying61 hiSp hzSp0 hzSp1 hzSp2 rfl (by omega) rfl (ho3.alloc _) rfl (Rd.two_ _ S _ (by simp)) (sps_one _) ?_ ?_ rfl (sps_append _ _).symm ?_ ?_ (Nat.le_refl _) ?_ ?_; (focus (unfold maxLen; omega)); (focus omega); (focus (repeat (first | exact Below.refl _ _ | assumption | refine Below.next_ ?_ ?_ (by assumption) | refine Below.drew ?_ | refine below_drewN ?_ _ | refine Below.alloc ?_ ?_ _ | refine Below.setCell ?_ ?_ _ | omega | (simp <;> omega) | (simp at * <;> omega)))); (focus (first | omega | (simp <;> omega) | (simp at * <;> omega))); (focus (first | omega | (simp <;> omega) | (simp at * <;> omega))); intro A4 c4 w4 ho4 hb4 hg4 hat4; have z_ := hb4.size) | (refine step_app2 (B := W2.heap.size) (w0 := W2) _ rfl (.tmp 70) (.tmp 72) 61 rfl 65 iSp (sqV ⟨0, 0⟩) 2 16 Try.underlying61 hiSp hzSp0 hzSp1 hzSp2 rfl (by omega) rfl ho3 rfl rl (sps_one _) ?_ ?_ rfl (sps_append _ _).symm ?_ ?_ (Nat.le_refl _) ?_ ?_; (focus (unfold maxLen; omega)); (focus omega); (focus (repeat (first | exact Below.refl _ _ | assumption | refine Below.next_ ?_ ?_ (by assumption) | refine Below.drew ?_ | refine below_drewN ?_ _ | refine Below.alloc ?_ ?_ _ | refine Below.setCell ?_ ?_ _ | omega | (simp <;> omega) | (simp at * <;> omega)))); (focus (first | omega | (simp <;> omega) | (simp at * <;> omega))); (focus (first | omega | (simp <;> omega) | (simp at * <;> omega))); intro A4 c4 w4 ho4 hb4 hg4 hat4; have z_ := hb4.size) | (refine step_app2 (B := W2.heap.size) (w0 := W2) _ rfl (.tmp 73) (.tmp 76) 61 rfl 65 iSp (sqV ⟨0, 0⟩) 2 16 Try.underlying61 hiSp hzSp0 hzSp1 hzSp2 rfl (by omega) rfl ho4 rfl ((hR2 _).below hb4) (sps_one _) ?_ ?_ (show q + 1 + 0 = P.length + 1 by omega) (sps_append _ _).symm ?_ ?_ (Nat.le_refl _) ?_ ?_; (focus (unfold maxLen; omega)); (focus omega); (focus (repeat (first | exact Below.refl _ _ | assumption | refine Below.next_ ?_ ?_ (by assumption) | refine Below.drew ?_ | refine below_drewN ?_ _ | refine Below.alloc ?_ ?_ _ | refine Below.setCell ?_ ?_ _ | omega | (simp <;> omega) | (simp at * <;> omega)))); (focus (first | omega | (simp <;> omega) | (simp at * <;> omega))); (focus (first | omega | (simp <;> omega) | (simp at * <;> omega))); intro A5 c5 w5 ho5 hb5 hg5 hat5; have z_ := hb5.size))
            all_goals
              go_wp2_with fail
              go_ret
              exact ⟨_, _, _, rfl, by rw [HF.out]; simp; omega, by rw [HF.out]; exact own_base ho5 (by omega), Below.next_ hb2 hb2.size hb5⟩
          ·
            generalize hW2e : World.drewN (World.drewN wr _) _ = W2
            have ho2 : W2.ownsRow (w.heap.size + 1) 65 2 (.slice B P.length d) P.length (sps P) := by rw [← hW2e]; exact own_drewN (own_drewN ho _) _
            have hq0 : W2.cell? ⟨w.heap.size, 0, none⟩ = some (.int .i64 S.f) := by rw [← hW2e]; simpa using hs0
            have hq1 : W2.cell? ⟨w.heap.size, 1, none⟩ = some (.int .i64 S.t) := by rw [← hW2e]; simpa using hs1
            have hb2 : Below w.heap.size w W2 := by rw [← hW2e]; exact below_drewN (below_drewN hb _) _
            have hwz2 : w.heap.size < W2.heap.size := cell_lt hq0
            clear hW2e hs0 hs1 hb ho f0 f1 hwz
            have hcap := own_cap ho2
            have hdq : (q : Int) ≤ (d : Int) := by omega
            have hnq : (q : Int) ≤ (P.length : Int) := by omega
            have hR1 : Rd W2 2 B q (sps (P.take q)) := by rw [sps_take]; exact (Rd.of_own ho2).takeS (by omega)
            have hqe : P.length - q = 0 := by omega
            have hR2 : ∀ A_, Rd W2 2 A_ (P.length - q) (sps (P.drop q)) := fun A_ => by rw [List.drop_of_length_le (by omega), hqe]; exact Rd.nil _ _ _
            clear hqe
            have HF := hide (show putF l s = P.take q ++ [S] ++ P.drop q by rw [hpe.out, hst.out])
            clear hpe hst
            go_region_held3 (fun w' => w'.cell? ⟨w.heap.size, 0, none⟩ = some (.int .i64 S.f) ∧ w'.cell? ⟨w.heap.size, 1, none⟩ = some (.int .i64 S.t)) (((refine keep2 (W := W2) ?_ hq0 hq1); (focus (repeat (first | exact Below.refl _ _ | assumption | refine Below.next_ ?_ ?_ (by assumption) | refine Below.drew ?_ | refine below_drewN ?_ _ | refine Below.alloc ?_ ?_ _ | refine Below.setCell ?_ ?_ _ | omega | (simp <;> omega) | (simp at * <;> omega))))))
                  (first | (refine step_app2 (B := W2.heap.size) (w0 := W2) _ rfl (.tmp 66) (.tmp 69) 61 rfl 65 iSp (sqV ⟨0, 0⟩) 2 16 Try.underlying61 hiSp hzSp0 hzSp1 hzSp2 rfl (by omega) rfl (own_drewQ ((own_lit_ (base := W2.heap.size) (e := 65) (size := 2) _ (by simp) (by first | omega | (simp <;> omega) | (simp at * <;> omega))).alloc _)) rfl (hR1.below (by repeat (first | exact Below.refl _ _ | assumption | refine Below.next_ ?_ ?_ (by assumption) | refine Below.drew ?_ | refine below_drewN ?_ _ | refine Below.alloc ?_ ?_ _ | refine Below.setCell ?_ ?_ _ | omega | (simp <;> omega) | (simp at * <;> omega)))) (sps_one _) ?_ ?_ (Nat.zero_add q) (List.nil_append _) ?_ ?_ (Nat.le_refl _) ?_ ?_; (focus (unfold maxLen; omega)); (focus omega); (focus (repeat (first | exact Below.refl _ _ | assumption | refine Below.next_ ?_ ?_ (by assumption) | refine Below.drew ?_ | refine below_drewN ?_ _ | refine Below.alloc ?_ ?_ _ | refine Below.setCell ?_ ?_ _ | omega | (simp <;> omega) | (simp at * <;> omega)))); (focus (first | omega | (simp <;> omega) | (simp at * <;> omega))); (focus (first | omega | (simp <;> omega) | (simp at * <;> omega))); intro A3 c3 w3 ho3 hb3 hg3 hat3; have z_ := hb3.size; have rl := (Rd.drewQ (Rd.two_ (g := W2.heap.size + 1) _ S _ (by simp))).grown hg3 (by simp [blk])) | (refine step_app2 (B := W2.heap.size) (w0 := W2) _ rfl (.tmp 66) (.tmp 69) 61 rfl 65 iSp (sqV ⟨0, 0⟩) 2 16 Try.underlying61 hiSp hzSp0 hzSp1 hzSp2 rfl (by omega) rfl (own_drewQ (own_lit_ (base := W2.heap.size) (e := 65) (size := 2) _ (by simp) (by first | omega | (simp <;> omega) | (simp at * <;> omega)))) rfl (hR1.below (by repeat (first | exact Below.refl _ _ | assumption | refine Below.next_ ?_ ?_ (by assumption) | refine Below.drew ?_ | refine below_drewN ?_ _ | refine Below.alloc ?_ ?_ _ | refine Below.setCell ?_ ?_ _ | omega | (simp <;> omega) | (simp at * <;> omega)))) (sps_one _) ?_ ?_ (Nat.zero_add q) (List.nil_append _) ?_ ?_ (Nat.le_refl _) ?_ ?_; (focus (unfold maxLen; omega)); (focus omega); (focus (repeat (first | exact Below.refl _ _ | assumption | refine Below.next_ ?_ ?_ (by assumption) | refine Below.drew ?_ | refine below_drewN ?_ _ | refine Below.alloc ?_ ?_ _ | refine Below.setCell ?_ ?_ _ | omega | (simp <;> omega) | (simp at * <;> omega)))); (focus (first | omega | (simp <;> omega) | (simp at * <;> omega))); (focus (first | omega | (simp <;> omega) | (simp at * <;> omega))); intro A3 c3 w3 ho3 hb3 hg3 hat3; have z_ := hb3.size; have rl := (Rd.drewQ ((Rd.two_ (g := W2.heap.size) _ S _ (by simp)).below ((Below.refl _ _).alloc (Nat.le_refl _) _))).grown hg3 (by simp [blk])) | (refine step_app2 (B := W2.heap.size) (w0 := W2) _ rfl (.tmp 66) (.tmp 69) 61 rfl 65 iSp (sqV ⟨0, 0⟩) 2 16 Try.underlying61 hiSp hzSp0 hzSp1 hzSp2 rfl (by omega) rfl (own_lit_ (base := W2.heap.size) (e := 65) (size := 2) _ (by simp) (by first | omega | (simp <;> omega) | (simp at * <;> omega))) rfl (hR1.below (by repeat (first | exact Below.refl _ _ | assumption | refine Below.next_ ?_ ?_ (by assumption) | refine Below.drew ?_ | refine below_drewN ?_ _ | refine Below.alloc ?_ ?_ _ | refine Below.setCell ?_ ?_ _ | omega | (simp <;> omega) | (simp at * <;> omega)))) (sps_one _) ?_ ?_ (Nat.zero_add q) (List.nil_append _) ?_ ?_ (Nat.le_refl _) ?_ ?_; (focus (unfold maxLen; omega)); (focus omega); (focus (repeat (first | exact Below.refl _ _ | assumption | refine Below.next_ ?_ ?_ (by assumption) | refine Below.drew ?_ | refine below_drewN ?_ _ | refine Below.alloc ?_ ?_ _ | refine Below.setCell ?_ ?_ _ | omega | (simp <;> omega) | (simp at * <;> omega)))); (focus (first | omega | (simp <;> omega) | (simp at * <;> omega))); (focus (first | omega | (simp <;> omega) | (simp at * <;> omega))); intro A3 c3 w3 ho3 hb3 hg3 hat3; have z_ := hb3.size) | (refine step_app2 (B := W2.heap.size) (w0 := W2) _ rfl (.tmp 70) (.tmp 72) 61 rfl 65 iSp (sqV ⟨0, 0⟩) 2 16 Try.underlying61 hiSp hzSp0 hzSp1 hzSp2 rfl (by omega) rfl (ho3.alloc _) rfl (Rd.two_ _ S _ (by simp)) (sps_one _) ?_ ?_ rfl (sps_append _ _).symm ?_ ?_ (Nat.le_refl _) ?_ ?_; (focus (unfold maxLen; omega)); (focus omega); (focus (repeat (first | exact Below.refl _ _ | assumption | refine Below.next_ ?_ ?_ (by assumption) | refine Below.drew ?_ | refine below_drewN ?_ _ | refine Below.alloc ?_ ?_ _ | refine Below.setCell ?_ ?_ _ | omega | (simp <;> omega) | (simp at * <;> omega)))); (focus (first | omega | (simp <;> omega) | (simp at * <;> omega))); (focus (first | omega | (simp <;> omega) | (simp at * <;> omega))); intro A4 c4 w4 ho4 hb4 hg4 hat4; have z_ := hb4.size) | (refine step_app2 (B := W2.heap.size) (w0 := W2) _ rfl (.tmp 70) (.tmp 72) 61 rfl 65 iSp (sqV ⟨0, 0⟩) 2 16 Try.underlying61 hiSp hzSp0 hzSp1 hzSp2 rfl (by omega) rfl ho3 rfl rl (sps_one _) ?_ ?_ rfl (sps_append _ _).symm ?_ ?_ (Nat.le_refl _) ?_ ?_; (focus (unfold maxLen; omega)); (focus omega); (focus (repeat (first | exact Below.refl _ _ | assumption | refine Below.next_ ?_ ?_ (by assumption) | refine Below.drew ?_ | refine below_drewN ?_ _ | refine Below.alloc ?_ ?_ _ | refine Below.setCell ?_ ?_ _ | omega | (simp <;> omega) | (simp at * <;> omega)))); (focus (first | omega | (simp <;> omega) | (simp at * <;> omega))); (focus (first | omega | (simp <;> omega) | (simp at * <;> omega))); intro A4 c4 w4 ho4 hb4 hg4 hat4; have z_ := hb4.size) | (refine step_app2 (B := W2.heap.size) (w0 := W2) _ rfl (.tmp 73) (.tmp 76) 61 rfl 65 iSp (sqV ⟨0, 0⟩) 2 16 Try.underlying61 hiSp hzSp0 hzSp1 hzSp2 rfl (by omega) rfl ho4 rfl ((hR2 _).below hb4) (sps_one _) ?_ ?_ (show q + 1 + (P.length - q) = P.length + 1 by omega) (sps_append _ _).symm ?_ ?_ (Nat.le_refl _) ?_ ?_; (focus (unfold maxLen; omega)); (focus omega); (focus (repeat (first | exact Below.refl _ _ | assumption | refine Below.next_ ?_ ?_ (by assumption) | refine Below.drew ?_ | refine below_drewN ?_ _ | refine Below.alloc ?_ ?_ _ | refine Below.setCell ?_ ?_ _ | omega | (simp <;> omega) | (simp at * <;> omega)))); (focus (first | omega | (simp <;> omega) | (simp at * <;> omega))); (focus (first | omega | (simp <;> omega) | (simp at * <;> omega))); intro A5 c5 w5 ho5 hb5 hg5 hat5; have z_ := hb5.size))
            all_goals
              go_wp2_with fail
              go_ret
              exact ⟨_, _, _, rfl, by rw [HF.out]; simp; omega, by rw [HF.out]; exact own_base ho5 (by omega), Below.next_ hb2 hb2.size hb5⟩
end Go.Proofs.Ytgeffaohdoeclaa
