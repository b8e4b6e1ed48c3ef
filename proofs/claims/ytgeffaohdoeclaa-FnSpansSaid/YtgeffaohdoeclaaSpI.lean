/- The contract of the program's JoinAll. For at most 2^20 spans. -/
import Derived.Test.YtgeffaohdoeclaaSpQ
namespace Go.Proofs.Ytgeffaohdoeclaa
open Go.RowKit Go.WideShapes Go.ChangeShapes Go.Deep
set_option linter.unusedSimpArgs false
set_option linter.unusedVariables false
set_option maxRecDepth 100000
set_option maxHeartbeats 16000000 in
theorem implJoinAll_any {A : Option Addr} {n c : Nat} {l : List Sp} {w : World} (h : Rd w 2 A n (sps l)) (hn : n ≤ 1099511627776) :
    Calls Try.prog 40 #[.slice A n c] w fun e w' => ∃ B N d, e = .returned (.slice B N d) ∧ N = (joinF l).length ∧ w'.ownsRow w.heap.size 65 2 (.slice B N d) N (sps (joinF l)) ∧ Below w.heap.size w w' := by
  obtain ⟨iSp, hiSp, hzSp0, hzSp1, hzSp2⟩ := info_parts Span_info
  have HL := hide h.splen
  go_enter Try.func40, Try.ntmps40
  go_wp2_with fail
  go_loopw [3, 12] (fun ov i wr => ∃ (k : Nat) (P : List Sp) (N : Nat) (B : Option Addr) (d : Nat), k ≤ n ∧ i = .int .i64 k ∧ ov = .slice B N d ∧ Hid (N = P.length) ∧ Hid (joinF (l.take k) = P) ∧ wr.ownsRow w.heap.size 65 2 (.slice B N d) N (sps P) ∧ Below w.heap.size w wr) (fun _ i _ => n - (intOf i).toNat)
  case atStart => exact ⟨0, [], 0, none, 0, Nat.zero_le _, rfl, rfl, rfl, rfl, World.ownsRow_nil _ _ _ _, Below.refl _ _⟩
  case round =>
    obtain ⟨k0, P0, N0, B0, d0, hk0_, rfl, rfl, hN0, hp0, hoO, hbO⟩ := hrel
    obtain ⟨V, rfl⟩ : ∃ V, V = wr := ⟨wr, rfl⟩
    have hzO := hbO.size
    have hpl0 : P0.length ≤ k0 := by have h1 := joinF_len (l.take k0); rw [hp0.out, List.length_take] at h1; omega
    by_cases hlt0 : k0 < n
    · obtain ⟨ad0, x0, rfl, hx0, hq0, hq1⟩ := Rd.sp (h.below hbO) hlt0
      have hkn0 : (k0 : Int) < (n : Int) := by omega
      have hkk0 : (0 : Int) ≤ (k0 : Int) := by omega
      have HX0 := hide hx0
      clear hx0
      cases hs : isSp x0.f x0.t with
      | false =>
        have hst := hide ((joinF_not HX0.out hs).trans hp0.out)
        go_wp2_with fail
        refine (implIsSpan_any _ _ _).mono ?_
        rintro e w1 ⟨rfl, hb1⟩
        rw [hs]
        have hb2 : Below w.heap.size w w1 := Below.next_ (hbO.alloc hzO (.cells #[.int .i64 x0.f, .int .i64 x0.t] 65)) (by first | omega | (simp <;> omega) | (simp at * <;> omega)) hb1
        have ho2 := own_below (hoO.alloc (.cells #[.int .i64 x0.f, .int .i64 x0.t] 65)) hb1
        go_wp2_with fail
        go_roundw
        case rel => exact ⟨k0 + 1, P0, N0, B0, d0, by omega, by go_num, rfl, hN0, hst, ho2, hb2⟩
        case measure => simp [intOf]; omega
      | true =>
        have HS0 := hide (show okSp x0 = true from hs)
        have hjoin := hide (show joinF (l.take (k0 + 1)) = putF P0 x0 by rw [joinF_yes HX0.out HS0.out, hp0.out])
        have HOK0 := hide (show AllOk P0 by rw [← hp0.out]; exact joinF_ok _)
        have HL0 := hide hN0.out.symm
        have hN21 := hN0.out
        have hO := Rd.of_own hoO
        go_wp2_with fail
        refine (implIsSpan_any _ _ _).mono ?_
        rintro e w1 ⟨rfl, hb1⟩
        rw [hs]
        have hsz1 := hb1.size
        simp at hsz1
        have hA0 : w1.cell? ⟨V.heap.size, 0, none⟩ = some (.int .i64 x0.f) := (hb1.cell (p := ⟨V.heap.size, 0, none⟩) (by simp)).trans (by simp)
        have hA1 : w1.cell? ⟨V.heap.size, 1, none⟩ = some (.int .i64 x0.t) := (hb1.cell (p := ⟨V.heap.size, 1, none⟩) (by simp)).trans (by simp)
        have hA2 : w1.frozen? ⟨V.heap.size, 0, none⟩ = false := (hb1.frozen (p := ⟨V.heap.size, 0, none⟩) (by simp)).trans (by simp)
        have hA3 : w1.frozen? ⟨V.heap.size, 1, none⟩ = false := (hb1.frozen (p := ⟨V.heap.size, 1, none⟩) (by simp)).trans (by simp)
        have hAb : Below V.heap.size V w1 := Below.next_ ((Below.refl _ _).alloc (Nat.le_refl _) _) (by simp) hb1
        have hN20 : N0 ≤ 1099511627776 := by omega
        clear hs hq0 hq1 hN21
        go_wp2_with fail
        go_loopw [6, 21] (fun ov i wr => ∃ (k : Nat) (P : List Sp) (S : Sp) (B : Option Addr) (d : Nat), k ≤ N0 ∧ i = .int .i64 k ∧ ov = .slice B P.length d ∧ Hid (putN (P0.take k) x0 = (P, S)) ∧ wr.ownsRow (V.heap.size + 1) 65 2 (.slice B P.length d) P.length (sps P) ∧ wr.cell? ⟨V.heap.size, 0, none⟩ = some (.int .i64 S.f) ∧ wr.cell? ⟨V.heap.size, 1, none⟩ = some (.int .i64 S.t) ∧ wr.frozen? ⟨V.heap.size, 0, none⟩ = false ∧ wr.frozen? ⟨V.heap.size, 1, none⟩ = false ∧ Below V.heap.size V wr) (fun _ i _ => N0 - (intOf i).toNat)
        case atStart => exact ⟨0, [], x0, none, 0, Nat.zero_le _, rfl, rfl, rfl, World.ownsRow_nil _ _ _ _, hA0, hA1, hA2, hA3, hAb⟩
        case round =>
          clear hA0 hA1 hA2 hA3 hAb
          obtain ⟨k, P, S, B, d, hk, rfl, rfl, hp, ho, hs0, hs1, f0, f1, hb⟩ := hrel
          have hwz : V.heap.size < wr.heap.size := cell_lt hs0
          have hpl := putN_lens hp.out
          have hpok := hide (putN_oks HOK0.out HS0.out hp.out)
          by_cases hlt : k < N0
          · obtain ⟨ad, x, rfl, hx, hc0, hc1⟩ := Rd.sp (hO.below hb) hlt
            have hkn : (k : Int) < (N0 : Int) := by omega
            have hk0 : (0 : Int) ≤ (k : Int) := by omega
            obtain ⟨hx1, hx2, hx3⟩ := okSp_iff.1 (HOK0.out x (List.mem_of_getElem? hx))
            obtain ⟨hS1, hS2, hS3⟩ := okSp_iff.1 hpok.out.2
            have HX := hide hx
            clear hx
            have e1 : wrap64 (x.t + 1) = x.t + 1 := by simp only [wrap64]; omega
            have e2 : wrap64 (S.t + 1) = S.t + 1 := by simp only [wrap64]; omega
            have g0 : ∀ o, (wr.alloc o).cell? ⟨V.heap.size, 0, none⟩ = some (.int .i64 S.f) := fun o => (World.cell?_alloc_lt _ _ ⟨V.heap.size, 0, none⟩ hwz).trans hs0
            have g1 : ∀ o, (wr.alloc o).cell? ⟨V.heap.size, 1, none⟩ = some (.int .i64 S.t) := fun o => (World.cell?_alloc_lt _ _ ⟨V.heap.size, 1, none⟩ hwz).trans hs1
            have g2 : ∀ o, (wr.alloc o).frozen? ⟨V.heap.size, 0, none⟩ = false := fun o => (World.frozen?_alloc_old _ _ ⟨V.heap.size, 0, none⟩ (Nat.ne_of_lt hwz)).trans f0
            have g3 : ∀ o, (wr.alloc o).frozen? ⟨V.heap.size, 1, none⟩ = false := fun o => (World.frozen?_alloc_old _ _ ⟨V.heap.size, 1, none⟩ (Nat.ne_of_lt hwz)).trans f1
            have hne : ¬ V.heap.size = wr.heap.size := by omega
            have hne' : ¬ wr.heap.size = V.heap.size := by omega
            by_cases ha1 : x.t + 1 < S.f
            ·
              have hst := hide (putN_keep HX.out hp.out (apart_l ha1))
              clear hpok
              go_wp2_with (at_builtin; refine wpList_app2 _ rfl (.tmp 39) (.tmp 41) 61 rfl 65 iSp (sqV ⟨0, 0⟩) 2 16 Try.underlying61 hiSp hzSp0 hzSp1 hzSp2 rfl (by omega) rfl ((ho.alloc _).alloc _) rfl (Rd.two_ _ _ _ (by simp)) (sps_one _) (by unfold maxLen; omega) (by omega) rfl (sps_snoc _ _) (((Below.refl (V.heap.size + 1) wr).alloc (by first | omega | (simp <;> omega) | (simp at * <;> omega)) _).alloc (by first | omega | (simp <;> omega) | (simp at * <;> omega)) _) (by first | omega | (simp <;> omega) | (simp at * <;> omega)) (Nat.le_refl _) (by first | omega | (simp <;> omega) | (simp at * <;> omega)) ?_; intro A2 c2 w2 ho2 hb2 hg2 hat2)
              have q0 := (hb2.cell (p := ⟨V.heap.size, 0, none⟩) (Nat.lt_succ_self _)).trans hs0
              have q1 := (hb2.cell (p := ⟨V.heap.size, 1, none⟩) (Nat.lt_succ_self _)).trans hs1
              have q2 := (hb2.frozen (p := ⟨V.heap.size, 0, none⟩) (Nat.lt_succ_self _)).trans f0
              have q3 := (hb2.frozen (p := ⟨V.heap.size, 1, none⟩) (Nat.lt_succ_self _)).trans f1
              have hbn := below_from hb hb2
              go_roundw
              case rel => exact ⟨k + 1, P ++ [x], S, A2, c2, by omega, by go_num, by rw [List.length_append]; rfl, hst, by rw [List.length_append]; exact ho2, q0, q1, q2, q3, hbn⟩
              case measure => simp [intOf]; omega
            · by_cases ha2 : S.t + 1 < x.f
              ·
                have hst := hide (putN_keep HX.out hp.out (apart_r ha2))
                clear hpok
                go_wp2_with (at_builtin; refine wpList_app2 _ rfl (.tmp 39) (.tmp 41) 61 rfl 65 iSp (sqV ⟨0, 0⟩) 2 16 Try.underlying61 hiSp hzSp0 hzSp1 hzSp2 rfl (by omega) rfl ((ho.alloc _).alloc _) rfl (Rd.two_ _ _ _ (by simp)) (sps_one _) (by unfold maxLen; omega) (by omega) rfl (sps_snoc _ _) (((Below.refl (V.heap.size + 1) wr).alloc (by first | omega | (simp <;> omega) | (simp at * <;> omega)) _).alloc (by first | omega | (simp <;> omega) | (simp at * <;> omega)) _) (by first | omega | (simp <;> omega) | (simp at * <;> omega)) (Nat.le_refl _) (by first | omega | (simp <;> omega) | (simp at * <;> omega)) ?_; intro A2 c2 w2 ho2 hb2 hg2 hat2)
                have q0 := (hb2.cell (p := ⟨V.heap.size, 0, none⟩) (Nat.lt_succ_self _)).trans hs0
                have q1 := (hb2.cell (p := ⟨V.heap.size, 1, none⟩) (Nat.lt_succ_self _)).trans hs1
                have q2 := (hb2.frozen (p := ⟨V.heap.size, 0, none⟩) (Nat.lt_succ_self _)).trans f0
                have q3 := (hb2.frozen (p := ⟨V.heap.size, 1, none⟩) (Nat.lt_succ_self _)).trans f1
                have hbn := below_from hb hb2
                go_roundw
                case rel => exact ⟨k + 1, P ++ [x], S, A2, c2, by omega, by go_num, by rw [List.length_append]; rfl, hst, by rw [List.length_append]; exact ho2, q0, q1, q2, q3, hbn⟩
                case measure => simp [intOf]; omega
              · have hst := hide (putN_join HX.out hp.out (apart_no ha1 ha2))
                rcases Int.lt_or_le x.f S.f with k1 | k1
                · rcases Int.lt_or_le S.t x.t with k2 | k2
                  ·
                    have EF := hide (show x.f = min S.f x.f by omega)
                    have ET := hide (show x.t = max S.t x.t by omega)
                    go_wp2_with fail
                    have s1 := own_box ho 0 (.int .i64 (x.f))
                    have s2 := own_box s1 1 (.int .i64 (x.t))
                    have s3 := hide (s2.alloc (.cells #[.int .i64 x.f, .int .i64 x.t] 65))
                    obtain ⟨t0, t1⟩ := set2_cells (x := .int .i64 (x.f)) (y := .int .i64 (x.t)) hs0 hs1
                    have u0 := hide ((World.cell?_alloc_lt _ (.cells #[.int .i64 x.f, .int .i64 x.t] 65) ⟨V.heap.size, 0, none⟩ (cell_lt t0)).trans t0)
                    have u1 := hide ((World.cell?_alloc_lt _ (.cells #[.int .i64 x.f, .int .i64 x.t] 65) ⟨V.heap.size, 1, none⟩ (cell_lt t1)).trans t1)
                    have v0 : ∀ o, (((wr.setCell ⟨V.heap.size, 0, none⟩ (.int .i64 (x.f))).setCell ⟨V.heap.size, 1, none⟩ (.int .i64 (x.t))).alloc o).frozen? ⟨V.heap.size, 0, none⟩ = false := fun o => (World.frozen?_alloc_old _ _ ⟨V.heap.size, 0, none⟩ (by simpa using hne)).trans (by simpa using f0)
                    have v1 : ∀ o, (((wr.setCell ⟨V.heap.size, 0, none⟩ (.int .i64 (x.f))).setCell ⟨V.heap.size, 1, none⟩ (.int .i64 (x.t))).alloc o).frozen? ⟨V.heap.size, 1, none⟩ = false := fun o => (World.frozen?_alloc_old _ _ ⟨V.heap.size, 1, none⟩ (by simpa using hne)).trans (by simpa using f1)
                    have hbn := hide (((hb.setCell (p := ⟨V.heap.size, 0, none⟩) (Nat.le_refl _) (.int .i64 (x.f))).setCell (p := ⟨V.heap.size, 1, none⟩) (Nat.le_refl _) (.int .i64 (x.t))).alloc (by first | omega | (simp <;> omega) | (simp at * <;> omega)) (.cells #[.int .i64 x.f, .int .i64 x.t] 65))
                    clear s1 s2 t0 t1
                    go_roundw
                    case rel => exact ⟨k + 1, P, ⟨x.f, x.t⟩, B, d, by omega, by go_num, rfl, (by rw [EF.out, ET.out]; exact hst.out), s3.out, u0.out, u1.out, v0 _, v1 _, hbn.out⟩
                    case measure => simp [intOf]; omega
                  ·
                    have EF := hide (show x.f = min S.f x.f by omega)
                    have ET := hide (show S.t = max S.t x.t by omega)
                    go_wp2_with fail
                    have s1 := own_box ho 0 (.int .i64 (x.f))
                    have s2 := own_box s1 1 (.int .i64 (S.t))
                    have s3 := hide (s2.alloc (.cells #[.int .i64 x.f, .int .i64 x.t] 65))
                    obtain ⟨t0, t1⟩ := set2_cells (x := .int .i64 (x.f)) (y := .int .i64 (S.t)) hs0 hs1
                    have u0 := hide ((World.cell?_alloc_lt _ (.cells #[.int .i64 x.f, .int .i64 x.t] 65) ⟨V.heap.size, 0, none⟩ (cell_lt t0)).trans t0)
                    have u1 := hide ((World.cell?_alloc_lt _ (.cells #[.int .i64 x.f, .int .i64 x.t] 65) ⟨V.heap.size, 1, none⟩ (cell_lt t1)).trans t1)
                    have v0 : ∀ o, (((wr.setCell ⟨V.heap.size, 0, none⟩ (.int .i64 (x.f))).setCell ⟨V.heap.size, 1, none⟩ (.int .i64 (S.t))).alloc o).frozen? ⟨V.heap.size, 0, none⟩ = false := fun o => (World.frozen?_alloc_old _ _ ⟨V.heap.size, 0, none⟩ (by simpa using hne)).trans (by simpa using f0)
                    have v1 : ∀ o, (((wr.setCell ⟨V.heap.size, 0, none⟩ (.int .i64 (x.f))).setCell ⟨V.heap.size, 1, none⟩ (.int .i64 (S.t))).alloc o).frozen? ⟨V.heap.size, 1, none⟩ = false := fun o => (World.frozen?_alloc_old _ _ ⟨V.heap.size, 1, none⟩ (by simpa using hne)).trans (by simpa using f1)
                    have hbn := hide (((hb.setCell (p := ⟨V.heap.size, 0, none⟩) (Nat.le_refl _) (.int .i64 (x.f))).setCell (p := ⟨V.heap.size, 1, none⟩) (Nat.le_refl _) (.int .i64 (S.t))).alloc (by first | omega | (simp <;> omega) | (simp at * <;> omega)) (.cells #[.int .i64 x.f, .int .i64 x.t] 65))
                    clear s1 s2 t0 t1
                    go_roundw
                    case rel => exact ⟨k + 1, P, ⟨x.f, S.t⟩, B, d, by omega, by go_num, rfl, (by rw [EF.out, ET.out]; exact hst.out), s3.out, u0.out, u1.out, v0 _, v1 _, hbn.out⟩
                    case measure => simp [intOf]; omega
                · rcases Int.lt_or_le S.t x.t with k2 | k2
                  ·
                    have EF := hide (show S.f = min S.f x.f by omega)
                    have ET := hide (show x.t = max S.t x.t by omega)
                    go_wp2_with fail
                    have s1 := own_box ho 0 (.int .i64 (S.f))
                    have s2 := own_box s1 1 (.int .i64 (x.t))
                    have s3 := hide (s2.alloc (.cells #[.int .i64 x.f, .int .i64 x.t] 65))
                    obtain ⟨t0, t1⟩ := set2_cells (x := .int .i64 (S.f)) (y := .int .i64 (x.t)) hs0 hs1
                    have u0 := hide ((World.cell?_alloc_lt _ (.cells #[.int .i64 x.f, .int .i64 x.t] 65) ⟨V.heap.size, 0, none⟩ (cell_lt t0)).trans t0)
                    have u1 := hide ((World.cell?_alloc_lt _ (.cells #[.int .i64 x.f, .int .i64 x.t] 65) ⟨V.heap.size, 1, none⟩ (cell_lt t1)).trans t1)
                    have v0 : ∀ o, (((wr.setCell ⟨V.heap.size, 0, none⟩ (.int .i64 (S.f))).setCell ⟨V.heap.size, 1, none⟩ (.int .i64 (x.t))).alloc o).frozen? ⟨V.heap.size, 0, none⟩ = false := fun o => (World.frozen?_alloc_old _ _ ⟨V.heap.size, 0, none⟩ (by simpa using hne)).trans (by simpa using f0)
                    have v1 : ∀ o, (((wr.setCell ⟨V.heap.size, 0, none⟩ (.int .i64 (S.f))).setCell ⟨V.heap.size, 1, none⟩ (.int .i64 (x.t))).alloc o).frozen? ⟨V.heap.size, 1, none⟩ = false := fun o => (World.frozen?_alloc_old _ _ ⟨V.heap.size, 1, none⟩ (by simpa using hne)).trans (by simpa using f1)
                    have hbn := hide (((hb.setCell (p := ⟨V.heap.size, 0, none⟩) (Nat.le_refl _) (.int .i64 (S.f))).setCell (p := ⟨V.heap.size, 1, none⟩) (Nat.le_refl _) (.int .i64 (x.t))).alloc (by first | omega | (simp <;> omega) | (simp at * <;> omega)) (.cells #[.int .i64 x.f, .int .i64 x.t] 65))
                    clear s1 s2 t0 t1
                    go_roundw
                    case rel => exact ⟨k + 1, P, ⟨S.f, x.t⟩, B, d, by omega, by go_num, rfl, (by rw [EF.out, ET.out]; exact hst.out), s3.out, u0.out, u1.out, v0 _, v1 _, hbn.out⟩
                    case measure => simp [intOf]; omega
                  ·
                    have EF := hide (show S.f = min S.f x.f by omega)
                    have ET := hide (show S.t = max S.t x.t by omega)
                    go_wp2_with fail
                    have s1 := own_box ho 0 (.int .i64 (S.f))
                    have s2 := own_box s1 1 (.int .i64 (S.t))
                    have s3 := hide (s2.alloc (.cells #[.int .i64 x.f, .int .i64 x.t] 65))
                    obtain ⟨t0, t1⟩ := set2_cells (x := .int .i64 (S.f)) (y := .int .i64 (S.t)) hs0 hs1
                    have u0 := hide ((World.cell?_alloc_lt _ (.cells #[.int .i64 x.f, .int .i64 x.t] 65) ⟨V.heap.size, 0, none⟩ (cell_lt t0)).trans t0)
                    have u1 := hide ((World.cell?_alloc_lt _ (.cells #[.int .i64 x.f, .int .i64 x.t] 65) ⟨V.heap.size, 1, none⟩ (cell_lt t1)).trans t1)
                    have v0 : ∀ o, (((wr.setCell ⟨V.heap.size, 0, none⟩ (.int .i64 (S.f))).setCell ⟨V.heap.size, 1, none⟩ (.int .i64 (S.t))).alloc o).frozen? ⟨V.heap.size, 0, none⟩ = false := fun o => (World.frozen?_alloc_old _ _ ⟨V.heap.size, 0, none⟩ (by simpa using hne)).trans (by simpa using f0)
                    have v1 : ∀ o, (((wr.setCell ⟨V.heap.size, 0, none⟩ (.int .i64 (S.f))).setCell ⟨V.heap.size, 1, none⟩ (.int .i64 (S.t))).alloc o).frozen? ⟨V.heap.size, 1, none⟩ = false := fun o => (World.frozen?_alloc_old _ _ ⟨V.heap.size, 1, none⟩ (by simpa using hne)).trans (by simpa using f1)
                    have hbn := hide (((hb.setCell (p := ⟨V.heap.size, 0, none⟩) (Nat.le_refl _) (.int .i64 (S.f))).setCell (p := ⟨V.heap.size, 1, none⟩) (Nat.le_refl _) (.int .i64 (S.t))).alloc (by first | omega | (simp <;> omega) | (simp at * <;> omega)) (.cells #[.int .i64 x.f, .int .i64 x.t] 65))
                    clear s1 s2 t0 t1
                    go_roundw
                    case rel => exact ⟨k + 1, P, ⟨S.f, S.t⟩, B, d, by omega, by go_num, rfl, (by rw [EF.out, ET.out]; exact hst.out), s3.out, u0.out, u1.out, v0 _, v1 _, hbn.out⟩
                    case measure => simp [intOf]; omega
          · have hkn : ¬ (k : Int) < (N0 : Int) := by omega
            have hpe := hide (putN_end hp.out (by have := HL0.out; omega))
            have hkk : k = N0 := by omega
            clear hp
            have hP1 := hpok.out.1
            have HP1 := hide hP1
            clear hP1 hpok
            go_wp2_with fail
            go_loopw [9] (fun i w2 => ∃ (q : Nat) (nq : Nat), q ≤ P.length ∧ i = .int .i64 q ∧ Hid (∀ (j : Nat) (y : Sp), j < q → P[j]? = some y → y.f < S.f) ∧ w2 = wr.drewN nq) (fun i _ => P.length - (intOf i).toNat)
            case atStart => exact ⟨0, 0, Nat.zero_le _, rfl, (fun j y hj => absurd hj (Nat.not_lt_zero _)), rfl⟩
            case round =>
              obtain ⟨q, nq, hq, rfl, hlead, rfl⟩ := hrel
              by_cases hqp : q < P.length
              · obtain ⟨bd, y, rfl, hy, hd0, hd1⟩ := Rd.sp (Rd.of_own ho) hqp
                have hqn : (q : Int) < (P.length : Int) := by omega
                have hq0 : (0 : Int) ≤ (q : Int) := by omega
                have HY := hide hy
                clear hy
                by_cases hyf : y.f < S.f
                · have hst := hide (leadF_more hlead.out HY.out hyf)
                  go_wp2_with fail
                  go_quiet (fail)
                  go_wp2_with fail
                  go_roundw
                  case rel => exact ⟨q + 1, _, by omega, by go_num, hst.out, rfl⟩
                  case measure => simp [intOf]; omega
                · have hst := hide (leadF_stop (f := S.f) (by omega) hlead.out (fun x hx => by rw [HY.out] at hx; injection hx with hx; exact hx ▸ hyf))
                  have hyf' : decide (y.f < S.f) = false := by simpa using hyf
                  go_wp2_with fail
                  go_quiet (fail)
                  go_wp2_with fail
                  generalize hW2e : World.drewN (World.drewN wr _) _ = W2
                  have ho2 : W2.ownsRow (V.heap.size + 1) 65 2 (.slice (some bd) P.length d) P.length (sps P) := by rw [← hW2e]; exact own_drewN (own_drewN ho _) _
                  have hq0 : W2.cell? ⟨V.heap.size, 0, none⟩ = some (.int .i64 S.f) := by rw [← hW2e]; simpa using hs0
                  have hq1 : W2.cell? ⟨V.heap.size, 1, none⟩ = some (.int .i64 S.t) := by rw [← hW2e]; simpa using hs1
                  have hb2 : Below V.heap.size V W2 := by rw [← hW2e]; exact below_drewN (below_drewN hb _) _
                  have hwz2 : V.heap.size < W2.heap.size := cell_lt hq0
                  clear hW2e hs0 hs1 hb ho f0 f1 hwz
                  have hcap := own_cap ho2
                  have hdq : (q : Int) ≤ (d : Int) := by omega
                  have hnq : (q : Int) ≤ (P.length : Int) := by omega
                  have hR1 : Rd W2 2 (some bd) q (sps (P.take q)) := by rw [sps_take]; exact (Rd.of_own ho2).takeS (by omega)
                  have hdn : ¬ d = q := by omega
                  have hR2 : Rd W2 2 (some (bd.add (q * 2))) (P.length - q) (sps (P.drop q)) := by rw [sps_drop]; exact (Rd.of_own ho2).dropS (by omega)
                  have HF := hide (show putF P0 x0 = P.take q ++ [S] ++ P.drop q by rw [hpe.out, hst.out])
                  clear hpe hst
                  go_region_held3 (fun w' => w'.cell? ⟨V.heap.size, 0, none⟩ = some (.int .i64 S.f) ∧ w'.cell? ⟨V.heap.size, 1, none⟩ = some (.int .i64 S.t)) (((refine keep2 (W := W2) ?_ hq0 hq1); (focus (repeat (first | exact Below.refl _ _ | assumption | refine Below.next_ ?_ ?_ (by assumption) | refine Below.drew ?_ | refine below_drewN ?_ _ | refine Below.alloc ?_ ?_ _ | refine Below.setCell ?_ ?_ _ | omega | (simp <;> omega) | (simp at * <;> omega))))))
                        (first | (refine step_app2 (B := W2.heap.size) (w0 := W2) _ rfl (.tmp 71) (.tmp 74) 61 rfl 65 iSp (sqV ⟨0, 0⟩) 2 16 Try.underlying61 hiSp hzSp0 hzSp1 hzSp2 rfl (by omega) rfl (own_drewQ ((own_lit_ (base := W2.heap.size) (e := 65) (size := 2) _ (by simp) (by first | omega | (simp <;> omega) | (simp at * <;> omega))).alloc _)) rfl (hR1.below (by repeat (first | exact Below.refl _ _ | assumption | refine Below.next_ ?_ ?_ (by assumption) | refine Below.drew ?_ | refine below_drewN ?_ _ | refine Below.alloc ?_ ?_ _ | refine Below.setCell ?_ ?_ _ | omega | (simp <;> omega) | (simp at * <;> omega)))) (sps_one _) ?_ ?_ (Nat.zero_add q) (List.nil_append _) ?_ ?_ (Nat.le_refl _) ?_ ?_; (focus (unfold maxLen; omega)); (focus omega); (focus (repeat (first | exact Below.refl _ _ | assumption | refine Below.next_ ?_ ?_ (by assumption) | refine Below.drew ?_ | refine below_drewN ?_ _ | refine Below.alloc ?_ ?_ _ | refine Below.setCell ?_ ?_ _ | omega | (simp <;> omega) | (simp at * <;> omega)))); (focus (first | omega | (simp <;> omega) | (simp at * <;> omega))); (focus (first | omega | (simp <;> omega) | (simp at * <;> omega))); intro A3 c3 w3 ho3 hb3 hg3 hat3; have z_ := hb3.size; have rl := (Rd.drewQ (Rd.two_ (g := W2.heap.size + 1) _ S _ (by simp))).grown hg3 (by simp [blk])) | (refine step_app2 (B := W2.heap.size) (w0 := W2) _ rfl (.tmp 71) (.tmp 74) 61 rfl 65 iSp (sqV ⟨0, 0⟩) 2 16 Try.underlying61 hiSp hzSp0 hzSp1 hzSp2 rfl (by omega) rfl (own_drewQ (own_lit_ (base := W2.heap.size) (e := 65) (size := 2) _ (by simp) (by first | omega | (simp <;> omega) | (simp at * <;> omega)))) rfl (hR1.below (by repeat (first | exact Below.refl _ _ | assumption | refine Below.next_ ?_ ?_ (by assumption) | refine Below.drew ?_ | refine below_drewN ?_ _ | refine Below.alloc ?_ ?_ _ | refine Below.setCell ?_ ?_ _ | omega | (simp <;> omega) | (simp at * <;> omega)))) (sps_one _) ?_ ?_ (Nat.zero_add q) (List.nil_append _) ?_ ?_ (Nat.le_refl _) ?_ ?_; (focus (unfold maxLen; omega)); (focus omega); (focus (repeat (first | exact Below.refl _ _ | assumption | refine Below.next_ ?_ ?_ (by assumption) | refine Below.drew ?_ | refine below_drewN ?_ _ | refine Below.alloc ?_ ?_ _ | refine Below.setCell ?_ ?_ _ | omega | (simp <;> omega) | (simp at * <;> omega)))); (focus (first | omega | (simp <;> omega) | (simp at * <;> omega))); (focus (first | omega | (simp <;> omega) | (simp at * <;> omega))); intro A3 c3 w3 ho3 hb3 hg3 hat3; have z_ := hb3.size; have rl := (Rd.drewQ ((Rd.two_ (g := W2.heap.size) _ S _ (by simp)).below ((Below.refl _ _).alloc (Nat.le_refl _) _))).grown hg3 (by simp [blk])) | (refine step_app2 (B := W2.heap.size) (w0 := W2) _ rfl (.tmp 71) (.tmp 74) 61 rfl 65 iSp (sqV ⟨0, 0⟩) 2 16 Try.underlying61 hiSp hzSp0 hzSp1 hzSp2 rfl (by omega) rfl (own_lit_ (base := W2.heap.size) (e := 65) (size := 2) _ (by simp) (by first | omega | (simp <;> omega) | (simp at * <;> omega))) rfl (hR1.below (by repeat (first | exact Below.refl _ _ | assumption | refine Below.next_ ?_ ?_ (by assumption) | refine Below.drew ?_ | refine below_drewN ?_ _ | refine Below.alloc ?_ ?_ _ | refine Below.setCell ?_ ?_ _ | omega | (simp <;> omega) | (simp at * <;> omega)))) (sps_one _) ?_ ?_ (Nat.zero_add q) (List.nil_append _) ?_ ?_ (Nat.le_refl _) ?_ ?_; (focus (unfold maxLen; omega)); (focus omega); (focus (repeat (first | exact Below.refl _ _ | assumption | refine Below.next_ ?_ ?_ (by assumption) | refine Below.drew ?_ | refine below_drewN ?_ _ | refine Below.alloc ?_ ?_ _ | refine Below.setCell ?_ ?_ _ | omega | (simp <;> omega) | (simp at * <;> omega)))); (focus (first | omega | (simp <;> omega) | (simp at * <;> omega))); (focus (first | omega | (simp <;> omega) | (simp at * <;> omega))); intro A3 c3 w3 ho3 hb3 hg3 hat3; have z_ := hb3.size) | (refine step_app2 (B := W2.heap.size) (w0 := W2) _ rfl (.tmp 75) (.tmp 77) 61 rfl 65 iSp (sqV ⟨0, 0⟩) 2 16 Try.underlying61 hiSp hzSp0 hzSp1 hzSp2 rfl (by omega) rfl (ho3.alloc _) rfl (Rd.two_ _ S _ (by simp)) (sps_one _) ?_ ?_ rfl (sps_append _ _).symm ?_ ?_ (Nat.le_refl _) ?_ ?_; (focus (unfold maxLen; omega)); (focus omega); (focus (repeat (first | exact Below.refl _ _ | assumption | refine Below.next_ ?_ ?_ (by assumption) | refine Below.drew ?_ | refine below_drewN ?_ _ | refine Below.alloc ?_ ?_ _ | refine Below.setCell ?_ ?_ _ | omega | (simp <;> omega) | (simp at * <;> omega)))); (focus (first | omega | (simp <;> omega) | (simp at * <;> omega))); (focus (first | omega | (simp <;> omega) | (simp at * <;> omega))); intro A4 c4 w4 ho4 hb4 hg4 hat4; have z_ := hb4.size) | (refine step_app2 (B := W2.heap.size) (w0 := W2) _ rfl (.tmp 75) (.tmp 77) 61 rfl 65 iSp (sqV ⟨0, 0⟩) 2 16 Try.underlying61 hiSp hzSp0 hzSp1 hzSp2 rfl (by omega) rfl ho3 rfl rl (sps_one _) ?_ ?_ rfl (sps_append _ _).symm ?_ ?_ (Nat.le_refl _) ?_ ?_; (focus (unfold maxLen; omega)); (focus omega); (focus (repeat (first | exact Below.refl _ _ | assumption | refine Below.next_ ?_ ?_ (by assumption) | refine Below.drew ?_ | refine below_drewN ?_ _ | refine Below.alloc ?_ ?_ _ | refine Below.setCell ?_ ?_ _ | omega | (simp <;> omega) | (simp at * <;> omega)))); (focus (first | omega | (simp <;> omega) | (simp at * <;> omega))); (focus (first | omega | (simp <;> omega) | (simp at * <;> omega))); intro A4 c4 w4 ho4 hb4 hg4 hat4; have z_ := hb4.size) | (refine step_app2 (B := W2.heap.size) (w0 := W2) _ rfl (.tmp 78) (.tmp 81) 61 rfl 65 iSp (sqV ⟨0, 0⟩) 2 16 Try.underlying61 hiSp hzSp0 hzSp1 hzSp2 rfl (by omega) rfl ho4 rfl (hR2.below hb4) (sps_one _) ?_ ?_ (show q + 1 + (P.length - q) = P.length + 1 by omega) (sps_append _ _).symm ?_ ?_ (Nat.le_refl _) ?_ ?_; (focus (unfold maxLen; omega)); (focus omega); (focus (repeat (first | exact Below.refl _ _ | assumption | refine Below.next_ ?_ ?_ (by assumption) | refine Below.drew ?_ | refine below_drewN ?_ _ | refine Below.alloc ?_ ?_ _ | refine Below.setCell ?_ ?_ _ | omega | (simp <;> omega) | (simp at * <;> omega)))); (focus (first | omega | (simp <;> omega) | (simp at * <;> omega))); (focus (first | omega | (simp <;> omega) | (simp at * <;> omega))); intro A5 c5 w5 ho5 hb5 hg5 hat5; have z_ := hb5.size))
                  all_goals
                    go_wp2_with fail
                    have hNl : P.length + 1 = (putF P0 x0).length := by rw [HF.out]; simp; omega
                    have HNl := hide hNl
                    clear hNl
                    have ho6 := own_base ho5 (show w.heap.size ≤ W2.heap.size by omega)
                    rw [← HF.out] at ho6
                    have hb6 : Below w.heap.size w _ := Below.next_ (Below.next_ hbO (by omega) hb2) (by omega) hb5
                    go_roundw
                    case rel => exact ⟨k0 + 1, putF P0 x0, P.length + 1, A5, c5, by omega, by go_num, rfl, HNl, hjoin, ho6, hb6⟩
                    case measure => simp [intOf]; omega
              · have hst := hide (leadF_stop (l := P) (f := S.f) (k := q) (by omega) hlead.out (fun x hx => by have := get_lt hx; omega))
                have hqn : decide ((q : Int) < (P.length : Int)) = false := by simp; omega
                go_wp2_with fail
                go_quiet (fail)
                go_wp2_with fail
                by_cases hdq2 : d = q
                · have hd_ : q = d := hdq2.symm
                  subst hd_
                  clear hdq2
                  generalize hW2e : World.drewN (World.drewN wr _) _ = W2
                  have ho2 : W2.ownsRow (V.heap.size + 1) 65 2 (.slice B P.length q) P.length (sps P) := by rw [← hW2e]; exact own_drewN (own_drewN ho _) _
                  have hq0 : W2.cell? ⟨V.heap.size, 0, none⟩ = some (.int .i64 S.f) := by rw [← hW2e]; simpa using hs0
                  have hq1 : W2.cell? ⟨V.heap.size, 1, none⟩ = some (.int .i64 S.t) := by rw [← hW2e]; simpa using hs1
                  have hb2 : Below V.heap.size V W2 := by rw [← hW2e]; exact below_drewN (below_drewN hb _) _
                  have hwz2 : V.heap.size < W2.heap.size := cell_lt hq0
                  clear hW2e hs0 hs1 hb ho f0 f1 hwz
                  have hcap := own_cap ho2
                  have hdq : (q : Int) ≤ (q : Int) := by omega
                  have hnq : (q : Int) ≤ (P.length : Int) := by omega
                  have hR1 : Rd W2 2 B q (sps (P.take q)) := by rw [sps_take]; exact (Rd.of_own ho2).takeS (by omega)
                  have hqe : P.length - q = 0 := by omega
                  have hR2 : ∀ A_, Rd W2 2 A_ 0 (sps (P.drop q)) := fun A_ => by rw [List.drop_of_length_le (by omega)]; exact Rd.nil _ _ _
                  clear hqe
                  have HF := hide (show putF P0 x0 = P.take q ++ [S] ++ P.drop q by rw [hpe.out, hst.out])
                  clear hpe hst
                  go_region_held3 (fun w' => w'.cell? ⟨V.heap.size, 0, none⟩ = some (.int .i64 S.f) ∧ w'.cell? ⟨V.heap.size, 1, none⟩ = some (.int .i64 S.t)) (((refine keep2 (W := W2) ?_ hq0 hq1); (focus (repeat (first | exact Below.refl _ _ | assumption | refine Below.next_ ?_ ?_ (by assumption) | refine Below.drew ?_ | refine below_drewN ?_ _ | refine Below.alloc ?_ ?_ _ | refine Below.setCell ?_ ?_ _ | omega | (simp <;> omega) | (simp at * <;> omega))))))
                        (first | (refine step_app2 (B := W2.heap.size) (w0 := W2) _ rfl (.tmp 71) (.tmp 74) 61 rfl 65 iSp (sqV ⟨0, 0⟩) 2 16 Try.underlying61 hiSp hzSp0 hzSp1 hzSp2 rfl (by omega) rfl (own_drewQ ((own_lit_ (base := W2.heap.size) (e := 65) (size := 2) _ (by simp) (by first | omega | (simp <;> omega) | (simp at * <;> omega))).alloc _)) rfl (hR1.below (by repeat (first | exact Below.refl _ _ | assumption | refine Below.next_ ?_ ?_ (by assumption) | refine Below.drew ?_ | refine below_drewN ?_ _ | refine Below.alloc ?_ ?_ _ | refine Below.setCell ?_ ?_ _ | omega | (simp <;> omega) | (simp at * <;> omega)))) (sps_one _) ?_ ?_ (Nat.zero_add q) (List.nil_append _) ?_ ?_ (Nat.le_refl _) ?_ ?_; (focus (unfold maxLen; omega)); (focus omega); (focus (repeat (first | exact Below.refl _ _ | assumption | refine Below.next_ ?_ ?_ (by assumption) | refine Below.drew ?_ | refine below_drewN ?_ _ | refine Below.alloc ?_ ?_ _ | refine Below.setCell ?_ ?_ _ | omega | (simp <;> omega) | (simp at * <;> omega)))); (focus (first | omega | (simp <;> omega) | (simp at * <;> omega))); (focus (first | omega | (simp <;> omega) | (simp at * <;> omega))); intro A3 c3 w3 ho3 hb3 hg3 hat3; have z_ := hb3.size; have rl := (Rd.drewQ (Rd.two_ (g := W2.heap.size + 1) _ S _ (by simp))).grown hg3 (by simp [blk])) | (refine step_app2 (B := W2.heap.size) (w0 := W2) _ rfl (.tmp 71) (.tmp 74) 61 rfl 65 iSp (sqV ⟨0, 0⟩) 2 16 Try.underlying61 hiSp hzSp0 hzSp1 hzSp2 rfl (by omega) rfl (own_drewQ (own_lit_ (base := W2.heap.size) (e := 65) (size := 2) _ (by simp) (by first | omega | (simp <;> omega) | (simp at * <;> omega)))) rfl (hR1.below (by repeat (first | exact Below.refl _ _ | assumption | refine Below.next_ ?_ ?_ (by assumption) | refine Below.drew ?_ | refine below_drewN ?_ _ | refine Below.alloc ?_ ?_ _ | refine Below.setCell ?_ ?_ _ | omega | (simp <;> omega) | (simp at * <;> omega)))) (sps_one _) ?_ ?_ (Nat.zero_add q) (List.nil_append _) ?_ ?_ (Nat.le_refl _) ?_ ?_; (focus (unfold maxLen; omega)); (focus omega); (focus (repeat (first | exact Below.refl _ _ | assumption | refine Below.next_ ?_ ?_ (by assumption) | refine Below.drew ?_ | refine below_drewN ?_ _ | refine Below.alloc ?_ ?_ _ | refine Below.setCell ?_ ?_ _ | omega | (simp <;> omega) | (simp at * <;> omega)))); (focus (first | omega | (simp <;> omega) | (simp at * <;> omega))); (focus (first | omega | (simp <;> omega) | (simp at * <;> omega))); intro A3 c3 w3 ho3 hb3 hg3 hat3; have z_ := hb3.size; have rl := (Rd.drewQ ((Rd.two_ (g := W2.heap.size) _ S _ (by simp)).below ((Below.refl _ _).alloc (Nat.le_refl _) _))).grown hg3 (by simp [blk])) | (refine step_app2 (B := W2.heap.size) (w0 := W2) _ rfl (.tmp 71) (.tmp 74) 61 rfl 65 iSp (sqV ⟨0, 0⟩) 2 16 Try.underlying61 hiSp hzSp0 hzSp1 hzSp2 rfl (by omega) rfl (own_lit_ (base := W2.heap.size) (e := 65) (size := 2) _ (by simp) (by first | omega | (simp <;> omega) | (simp at * <;> omega))) rfl (hR1.below (by repeat (first | exact Below.refl _ _ | assumption | refine Below.next_ ?_ ?_ (by assumption) | refine Below.drew ?_ | refine below_drewN ?_ _ | refine Below.alloc ?_ ?_ _ | refine Below.setCell ?_ ?_ _ | omega | (simp <;> omega) | (simp at * <;> omega)))) (sps_one _) ?_ ?_ (Nat.zero_add q) (List.nil_append _) ?_ ?_ (Nat.le_refl _) ?_ ?_; (focus (unfold maxLen; omega)); (focus omega); (focus (repeat (first | exact Below.refl _ _ | assumption | refine Below.next_ ?_ ?_ (by assumption) | refine Below.drew ?_ | refine below_drewN ?_ _ | refine Below.alloc ?_ ?_ _ | refine Below.setCell ?_ ?_ _ | omega | (simp <;> omega) | (simp at * <;> omega)))); (focus (first | omega | (simp <;> omega) | (simp at * <;> omega))); (focus (first | omega | (simp <;> omega) | (simp at * <;> omega))); intro A3 c3 w3 ho3 hb3 hg3 hat3; have z_ := hb3.size) | (refine step_app2 (B := W2.heap.size) (w0 := W2) _ rfl (.tmp 75) (.tmp 77) 61 rfl 65 iSp (sqV ⟨0, 0⟩) 2 16 Try.underlying61 hiSp hzSp0 hzSp1 hzSp2 rfl (by omega) rfl (ho3.alloc _) rfl (Rd.two_ _ S _ (by simp)) (sps_one _) ?_ ?_ rfl (sps_append _ _).symm ?_ ?_ (Nat.le_refl _) ?_ ?_; (focus (unfold maxLen; omega)); (focus omega); (focus (repeat (first | exact Below.refl _ _ | assumption | refine Below.next_ ?_ ?_ (by assumption) | refine Below.drew ?_ | refine below_drewN ?_ _ | refine Below.alloc ?_ ?_ _ | refine Below.setCell ?_ ?_ _ | omega | (simp <;> omega) | (simp at * <;> omega)))); (focus (first | omega | (simp <;> omega) | (simp at * <;> omega))); (focus (first | omega | (simp <;> omega) | (simp at * <;> omega))); intro A4 c4 w4 ho4 hb4 hg4 hat4; have z_ := hb4.size) | (refine step_app2 (B := W2.heap.size) (w0 := W2) _ rfl (.tmp 75) (.tmp 77) 61 rfl 65 iSp (sqV ⟨0, 0⟩) 2 16 Try.underlying61 hiSp hzSp0 hzSp1 hzSp2 rfl (by omega) rfl ho3 rfl rl (sps_one _) ?_ ?_ rfl (sps_append _ _).symm ?_ ?_ (Nat.le_refl _) ?_ ?_; (focus (unfold maxLen; omega)); (focus omega); (focus (repeat (first | exact Below.refl _ _ | assumption | refine Below.next_ ?_ ?_ (by assumption) | refine Below.drew ?_ | refine below_drewN ?_ _ | refine Below.alloc ?_ ?_ _ | refine Below.setCell ?_ ?_ _ | omega | (simp <;> omega) | (simp at * <;> omega)))); (focus (first | omega | (simp <;> omega) | (simp at * <;> omega))); (focus (first | omega | (simp <;> omega) | (simp at * <;> omega))); intro A4 c4 w4 ho4 hb4 hg4 hat4; have z_ := hb4.size) | (refine step_app2 (B := W2.heap.size) (w0 := W2) _ rfl (.tmp 78) (.tmp 81) 61 rfl 65 iSp (sqV ⟨0, 0⟩) 2 16 Try.underlying61 hiSp hzSp0 hzSp1 hzSp2 rfl (by omega) rfl ho4 rfl ((hR2 _).below hb4) (sps_one _) ?_ ?_ (show q + 1 + 0 = P.length + 1 by omega) (sps_append _ _).symm ?_ ?_ (Nat.le_refl _) ?_ ?_; (focus (unfold maxLen; omega)); (focus omega); (focus (repeat (first | exact Below.refl _ _ | assumption | refine Below.next_ ?_ ?_ (by assumption) | refine Below.drew ?_ | refine below_drewN ?_ _ | refine Below.alloc ?_ ?_ _ | refine Below.setCell ?_ ?_ _ | omega | (simp <;> omega) | (simp at * <;> omega)))); (focus (first | omega | (simp <;> omega) | (simp at * <;> omega))); (focus (first | omega | (simp <;> omega) | (simp at * <;> omega))); intro A5 c5 w5 ho5 hb5 hg5 hat5; have z_ := hb5.size))
                  all_goals
                    go_wp2_with fail
                    have hNl : P.length + 1 = (putF P0 x0).length := by rw [HF.out]; simp; omega
                    have HNl := hide hNl
                    clear hNl
                    have ho6 := own_base ho5 (show w.heap.size ≤ W2.heap.size by omega)
                    rw [← HF.out] at ho6
                    have hb6 : Below w.heap.size w _ := Below.next_ (Below.next_ hbO (by omega) hb2) (by omega) hb5
                    go_roundw
                    case rel => exact ⟨k0 + 1, putF P0 x0, P.length + 1, A5, c5, by omega, by go_num, rfl, HNl, hjoin, ho6, hb6⟩
                    case measure => simp [intOf]; omega
                ·
                  generalize hW2e : World.drewN (World.drewN wr _) _ = W2
                  have ho2 : W2.ownsRow (V.heap.size + 1) 65 2 (.slice B P.length d) P.length (sps P) := by rw [← hW2e]; exact own_drewN (own_drewN ho _) _
                  have hq0 : W2.cell? ⟨V.heap.size, 0, none⟩ = some (.int .i64 S.f) := by rw [← hW2e]; simpa using hs0
                  have hq1 : W2.cell? ⟨V.heap.size, 1, none⟩ = some (.int .i64 S.t) := by rw [← hW2e]; simpa using hs1
                  have hb2 : Below V.heap.size V W2 := by rw [← hW2e]; exact below_drewN (below_drewN hb _) _
                  have hwz2 : V.heap.size < W2.heap.size := cell_lt hq0
                  clear hW2e hs0 hs1 hb ho f0 f1 hwz
                  have hcap := own_cap ho2
                  have hdq : (q : Int) ≤ (d : Int) := by omega
                  have hnq : (q : Int) ≤ (P.length : Int) := by omega
                  have hR1 : Rd W2 2 B q (sps (P.take q)) := by rw [sps_take]; exact (Rd.of_own ho2).takeS (by omega)
                  have hqe : P.length - q = 0 := by omega
                  have hR2 : ∀ A_, Rd W2 2 A_ (P.length - q) (sps (P.drop q)) := fun A_ => by rw [List.drop_of_length_le (by omega), hqe]; exact Rd.nil _ _ _
                  clear hqe
                  have HF := hide (show putF P0 x0 = P.take q ++ [S] ++ P.drop q by rw [hpe.out, hst.out])
                  clear hpe hst
                  go_region_held3 (fun w' => w'.cell? ⟨V.heap.size, 0, none⟩ = some (.int .i64 S.f) ∧ w'.cell? ⟨V.heap.size, 1, none⟩ = some (.int .i64 S.t)) (((refine keep2 (W := W2) ?_ hq0 hq1); (focus (repeat (first | exact Below.refl _ _ | assumption | refine Below.next_ ?_ ?_ (by assumption) | refine Below.drew ?_ | refine below_drewN ?_ _ | refine Below.alloc ?_ ?_ _ | refine Below.setCell ?_ ?_ _ | omega | (simp <;> omega) | (simp at * <;> omega))))))
                        (first | (refine step_app2 (B := W2.heap.size) (w0 := W2) _ rfl (.tmp 71) (.tmp 74) 61 rfl 65 iSp (sqV ⟨0, 0⟩) 2 16 Try.underlying61 hiSp hzSp0 hzSp1 hzSp2 rfl (by omega) rfl (own_drewQ ((own_lit_ (base := W2.heap.size) (e := 65) (size := 2) _ (by simp) (by first | omega | (simp <;> omega) | (simp at * <;> omega))).alloc _)) rfl (hR1.below (by repeat (first | exact Below.refl _ _ | assumption | refine Below.next_ ?_ ?_ (by assumption) | refine Below.drew ?_ | refine below_drewN ?_ _ | refine Below.alloc ?_ ?_ _ | refine Below.setCell ?_ ?_ _ | omega | (simp <;> omega) | (simp at * <;> omega)))) (sps_one _) ?_ ?_ (Nat.zero_add q) (List.nil_append _) ?_ ?_ (Nat.le_refl _) ?_ ?_; (focus (unfold maxLen; omega)); (focus omega); (focus (repeat (first | exact Below.refl _ _ | assumption | refine Below.next_ ?_ ?_ (by assumption) | refine Below.drew ?_ | refine below_drewN ?_ _ | refine Below.alloc ?_ ?_ _ | refine Below.setCell ?_ ?_ _ | omega | (simp <;> omega) | (simp at * <;> omega)))); (focus (first | omega | (simp <;> omega) | (simp at * <;> omega))); (focus (first | omega | (simp <;> omega) | (simp at * <;> omega))); intro A3 c3 w3 ho3 hb3 hg3 hat3; have z_ := hb3.size; have rl := (Rd.drewQ (Rd.two_ (g := W2.heap.size + 1) _ S _ (by simp))).grown hg3 (by simp [blk])) | (refine step_app2 (B := W2.heap.size) (w0 := W2) _ rfl (.tmp 71) (.tmp 74) 61 rfl 65 iSp (sqV ⟨0, 0⟩) 2 16 Try.underlying61 hiSp hzSp0 hzSp1 hzSp2 rfl (by omega) rfl (own_drewQ (own_lit_ (base := W2.heap.size) (e := 65) (size := 2) _ (by simp) (by first | omega | (simp <;> omega) | (simp at * <;> omega)))) rfl (hR1.below (by repeat (first | exact Below.refl _ _ | assumption | refine Below.next_ ?_ ?_ (by assumption) | refine Below.drew ?_ | refine below_drewN ?_ _ | refine Below.alloc ?_ ?_ _ | refine Below.setCell ?_ ?_ _ | omega | (simp <;> omega) | (simp at * <;> omega)))) (sps_one _) ?_ ?_ (Nat.zero_add q) (List.nil_append _) ?_ ?_ (Nat.le_refl _) ?_ ?_; (focus (unfold maxLen; omega)); (focus omega); (focus (repeat (first | exact Below.refl _ _ | assumption | refine Below.next_ ?_ ?_ (by assumption) | refine Below.drew ?_ | refine below_drewN ?_ _ | refine Below.alloc ?_ ?_ _ | refine Below.setCell ?_ ?_ _ | omega | (simp <;> omega) | (simp at * <;> omega)))); (focus (first | omega | (simp <;> omega) | (simp at * <;> omega))); (focus (first | omega | (simp <;> omega) | (simp at * <;> omega))); intro A3 c3 w3 ho3 hb3 hg3 hat3; have z_ := hb3.size; have rl := (Rd.drewQ ((Rd.two_ (g := W2.heap.size) _ S _ (by simp)).below ((Below.refl _ _).alloc (Nat.le_refl _) _))).grown hg3 (by simp [blk])) | (refine step_app2 (B := W2.heap.size) (w0 := W2) _ rfl (.tmp 71) (.tmp 74) 61 rfl 65 iSp (sqV ⟨0, 0⟩) 2 16 Try.underlying61 hiSp hzSp0 hzSp1 hzSp2 rfl (by omega) rfl (own_lit_ (base := W2.heap.size) (e := 65) (size := 2) _ (by simp) (by first | omega | (simp <;> omega) | (simp at * <;> omega))) rfl (hR1.below (by repeat (first | exact Below.refl _ _ | assumption | refine Below.next_ ?_ ?_ (by assumption) | refine Below.drew ?_ | refine below_drewN ?_ _ | refine Below.alloc ?_ ?_ _ | refine Below.setCell ?_ ?_ _ | omega | (simp <;> omega) | (simp at * <;> omega)))) (sps_one _) ?_ ?_ (Nat.zero_add q) (List.nil_append _) ?_ ?_ (Nat.le_refl _) ?_ ?_; (focus (unfold maxLen; omega)); (focus omega); (focus (repeat (first | exact Below.refl _ _ | assumption | refine Below.next_ ?_ ?_ (by assumption) | refine Below.drew ?_ | refine below_drewN ?_ _ | refine Below.alloc ?_ ?_ _ | refine Below.setCell ?_ ?_ _ | omega | (simp <;> omega) | (simp at * <;> omega)))); (focus (first | omega | (simp <;> omega) | (simp at * <;> omega))); (focus (first | omega | (simp <;> omega) | (simp at * <;> omega))); intro A3 c3 w3 ho3 hb3 hg3 hat3; have z_ := hb3.size) | (refine step_app2 (B := W2.heap.size) (w0 := W2) _ rfl (.tmp 75) (.tmp 77) 61 rfl 65 iSp (sqV ⟨0, 0⟩) 2 16 Try.underlying61 hiSp hzSp0 hzSp1 hzSp2 rfl (by omega) rfl (ho3.alloc _) rfl (Rd.two_ _ S _ (by simp)) (sps_one _) ?_ ?_ rfl (sps_append _ _).symm ?_ ?_ (Nat.le_refl _) ?_ ?_; (focus (unfold maxLen; omega)); (focus omega); (focus (repeat (first | exact Below.refl _ _ | assumption | refine Below.next_ ?_ ?_ (by assumption) | refine Below.drew ?_ | refine below_drewN ?_ _ | refine Below.alloc ?_ ?_ _ | refine Below.setCell ?_ ?_ _ | omega | (simp <;> omega) | (simp at * <;> omega)))); (focus (first | omega | (simp <;> omega) | (simp at * <;> omega))); (focus (first | omega | (simp <;> omega) | (simp at * <;> omega))); intro A4 c4 w4 ho4 hb4 hg4 hat4; have z_ := hb4.size) | (refine step_app2 (B := W2.heap.size) (w0 := W2) _ rfl (.tmp 75) (.tmp 77) 61 rfl 65 iSp (sqV ⟨0, 0⟩) 2 16 Try.underlying61 hiSp hzSp0 hzSp1 hzSp2 rfl (by omega) rfl ho3 rfl rl (sps_one _) ?_ ?_ rfl (sps_append _ _).symm ?_ ?_ (Nat.le_refl _) ?_ ?_; (focus (unfold maxLen; omega)); (focus omega); (focus (repeat (first | exact Below.refl _ _ | assumption | refine Below.next_ ?_ ?_ (by assumption) | refine Below.drew ?_ | refine below_drewN ?_ _ | refine Below.alloc ?_ ?_ _ | refine Below.setCell ?_ ?_ _ | omega | (simp <;> omega) | (simp at * <;> omega)))); (focus (first | omega | (simp <;> omega) | (simp at * <;> omega))); (focus (first | omega | (simp <;> omega) | (simp at * <;> omega))); intro A4 c4 w4 ho4 hb4 hg4 hat4; have z_ := hb4.size) | (refine step_app2 (B := W2.heap.size) (w0 := W2) _ rfl (.tmp 78) (.tmp 81) 61 rfl 65 iSp (sqV ⟨0, 0⟩) 2 16 Try.underlying61 hiSp hzSp0 hzSp1 hzSp2 rfl (by omega) rfl ho4 rfl ((hR2 _).below hb4) (sps_one _) ?_ ?_ (show q + 1 + (P.length - q) = P.length + 1 by omega) (sps_append _ _).symm ?_ ?_ (Nat.le_refl _) ?_ ?_; (focus (unfold maxLen; omega)); (focus omega); (focus (repeat (first | exact Below.refl _ _ | assumption | refine Below.next_ ?_ ?_ (by assumption) | refine Below.drew ?_ | refine below_drewN ?_ _ | refine Below.alloc ?_ ?_ _ | refine Below.setCell ?_ ?_ _ | omega | (simp <;> omega) | (simp at * <;> omega)))); (focus (first | omega | (simp <;> omega) | (simp at * <;> omega))); (focus (first | omega | (simp <;> omega) | (simp at * <;> omega))); intro A5 c5 w5 ho5 hb5 hg5 hat5; have z_ := hb5.size))
                  all_goals
                    go_wp2_with fail
                    have hNl : P.length + 1 = (putF P0 x0).length := by rw [HF.out]; simp; omega
                    have HNl := hide hNl
                    clear hNl
                    have ho6 := own_base ho5 (show w.heap.size ≤ W2.heap.size by omega)
                    rw [← HF.out] at ho6
                    have hb6 : Below w.heap.size w _ := Below.next_ (Below.next_ hbO (by omega) hb2) (by omega) hb5
                    go_roundw
                    case rel => exact ⟨k0 + 1, putF P0 x0, P.length + 1, A5, c5, by omega, by go_num, rfl, HNl, hjoin, ho6, hb6⟩
                    case measure => simp [intOf]; omega

    · have hkn : ¬ (k0 : Int) < (n : Int) := by omega
      have hfin := hide (show joinF l = P0 by have h1 := hp0.out; rwa [List.take_of_length_le (by have := HL.out; omega)] at h1)
      go_wp2_with fail
      go_ret
      exact ⟨B0, N0, d0, rfl, by rw [hfin.out]; exact hN0.out, by rw [hfin.out]; exact hoO, hbO⟩
end Go.Proofs.Ytgeffaohdoeclaa
