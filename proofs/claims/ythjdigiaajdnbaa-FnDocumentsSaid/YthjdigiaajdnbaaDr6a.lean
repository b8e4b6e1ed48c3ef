/- The contract of l6Any. For codes of at most 2^20 bytes. -/
import Derived.Test.YthjdigiaajdnbaaDr6
import Derived.Test.YthjdigiaajdnbaaDocD
import Derived.Test.YthjdigiaajdnbaaMarkD
import Derived.Test.YthjdigiaajdnbaaTail
import Derived.Deep.Cut
namespace Go.Proofs.Ythjdigiaajdnbaa
open Go.RowKit Go.WideShapes Go.ChangeShapes Go.Deep
set_option linter.unusedSimpArgs false
set_option linter.unusedVariables false
set_option maxRecDepth 1000000
def OkP (s : ByteArray) : Prop := s ∈ TX ∨ s = ⟨#[120]⟩ ∨ (40 ≤ s.size ∧ s.size ≤ 41)
theorem OkP_size {s : ByteArray} (h : OkP s) : s.size ≤ 41 := by
  rcases h with h | rfl | h
  · have := TX_size h; omega
  · decide
  · omega
theorem okp_set {l : List ByteArray} {x : ByteArray} {i : Nat} (h : ∀ s ∈ l, OkP s) (hx : OkP x) : ∀ s ∈ l.set i x, OkP s := by
  intro s hs
  rcases List.mem_or_eq_of_mem_set hs with h1 | rfl
  · exact h s h1
  · exact hx
theorem i64_set {l : List Int} {x : Int} {i : Nat} (h : ∀ s ∈ l, I64 s) (hx : I64 x) : ∀ s ∈ l.set i x, I64 s := by
  intro s hs
  rcases List.mem_or_eq_of_mem_set hs with h1 | rfl
  · exact h s h1
  · exact hx
theorem ints_set (l : List Int) (j : Nat) (x : Int) : (ints l).set j (.int .i64 x) = ints (l.set j x) := by simp [ints, List.map_set]
theorem sts_set_ (l : List ByteArray) (j : Nat) (x : ByteArray) : (sts l).set j (.string x) = sts (l.set j x) := by simp [sts, List.map_set]
theorem own_notin {w : World} {b g : Nat} {e : TypeId} {s n c : Nat} {A : Option Addr} {xs : List Value} (h : w.ownsRow b e s (.slice A n c) n xs) (hg : ¬ blk A = some g) (j : Nat) (u : Value) : (w.setCell ⟨g, j, none⟩ u).ownsRow b e s (.slice A n c) n xs := own_off h hg u
set_option maxHeartbeats 16000000 in
theorem l6Any_any {p : Nat} {w : World} (hC : Cur w p) :
    Calls Try.prog 31 #[curV p] w fun e w' => ∃ t ps ss P S n m c d, e = .returned (doV t P S n m c d) ∧ I64 t ∧ n ≤ 4 ∧ m ≤ 3 ∧ (∀ s ∈ ps, OkP s) ∧ (∀ x ∈ ss, I64 x) ∧ w'.ownsRow w.heap.size 9 1 (.slice P n c) n (sts ps) ∧ w'.ownsRow w.heap.size 3 1 (.slice S m d) m (ints ss) ∧ Drawn w w' p := by
  obtain ⟨iString, hiString, hzString0, hzString1, hzString2⟩ := info_parts String_info
  have hp := hC.lt
  obtain ⟨W1, hW1⟩ : ∃ W1, w.alloc (.cells #[.int .i64 0, .slice none 0 0, .slice none 0 0] 27) = W1 := ⟨_, rfl⟩
  have ZB : Blk W1 w.heap.size [.int .i64 0, .slice none 0 0, .slice none 0 0] := by rw [← hW1]; exact Blk.new _ _ _
  have hb1 : Below w.heap.size w W1 := by rw [← hW1]; exact (Below.refl w.heap.size w).alloc (Nat.le_refl _) _
  have HW1 := hide hW1
  clear hW1
  have hz1 : w.heap.size < W1.heap.size := ZB.lt
  have hC1 := hC.below hb1
  have hp1 : p < W1.heap.size := by omega
  have hne : w.heap.size ≠ p := by omega
  go_enter Try.func31, Try.ntmps31
  go_wp2_with fail
  rw [HW1.out]
  clear HW1
  refine (l6Draw_any hC1).mono ?_
  rintro e w1 ⟨t, ps, ss, P, S, n, c, d, rfl, hdoc, htx, hn1, hn3, hoP, hoS, hap, hd1⟩
  obtain ⟨⟨ht0, ht1⟩, _, _, _, hsx⟩ := isDoc_all hdoc
  have hTX := hide htx
  have hSI := hide (show ∀ x ∈ ss, I64 x from fun x hx => by have := hsx x hx; exact ⟨by omega, by omega⟩)
  have htI : I64 t := ⟨by omega, by omega⟩
  have HAP := hide hap
  clear htx hsx hdoc hap
  have hz2 := hd1.2.size
  obtain ⟨q, hq⟩ : ∃ q, w1.heap.size = q := ⟨_, rfl⟩
  have HQ := hide hq
  have hltP : ∀ g, blk P = some g → W1.heap.size ≤ g ∧ g < q := fun g hg => by have := hoP.lt g (by rw [blk_own]; exact hg); omega
  have hltS : ∀ g, blk S = some g → W1.heap.size ≤ g ∧ g < q := fun g hg => by have := hoS.lt g (by rw [blk_own]; exact hg); omega
  have HLP := hide hltP
  have HLS := hide hltS
  clear hltP hltS
  obtain ⟨W2, hW2⟩ : ∃ W2, w1.alloc (.cells #[.int .i64 t, .slice P n c, .slice S n d] 27) = W2 := ⟨_, rfl⟩
  have DB : Blk W2 q [.int .i64 t, .slice P n c, .slice S n d] := by rw [← hW2, ← hq]; exact Blk.new _ _ _
  have hbW2 : Below w1.heap.size w1 W2 := by rw [← hW2]; exact (Below.refl w1.heap.size w1).alloc (Nat.le_refl _) _
  have ZB2 := (ZB.cur hd1.2 hne).below hbW2
  have hoP2 := own_below hoP hbW2
  have hoS2 := own_below hoS hbW2
  have hD2 := (Drawn.of hb1 hd1).below hbW2
  have hqz : W1.heap.size ≤ q := by omega
  have hqp : q ≠ p := by omega
  have hqw : q ≠ w.heap.size := by omega
  have hwq : w.heap.size ≠ q := by omega
  have hwq' : w.heap.size ≤ q := by omega
  have HW2 := hide hW2
  clear hW2 hbW2 hoP hoS hb1 hd1 ZB hq
  go_wp2_with fail
  rw [HW2.out, HQ.out]
  clear HW2
  refine (l1Below_any hD2.1 (by omega)).mono ?_
  rintro e w3 ⟨s, rfl, hs, hsI, hd3⟩
  obtain ⟨hs0, hs1⟩ := hs.2 (by omega)
  have ZB3 := ZB2.cur hd3.2 hne
  have DB3 := DB.cur hd3.2 hqp
  have hoP3 := own_cur hoP2 hd3.2 hp1
  have hoS3 := own_cur hoS2 hd3.2 hp1
  have hD3 := hD2.next hd3
  have hq3 : q < w3.heap.size := DB3.lt
  clear ZB2 DB hoP2 hoS2 hD2 hd3 hs hsI
  by_cases h0 : s = 0
  · subst h0
    go_wp2_with fail
    refine (l1Int_any (l := [(-1), (999), (1000)]) (hD3.1.below ((Below.refl w3.heap.size w3).alloc (Nat.le_refl _) _)) (Rd.of_own (World.ownsRow_lit (base := w3.heap.size) (e := 3) (size := 1) w3 #[.int .i64 (-1), .int .i64 (999), .int .i64 (1000)] 3 (Nat.le_refl _) (by unfold maxLen; omega) rfl)) (fun a e => by injection e with e; subst e; exact Nat.ne_of_gt (hD3.1).lt) (by omega) (by omega)).mono ?_
    rintro e w4 ⟨x, rfl, hx, hd4⟩
    have hxI : I64 x := by simp at hx; unfold I64; omega
    have hal := (Below.refl w3.heap.size w3).alloc (Nat.le_refl _) (.cells #[.int .i64 (-1), .int .i64 999, .int .i64 1000] 3)
    have ZB4 := (ZB3.below hal).cur hd4.2 hne
    have DB4 := (DB3.below hal).cur hd4.2 hqp
    have o1_ := own_cur (own_below hoP3 hal) hd4.2 hp1
    have o2_ := own_cur (own_below hoS3 hal) hd4.2 hp1
    have hD4 := hD3.lit hd4
    clear hx hal hd4 hD3 hoP3 hoS3 ZB3 DB3
    obtain ⟨⟨y0, y1, y2⟩, e0, e1, e2⟩ := DB4.three
    go_upto_region 11 with fail
    have ZBV := ZB4.other (g := q) (j := 0) (u := .int .i64 x) hqw
    have DBV : Blk _ q [.int .i64 x, .slice P n c, .slice S n d] := DB4.set 0 (.int .i64 x)
    have o1 := own_notin o1_ (fun h => by have := HLP.out q h; omega) 0 (.int .i64 x)
    have o2 := own_notin o2_ (fun h => by have := HLS.out q h; omega) 0 (.int .i64 x)
    have hD := hD4.belowB hp ((Below.refl w.heap.size w4).setCell (p := ⟨q, 0, none⟩) hwq' (.int .i64 x))
    obtain ⟨V, hV⟩ : ∃ V, w4.setCell ⟨q, 0, none⟩ (.int .i64 x) = V := ⟨_, rfl⟩
    rw [hV] at ZBV DBV o1 o2 hD ⊢
    clear hV y0 y1 y2 e0 e1 e2 ZB4 DB4 o1_ o2_ hD4
    obtain ⟨⟨z0, z1, z2⟩, f0, f1, f2⟩ := ZBV.three
    obtain ⟨⟨v0, v1, v2⟩, g0, g1, g2⟩ := DBV.three
    have r1 := (own_old (g := w.heap.size) (j := 2) (own_old (g := w.heap.size) (j := 1) (own_old (g := w.heap.size) (j := 0) o1 hz1 (.int .i64 x)) hz1 (.slice P n c)) hz1 (.slice S n d))
    have r2 := (own_old (g := w.heap.size) (j := 2) (own_old (g := w.heap.size) (j := 1) (own_old (g := w.heap.size) (j := 0) o2 hz1 (.int .i64 x)) hz1 (.slice P n c)) hz1 (.slice S n d))
    have bb := ((((Below.refl w.heap.size V).setCell (p := ⟨w.heap.size, 0, none⟩) (Nat.le_refl _) (.int .i64 x)).setCell (p := ⟨w.heap.size, 1, none⟩) (Nat.le_refl _) (.slice P n c)).setCell (p := ⟨w.heap.size, 2, none⟩) (Nat.le_refl _) (.slice S n d))
    have hDD := hD.belowB hp bb
    clear o1 o2 bb hD
    go_wp2_with fail
    exact bodyPost_ret (v := doV x P S n n c d) (by simp [results, Try.results31, go_sem, *]) rfl ⟨x, ps, ss, P, S, n, n, c, d, rfl, hxI, by omega, hn3, fun s hs => Or.inl (hTX.out s hs), hSI.out, own_base r1 (Nat.le_of_lt hz1), own_base r2 (Nat.le_of_lt hz1), hDD⟩
  have b0 : (s == 0) = false := by simpa using h0
  by_cases h1 : s = 1
  · subst h1
    clear b0
    have hzz : w.heap.size ≤ w3.heap.size := by omega
    obtain ⟨⟨y0, y1, y2⟩, e0, e1, e2⟩ := DB3.three
    go_upto_region 11 with (at_builtin; refine wpList_app2 _ rfl (.tmp 17) (.tmp 18) 25 rfl 9 iString (.string ByteArray.empty) 1 16 Try.underlying25 hiString hzString0 hzString1 hzString2 rfl (by omega) rfl (hoP3.alloc _) rfl (Rd.one _ _ _) (sts_one [_]) (by unfold maxLen; omega) (by omega) rfl rfl (B := w.heap.size) (w0 := w3) ((Below.refl w.heap.size w3).alloc hzz _) (by simp; omega) (Nat.le_of_lt hz1) (by simp; omega) ?_; intro A4 c4 w4 ho4 hb4 hg4 hat4; have DBq := (DB3.alloc _).grown hg4 (fun h => by have := HLP.out q h; omega); obtain ⟨⟨k0, k1, k2⟩, k3, k4, k5⟩ := DBq.three)
    have ZBV := ((ZB3.alloc _).grown hg4 (fun h => by have := HLP.out w.heap.size h; omega)).other (g := q) (j := 1) (u := .slice A4 (n + 1) c4) hqw
    have DBV : Blk _ q [.int .i64 t, .slice A4 (n + 1) c4, .slice S n d] := DBq.set 1 (.slice A4 (n + 1) c4)
    have o1 := own_notin (g := q) ho4 (fun h => by
      rcases hat4 with h1 | h1
      · rw [h1] at h; have := HLP.out q h; omega
      · rw [h1] at h; injection h with h; simp at h; omega) 1 (.slice A4 (n + 1) c4)
    have o2 := own_notin (own_kept (hoS3.alloc _) hg4 (fun k hk h => HAP.out k h hk)) (fun h => by have := HLS.out q h; omega) 1 (.slice A4 (n + 1) c4)
    have hD := hD3.belowB hp (hb4.setCell (p := ⟨q, 1, none⟩) hwq' (.slice A4 (n + 1) c4))
    obtain ⟨V, hV⟩ : ∃ V, w4.setCell ⟨q, 1, none⟩ (.slice A4 (n + 1) c4) = V := ⟨_, rfl⟩
    rw [hV] at ZBV DBV o1 o2 hD ⊢
    have hOK := hide (show ∀ s ∈ ps ++ [(⟨#[120]⟩ : ByteArray)], OkP s from snoc_all (fun s hs => Or.inl (hTX.out s hs)) (Or.inr (Or.inl rfl)))
    replace o1 : V.ownsRow W1.heap.size 9 1 (.slice A4 (n + 1) c4) (n + 1) (sts (ps ++ [⟨#[120]⟩])) := by rw [sts_snoc]; exact o1
    clear hV y0 y1 y2 e0 e1 e2 k0 k1 k2 k3 k4 k5 DBq hD3 hoP3 hoS3 ZB3 DB3 ho4 hb4 hg4 hat4
    obtain ⟨⟨z0, z1, z2⟩, f0, f1, f2⟩ := ZBV.three
    obtain ⟨⟨v0, v1, v2⟩, g0, g1, g2⟩ := DBV.three
    have r1 := (own_old (g := w.heap.size) (j := 2) (own_old (g := w.heap.size) (j := 1) (own_old (g := w.heap.size) (j := 0) o1 hz1 (.int .i64 t)) hz1 (.slice A4 (n + 1) c4)) hz1 (.slice S n d))
    have r2 := (own_old (g := w.heap.size) (j := 2) (own_old (g := w.heap.size) (j := 1) (own_old (g := w.heap.size) (j := 0) o2 hz1 (.int .i64 t)) hz1 (.slice A4 (n + 1) c4)) hz1 (.slice S n d))
    have bb := ((((Below.refl w.heap.size V).setCell (p := ⟨w.heap.size, 0, none⟩) (Nat.le_refl _) (.int .i64 t)).setCell (p := ⟨w.heap.size, 1, none⟩) (Nat.le_refl _) (.slice A4 (n + 1) c4)).setCell (p := ⟨w.heap.size, 2, none⟩) (Nat.le_refl _) (.slice S n d))
    have hDD := hD.belowB hp bb
    clear o1 o2 bb hD
    go_wp2_with fail
    exact bodyPost_ret (v := doV t A4 S (n + 1) n c4 d) (by simp [results, Try.results31, go_sem, *]) rfl ⟨t, (ps ++ [⟨#[120]⟩]), ss, A4, S, (n + 1), n, c4, d, rfl, htI, by omega, hn3, hOK.out, hSI.out, own_base r1 (Nat.le_of_lt hz1), own_base r2 (Nat.le_of_lt hz1), hDD⟩
  have b1 : (s == 1) = false := by simpa using h1
  by_cases h2 : s = 2
  · subst h2
    obtain ⟨⟨y0, y1, y2⟩, e0, e1, e2⟩ := DB3.three
    obtain ⟨gS, u, rfl, hgS, hu, hcu, hfu⟩ := own_at hoS3 (j := 0) (by omega)
    have hn0 : (0 : Int) < (n : Int) := by omega
    have hn0n : 0 < n := by omega
    clear b0 b1
    go_upto_region 8 with fail
    refine wp_region_upto (S := (fun w' => w'.cell? ⟨q, 2, none⟩ = some (.slice (some ⟨gS, 0, none⟩) n d))) 6 (by kernel_rfl) ?_ ?_
    · exact y2
    obtain ⟨w4, hw4⟩ : ∃ x, w3.drew = x := ⟨_, rfl⟩
    have hbd : Below w3.heap.size w3 w4 := by rw [← hw4]; exact (Below.refl _ _).drew
    have ZB4 := ZB3.below hbd
    have DB4 := DB3.below hbd
    have hoP4 := own_below hoP3 hbd
    have hoS4 := own_below hoS3 hbd
    have hD4 := hD3.below hbd
    rw [hw4]
    intro hHeld
    clear hbd hw4 y0 y1 y2 e0 e1 e2 hcu hfu hu ZB3 DB3 hoP3 hoS3 hD3
    obtain ⟨⟨y0, y1, y2⟩, e0, e1, e2⟩ := DB4.three
    refine upto_take (i := 0) (v := ?v1) rfl (by kernel_rfl) (by kernel_rfl) (by kernel_rfl) (by kernel_rfl) (fun _ _ _ h => h) hHeld ?hy1 (by rfl) ?rest1
    case hy1 => (intro w' hSw; (try dsimp only at hSw); go_simp; (try with_reducible rfl))
    (try simp only [Act.put, List.setIfInBounds_toArray, List.set_cons_zero, List.set_cons_succ])
    refine upto_take (i := 1) (v := ?v2) rfl (by kernel_rfl) (by kernel_rfl) (by kernel_rfl) (by kernel_rfl) (fun _ _ _ h => h) hHeld ?hy2 (by rfl) ?rest2
    case hy2 => (intro w' hSw; (try dsimp only at hSw); go_simp; (try with_reducible rfl))
    (try simp only [Act.put, List.setIfInBounds_toArray, List.set_cons_zero, List.set_cons_succ])
    refine upto_take (i := 2) (v := ?v3) rfl (by kernel_rfl) (by kernel_rfl) (by kernel_rfl) (by kernel_rfl) (fun _ _ _ h => h) hHeld ?hy3 (by rfl) ?rest3
    case hy3 => (intro w' hSw; (try dsimp only at hSw); go_simp; (try with_reducible rfl))
    (try simp only [Act.put, List.setIfInBounds_toArray, List.set_cons_zero, List.set_cons_succ])
    refine upto_step (k := 3) (by kernel_rfl) rfl (fun K hK => ?_)
    go_simp
    refine hK.out _ _ ?_ ?_
    · (intro _; exact (World.cell?_alloc_lt _ _ _ (cell_lt y2)).trans y2)
    clear hK K
    (try simp only [Act.put, List.setIfInBounds_toArray, List.set_cons_zero, List.set_cons_succ])
    refine upto_step (k := 4) (by kernel_rfl) rfl (fun K hK => ?_)
    go_simp
    (go_at_call 60; refine (l1Int_any (l := [(0), (-1), (1)]) (hD4.1.below ((Below.refl w4.heap.size w4).alloc (Nat.le_refl _) _)) (Rd.of_own (World.ownsRow_lit (base := w4.heap.size) (e := 3) (size := 1) w4 #[.int .i64 (0), .int .i64 (-1), .int .i64 (1)] 3 (Nat.le_refl _) (by unfold maxLen; omega) rfl)) (fun a e => by injection e with e; subst e; exact Nat.ne_of_gt (hD4.1).lt) (by omega) (by omega)).mono ?_; rintro e w5 ⟨x, rfl, hx, hd5⟩)
    go_wp2_with fail
    have hxI : I64 x := by simp at hx; unfold I64; omega
    have hal := (Below.refl w4.heap.size w4).alloc (Nat.le_refl _) (.cells #[.int .i64 0, .int .i64 (-1), .int .i64 1] 3)
    have ZB5 := (ZB4.below hal).cur hd5.2 hne
    have DB5 := (DB4.below hal).cur hd5.2 hqp
    have o15 := own_cur (own_below hoP4 hal) hd5.2 hp1
    have o25 := own_cur (own_below hoS4 hal) hd5.2 hp1
    have hD5 := hD4.lit hd5
    clear hx hal hd5
    obtain ⟨⟨k0, k1, k2⟩, k3, k4, k5⟩ := DB5.three
    obtain ⟨u5, hu5, hcu5, hfu5⟩ := own_at_ o25 (j := 0) (by omega)
    refine hK.out _ _ ?_ ?_
    · (intro _; exact k2)
    clear hK K
    (try simp only [Act.put, List.setIfInBounds_toArray, List.set_cons_zero, List.set_cons_succ])
    refine upto_step (k := 5) (by kernel_rfl) rfl (fun K hK => ?_)
    go_simp
    (try rw [if_pos hn0n])
    (try go_simp)
    refine hK.out _ _ ?_ ?_
    · (intro _; exact k2)
    clear hK K
    (try simp only [Act.put, List.setIfInBounds_toArray, List.set_cons_zero, List.set_cons_succ])
    refine upto_step (k := 6) (by kernel_rfl) rfl (fun K hK => ?_)
    go_simp
    refine hK.out _ _ ?_ ?_
    · (intro h; exact absurd rfl h)
    clear hK K
    (try simp only [Act.put, List.setIfInBounds_toArray, List.set_cons_zero, List.set_cons_succ])
    refine upto_done (by kernel_rfl) ?_ _
    have ZBV := ZB5.other (g := gS) (j := 0) (u := .int .i64 x) (by have := HLS.out gS rfl; omega)
    have DBV := DB5.other (g := gS) (j := 0) (u := .int .i64 x) (by have := HLS.out gS rfl; omega)
    have o1 := own_notin o15 (fun h => HAP.out gS h rfl) 0 (.int .i64 x)
    have o2 := (own_set o25 0 (.int .i64 x)).1
    rw [ints_set] at o2
    have hD := hD5.belowB hp ((Below.refl w.heap.size w5).setCell (p := ⟨gS, 0, none⟩) (by have := HLS.out gS rfl; show w.heap.size ≤ gS; omega) (.int .i64 x))
    go_upto_region 11 with fail
    obtain ⟨V, hV⟩ : ∃ V, w5.setCell ⟨gS, 0, none⟩ (.int .i64 x) = V := ⟨_, rfl⟩
    rw [hV] at ZBV DBV o1 o2 hD ⊢
    clear hV y0 y1 y2 e0 e1 e2 k0 k1 k2 k3 k4 k5 hcu5 hfu5 hu5 ZB5 DB5 o15 o25 hD5 ZB4 DB4 hoP4 hoS4 hD4
    obtain ⟨⟨z0, z1, z2⟩, f0, f1, f2⟩ := ZBV.three
    obtain ⟨⟨v0, v1, v2⟩, g0, g1, g2⟩ := DBV.three
    have r1 := (own_old (g := w.heap.size) (j := 2) (own_old (g := w.heap.size) (j := 1) (own_old (g := w.heap.size) (j := 0) o1 hz1 (.int .i64 t)) hz1 (.slice P n c)) hz1 (.slice (some ⟨gS, 0, none⟩) n d))
    have r2 := (own_old (g := w.heap.size) (j := 2) (own_old (g := w.heap.size) (j := 1) (own_old (g := w.heap.size) (j := 0) o2 hz1 (.int .i64 t)) hz1 (.slice P n c)) hz1 (.slice (some ⟨gS, 0, none⟩) n d))
    have bb := ((((Below.refl w.heap.size V).setCell (p := ⟨w.heap.size, 0, none⟩) (Nat.le_refl _) (.int .i64 t)).setCell (p := ⟨w.heap.size, 1, none⟩) (Nat.le_refl _) (.slice P n c)).setCell (p := ⟨w.heap.size, 2, none⟩) (Nat.le_refl _) (.slice (some ⟨gS, 0, none⟩) n d))
    have hDD := hD.belowB hp bb
    clear o1 o2 bb hD
    go_wp2_with fail
    exact bodyPost_ret (v := doV t P (some ⟨gS, 0, none⟩) n n c d) (by simp [results, Try.results31, go_sem, *]) rfl ⟨t, ps, (ss.set 0 x), P, (some ⟨gS, 0, none⟩), n, n, c, d, rfl, htI, by omega, hn3, fun s hs => Or.inl (hTX.out s hs), i64_set hSI.out hxI, own_base r1 (Nat.le_of_lt hz1), own_base r2 (Nat.le_of_lt hz1), hDD⟩
  have b2 : (s == 2) = false := by simpa using h2
  by_cases h3 : s = 3
  · subst h3
    obtain ⟨⟨y0, y1, y2⟩, e0, e1, e2⟩ := DB3.three
    obtain ⟨gP, u, rfl, hgP, hu, hcu, hfu⟩ := own_at hoP3 (j := 0) (by omega)
    have hn0 : (0 : Int) < (n : Int) := by omega
    have hn0n : 0 < n := by omega
    clear b0 b1 b2
    go_upto_region 10 with fail
    refine wp_region_upto (S := (fun w' => w'.cell? ⟨q, 1, none⟩ = some (.slice (some ⟨gP, 0, none⟩) n c))) 7 (by kernel_rfl) ?_ ?_
    · exact y1
    obtain ⟨w4, hw4⟩ : ∃ x, w3.drew = x := ⟨_, rfl⟩
    have hbd : Below w3.heap.size w3 w4 := by rw [← hw4]; exact (Below.refl _ _).drew
    have ZB4 := ZB3.below hbd
    have DB4 := DB3.below hbd
    have hoP4 := own_below hoP3 hbd
    have hoS4 := own_below hoS3 hbd
    have hD4 := hD3.below hbd
    rw [hw4]
    intro hHeld
    clear hbd hw4 y0 y1 y2 e0 e1 e2 hcu hfu hu ZB3 DB3 hoP3 hoS3 hD3
    obtain ⟨⟨y0, y1, y2⟩, e0, e1, e2⟩ := DB4.three
    refine upto_take (i := 0) (v := ?v4) rfl (by kernel_rfl) (by kernel_rfl) (by kernel_rfl) (by kernel_rfl) (fun _ _ _ h => h) hHeld ?hy4 (by rfl) ?rest4
    case hy4 => (intro w' hSw; (try dsimp only at hSw); go_simp; (try with_reducible rfl))
    (try simp only [Act.put, List.setIfInBounds_toArray, List.set_cons_zero, List.set_cons_succ])
    refine upto_take (i := 1) (v := ?v5) rfl (by kernel_rfl) (by kernel_rfl) (by kernel_rfl) (by kernel_rfl) (fun _ _ _ h => h) hHeld ?hy5 (by rfl) ?rest5
    case hy5 => (intro w' hSw; (try dsimp only at hSw); go_simp; (try with_reducible rfl))
    (try simp only [Act.put, List.setIfInBounds_toArray, List.set_cons_zero, List.set_cons_succ])
    refine upto_take (i := 2) (v := ?v6) rfl (by kernel_rfl) (by kernel_rfl) (by kernel_rfl) (by kernel_rfl) (fun _ _ _ h => h) hHeld ?hy6 (by rfl) ?rest6
    case hy6 => (intro w' hSw; (try dsimp only at hSw); go_simp; (try with_reducible rfl))
    (try simp only [Act.put, List.setIfInBounds_toArray, List.set_cons_zero, List.set_cons_succ])
    refine upto_step (k := 3) (by kernel_rfl) rfl (fun K hK => ?_)
    go_simp
    (go_at_call 32; refine (l1Below_any hD4.1 (by omega)).mono ?_; rintro e w5 ⟨y, rfl, hy, hyI, hd5⟩)
    go_wp2_with fail
    obtain ⟨hy0, hy1⟩ := hy.2 (by omega)
    have hy01 : y = 0 ∨ y = 1 := by omega
    have ZB5 := ZB4.cur hd5.2 hne
    have DB5 := DB4.cur hd5.2 hqp
    have o15 := own_cur hoP4 hd5.2 hp1
    have o25 := own_cur hoS4 hd5.2 hp1
    have hD5 := hD4.next hd5
    clear hy hyI hd5 hy0 hy1
    obtain ⟨⟨k0, k1, k2⟩, k3, k4, k5⟩ := DB5.three
    obtain ⟨u5, hu5, hcu5, hfu5⟩ := own_at_ o15 (j := 0) (by omega)
    refine hK.out _ _ ?_ ?_
    · (intro _; exact k1)
    clear hK K
    (try simp only [Act.put, List.setIfInBounds_toArray, List.set_cons_zero, List.set_cons_succ])
    rcases hy01 with rfl | rfl
    · refine upto_step (k := 4) (by kernel_rfl) rfl (fun K hK => ?_)
      go_simp
      (try rw [if_pos hn0n])
      (try go_simp)
      refine hK.out _ _ ?_ ?_
      · (intro _; exact k1)
      clear hK K
      (try simp only [Act.put, List.setIfInBounds_toArray, List.set_cons_zero, List.set_cons_succ])
      refine upto_step (k := 5) (by kernel_rfl) rfl (fun K hK => ?_)
      go_simp
      (try rw [if_pos hn0n])
      (try go_simp)
      refine hK.out _ _ ?_ ?_
      · (intro _; exact k1)
      clear hK K
      (try simp only [Act.put, List.setIfInBounds_toArray, List.set_cons_zero, List.set_cons_succ])
      refine upto_step (k := 6) (by kernel_rfl) rfl (fun K hK => ?_)
      go_simp
      (try rw [if_pos hn0n])
      (try go_simp)
      refine hK.out _ _ ?_ ?_
      · (intro _; exact k1)
      clear hK K
      (try simp only [Act.put, List.setIfInBounds_toArray, List.set_cons_zero, List.set_cons_succ])
      refine upto_step (k := 7) (by kernel_rfl) rfl (fun K hK => ?_)
      go_simp
      (try rw [if_pos hn0n])
      (try go_simp)
      refine hK.out _ _ ?_ ?_
      · (intro h; exact absurd rfl h)
      clear hK K
      (try simp only [Act.put, List.setIfInBounds_toArray, List.set_cons_zero, List.set_cons_succ])
      refine upto_done (by kernel_rfl) ?_ _
      obtain ⟨x, hx⟩ : ∃ x, (⟨(48 :: 49 :: 50 :: 51 :: 52 :: 53 :: 54 :: 55 :: 56 :: 57 :: 48 :: 49 :: 50 :: 51 :: 52 :: 53 :: 54 :: 55 :: 56 :: 57 :: 48 :: 49 :: 50 :: 51 :: 52 :: 53 :: 54 :: 55 :: 56 :: 57 :: 48 :: 49 :: 50 :: 51 :: 52 :: 53 :: 54 :: 55 :: 56 :: 57 :: 48 :: []).toArray⟩ : ByteArray).extract 0 (IntKind.i64.wrap 40).toNat = x := ⟨_, rfl⟩
      have hxs : 40 ≤ x.size ∧ x.size ≤ 41 := by rw [← hx, ByteArray.size_extract]; decide
      rw [hx]
      clear hx
      have ZBV := ZB5.other (g := gP) (j := 0) (u := .string x) (by have := HLP.out gP rfl; omega)
      have DBV := DB5.other (g := gP) (j := 0) (u := .string x) (by have := HLP.out gP rfl; omega)
      have o2 := own_notin o25 (fun h => HAP.out gP rfl h) 0 (.string x)
      have o1 := (own_set o15 0 (.string x)).1
      rw [sts_set_] at o1
      have hD := hD5.belowB hp ((Below.refl w.heap.size w5).setCell (p := ⟨gP, 0, none⟩) (by have := HLP.out gP rfl; show w.heap.size ≤ gP; omega) (.string x))
      go_upto_region 11 with fail
      obtain ⟨V, hV⟩ : ∃ V, w5.setCell ⟨gP, 0, none⟩ (.string x) = V := ⟨_, rfl⟩
      rw [hV] at ZBV DBV o1 o2 hD ⊢
      have hOK := hide (show ∀ s ∈ ps.set 0 x, OkP s from okp_set (fun s hs => Or.inl (hTX.out s hs)) (Or.inr (Or.inr hxs)))
      clear hV y0 y1 y2 e0 e1 e2 k0 k1 k2 k3 k4 k5 hcu5 hfu5 hu5 ZB5 DB5 o15 o25 hD5 ZB4 DB4 hoP4 hoS4 hD4
      obtain ⟨⟨z0, z1, z2⟩, f0, f1, f2⟩ := ZBV.three
      obtain ⟨⟨v0, v1, v2⟩, g0, g1, g2⟩ := DBV.three
      have r1 := (own_old (g := w.heap.size) (j := 2) (own_old (g := w.heap.size) (j := 1) (own_old (g := w.heap.size) (j := 0) o1 hz1 (.int .i64 t)) hz1 (.slice (some ⟨gP, 0, none⟩) n c)) hz1 (.slice S n d))
      have r2 := (own_old (g := w.heap.size) (j := 2) (own_old (g := w.heap.size) (j := 1) (own_old (g := w.heap.size) (j := 0) o2 hz1 (.int .i64 t)) hz1 (.slice (some ⟨gP, 0, none⟩) n c)) hz1 (.slice S n d))
      have bb := ((((Below.refl w.heap.size V).setCell (p := ⟨w.heap.size, 0, none⟩) (Nat.le_refl _) (.int .i64 t)).setCell (p := ⟨w.heap.size, 1, none⟩) (Nat.le_refl _) (.slice (some ⟨gP, 0, none⟩) n c)).setCell (p := ⟨w.heap.size, 2, none⟩) (Nat.le_refl _) (.slice S n d))
      have hDD := hD.belowB hp bb
      clear o1 o2 bb hD
      go_wp2_with fail
      exact bodyPost_ret (v := doV t (some ⟨gP, 0, none⟩) S n n c d) (by simp [results, Try.results31, go_sem, *]) rfl ⟨t, (ps.set 0 x), ss, (some ⟨gP, 0, none⟩), S, n, n, c, d, rfl, htI, by omega, hn3, hOK.out, hSI.out, own_base r1 (Nat.le_of_lt hz1), own_base r2 (Nat.le_of_lt hz1), hDD⟩
    · refine upto_step (k := 4) (by kernel_rfl) rfl (fun K hK => ?_)
      go_simp
      (try rw [if_pos hn0n])
      (try go_simp)
      refine hK.out _ _ ?_ ?_
      · (intro _; exact k1)
      clear hK K
      (try simp only [Act.put, List.setIfInBounds_toArray, List.set_cons_zero, List.set_cons_succ])
      refine upto_step (k := 5) (by kernel_rfl) rfl (fun K hK => ?_)
      go_simp
      (try rw [if_pos hn0n])
      (try go_simp)
      refine hK.out _ _ ?_ ?_
      · (intro _; exact k1)
      clear hK K
      (try simp only [Act.put, List.setIfInBounds_toArray, List.set_cons_zero, List.set_cons_succ])
      refine upto_step (k := 6) (by kernel_rfl) rfl (fun K hK => ?_)
      go_simp
      (try rw [if_pos hn0n])
      (try go_simp)
      refine hK.out _ _ ?_ ?_
      · (intro _; exact k1)
      clear hK K
      (try simp only [Act.put, List.setIfInBounds_toArray, List.set_cons_zero, List.set_cons_succ])
      refine upto_step (k := 7) (by kernel_rfl) rfl (fun K hK => ?_)
      go_simp
      (try rw [if_pos hn0n])
      (try go_simp)
      refine hK.out _ _ ?_ ?_
      · (intro h; exact absurd rfl h)
      clear hK K
      (try simp only [Act.put, List.setIfInBounds_toArray, List.set_cons_zero, List.set_cons_succ])
      refine upto_done (by kernel_rfl) ?_ _
      obtain ⟨x, hx⟩ : ∃ x, (⟨(48 :: 49 :: 50 :: 51 :: 52 :: 53 :: 54 :: 55 :: 56 :: 57 :: 48 :: 49 :: 50 :: 51 :: 52 :: 53 :: 54 :: 55 :: 56 :: 57 :: 48 :: 49 :: 50 :: 51 :: 52 :: 53 :: 54 :: 55 :: 56 :: 57 :: 48 :: 49 :: 50 :: 51 :: 52 :: 53 :: 54 :: 55 :: 56 :: 57 :: 48 :: []).toArray⟩ : ByteArray).extract 0 (IntKind.i64.wrap 41).toNat = x := ⟨_, rfl⟩
      have hxs : 40 ≤ x.size ∧ x.size ≤ 41 := by rw [← hx, ByteArray.size_extract]; decide
      rw [hx]
      clear hx
      have ZBV := ZB5.other (g := gP) (j := 0) (u := .string x) (by have := HLP.out gP rfl; omega)
      have DBV := DB5.other (g := gP) (j := 0) (u := .string x) (by have := HLP.out gP rfl; omega)
      have o2 := own_notin o25 (fun h => HAP.out gP rfl h) 0 (.string x)
      have o1 := (own_set o15 0 (.string x)).1
      rw [sts_set_] at o1
      have hD := hD5.belowB hp ((Below.refl w.heap.size w5).setCell (p := ⟨gP, 0, none⟩) (by have := HLP.out gP rfl; show w.heap.size ≤ gP; omega) (.string x))
      go_upto_region 11 with fail
      obtain ⟨V, hV⟩ : ∃ V, w5.setCell ⟨gP, 0, none⟩ (.string x) = V := ⟨_, rfl⟩
      rw [hV] at ZBV DBV o1 o2 hD ⊢
      have hOK := hide (show ∀ s ∈ ps.set 0 x, OkP s from okp_set (fun s hs => Or.inl (hTX.out s hs)) (Or.inr (Or.inr hxs)))
      clear hV y0 y1 y2 e0 e1 e2 k0 k1 k2 k3 k4 k5 hcu5 hfu5 hu5 ZB5 DB5 o15 o25 hD5 ZB4 DB4 hoP4 hoS4 hD4
      obtain ⟨⟨z0, z1, z2⟩, f0, f1, f2⟩ := ZBV.three
      obtain ⟨⟨v0, v1, v2⟩, g0, g1, g2⟩ := DBV.three
      have r1 := (own_old (g := w.heap.size) (j := 2) (own_old (g := w.heap.size) (j := 1) (own_old (g := w.heap.size) (j := 0) o1 hz1 (.int .i64 t)) hz1 (.slice (some ⟨gP, 0, none⟩) n c)) hz1 (.slice S n d))
      have r2 := (own_old (g := w.heap.size) (j := 2) (own_old (g := w.heap.size) (j := 1) (own_old (g := w.heap.size) (j := 0) o2 hz1 (.int .i64 t)) hz1 (.slice (some ⟨gP, 0, none⟩) n c)) hz1 (.slice S n d))
      have bb := ((((Below.refl w.heap.size V).setCell (p := ⟨w.heap.size, 0, none⟩) (Nat.le_refl _) (.int .i64 t)).setCell (p := ⟨w.heap.size, 1, none⟩) (Nat.le_refl _) (.slice (some ⟨gP, 0, none⟩) n c)).setCell (p := ⟨w.heap.size, 2, none⟩) (Nat.le_refl _) (.slice S n d))
      have hDD := hD.belowB hp bb
      clear o1 o2 bb hD
      go_wp2_with fail
      exact bodyPost_ret (v := doV t (some ⟨gP, 0, none⟩) S n n c d) (by simp [results, Try.results31, go_sem, *]) rfl ⟨t, (ps.set 0 x), ss, (some ⟨gP, 0, none⟩), S, n, n, c, d, rfl, htI, by omega, hn3, hOK.out, hSI.out, own_base r1 (Nat.le_of_lt hz1), own_base r2 (Nat.le_of_lt hz1), hDD⟩
  have b3 : (s == 3) = false := by simpa using h3
  go_upto_region 11 with fail
  have ZBV := ZB3
  have DBV := DB3
  have o1 := hoP3
  have o2 := hoS3
  have hD := hD3
  clear ZB3 DB3 hoP3 hoS3 hD3
  obtain ⟨⟨z0, z1, z2⟩, f0, f1, f2⟩ := ZBV.three
  obtain ⟨⟨v0, v1, v2⟩, g0, g1, g2⟩ := DBV.three
  have r1 := (own_old (g := w.heap.size) (j := 2) (own_old (g := w.heap.size) (j := 1) (own_old (g := w.heap.size) (j := 0) o1 hz1 (.int .i64 t)) hz1 (.slice P n c)) hz1 (.slice S n d))
  have r2 := (own_old (g := w.heap.size) (j := 2) (own_old (g := w.heap.size) (j := 1) (own_old (g := w.heap.size) (j := 0) o2 hz1 (.int .i64 t)) hz1 (.slice P n c)) hz1 (.slice S n d))
  have bb := ((((Below.refl w.heap.size w3).setCell (p := ⟨w.heap.size, 0, none⟩) (Nat.le_refl _) (.int .i64 t)).setCell (p := ⟨w.heap.size, 1, none⟩) (Nat.le_refl _) (.slice P n c)).setCell (p := ⟨w.heap.size, 2, none⟩) (Nat.le_refl _) (.slice S n d))
  have hDD := hD.belowB hp bb
  clear o1 o2 bb hD
  go_wp2_with fail
  exact bodyPost_ret (v := doV t P S n n c d) (by simp [results, Try.results31, go_sem, *]) rfl ⟨t, ps, ss, P, S, n, n, c, d, rfl, htI, by omega, hn3, fun s hs => Or.inl (hTX.out s hs), hSI.out, own_base r1 (Nat.le_of_lt hz1), own_base r2 (Nat.le_of_lt hz1), hDD⟩
end Go.Proofs.Ythjdigiaajdnbaa
