/- Contracts of DrawReplacePart and DrawMakeDocument. For codes of at most 2^20 bytes. -/
import Derived.Test.YthjdigiaajdnbaaDr6a
import Derived.Test.YthjdigiaajdnbaaCpy
namespace Go.Proofs.Ythjdigiaajdnbaa
open Go.RowKit Go.WideShapes Go.ChangeShapes Go.Deep
set_option linter.unusedSimpArgs false
set_option linter.unusedVariables false
set_option maxRecDepth 1000000
set_option maxHeartbeats 8000000 in
theorem DrawReplacePart_any {A : Option Addr} {n c : Nat} {l : List Int} {w : World} (h : Rd w 1 A n (u8s l)) (hn : n ≤ 1048576) (hB : ∀ x ∈ l, 0 ≤ x ∧ x ≤ 255) :
    Calls Try.prog 25 #[.slice A n c] w fun e w' => ∃ t ps ss P S k m c2 d i part, e = .returned (.tuple #[doV t P S k m c2 d, .int .i64 i, .string part]) ∧ I64 t ∧ k ≤ 4 ∧ m ≤ 3 ∧ (∀ s ∈ ps, OkP s) ∧ (∀ x ∈ ss, I64 x) ∧ 0 ≤ i ∧ i ≤ 3 ∧ part ∈ TX ∧ w'.ownsRow w.heap.size 9 1 (.slice P k c2) k (sts ps) ∧ w'.ownsRow w.heap.size 3 1 (.slice S m d) m (ints ss) ∧ Below w.heap.size w w' := by
  obtain ⟨W1, hW1⟩ : ∃ W1, w.alloc (.cells #[.int .i64 0, .slice none 0 0, .slice none 0 0] 27) = W1 := ⟨_, rfl⟩
  have ZB0 : Blk W1 w.heap.size [.int .i64 0, .slice none 0 0, .slice none 0 0] := by rw [← hW1]; exact Blk.new _ _ _
  have hb0 : Below w.heap.size w W1 := by rw [← hW1]; exact (Below.refl w.heap.size w).alloc (Nat.le_refl _) _
  have HW1 := hide hW1
  clear hW1
  have hz0 : w.heap.size < W1.heap.size := ZB0.lt
  go_enter Try.func25, Try.ntmps25
  go_wp2_with fail
  rw [HW1.out]
  refine (l1New_any (h.below hb0) hn hB).mono ?_
  rintro e w1 ⟨p, rfl, hp, hC, hb1⟩
  have hz1 := hb1.size
  have hb01 := Below.next_ hb0 hb0.size hb1
  go_wp2_with fail
  refine (l6Any_any hC).mono ?_
  rintro e w2 ⟨t, ps, ss, P, S, k, m, c2, d, rfl, htI, hk, hm, hps, hss, hoP, hoS, hd2⟩
  have HPS := hide hps
  have HSS := hide hss
  clear hps hss
  have hz2 := hd2.2.size
  have hpl := hC.lt
  obtain ⟨q, hq⟩ : ∃ q, w2.heap.size = q := ⟨_, rfl⟩
  have HQ := hide hq
  obtain ⟨W2, hW2⟩ : ∃ W2, w2.alloc (.cells #[.int .i64 t, .slice P k c2, .slice S m d] 27) = W2 := ⟨_, rfl⟩
  have DB : Blk W2 q [.int .i64 t, .slice P k c2, .slice S m d] := by rw [← hW2, ← hq]; exact Blk.new _ _ _
  have hbW2 : Below w2.heap.size w2 W2 := by rw [← hW2]; exact (Below.refl w2.heap.size w2).alloc (Nat.le_refl _) _
  have hoP2 := own_below hoP hbW2
  have hoS2 := own_below hoS hbW2
  have hD2 := hd2.below hbW2
  have hqp : q ≠ p := by omega
  have hwp : w.heap.size ≠ p := by omega
  have hqw : q ≠ w.heap.size := by omega
  have hwq : w.heap.size ≠ q := by omega
  have ZB2 := (((ZB0.below hb1).cur hd2.2 hwp)).below hbW2
  clear ZB0
  have HW2 := hide hW2
  clear hW2 hbW2 hoP hoS hd2 hq
  go_wp2_with fail
  rw [HW2.out, HQ.out]
  clear HW2
  refine (l1Below_any hD2.1 (by omega)).mono ?_
  rintro e w3 ⟨i, rfl, hi, hiI, hd3⟩
  obtain ⟨hi0, hi1⟩ := hi.2 (by omega)
  have ZB3 := ZB2.cur hd3.2 hwp
  have DB3 := DB.cur hd3.2 hqp
  have hoP3 := own_cur hoP2 hd3.2 hpl
  have hoS3 := own_cur hoS2 hd3.2 hpl
  have hD3 := hD2.next hd3
  clear hi hd3 hD2 hoP2 hoS2 DB ZB2
  obtain ⟨⟨y0, y1, y2⟩, e0, e1, e2⟩ := DB3.three
  obtain ⟨⟨z0, z1, z2⟩, f0, f1, f2⟩ := ZB3.three
  go_upto_region 4 with fail
  refine wp_region_upto (S := (fun w' => w'.cell? ⟨q, 0, none⟩ = some (.int .i64 t) ∧ w'.cell? ⟨q, 1, none⟩ = some (.slice P k c2) ∧ w'.cell? ⟨q, 2, none⟩ = some (.slice S m d))) 6 (by kernel_rfl) ?_ ?_
  · exact ⟨y0, y1, y2⟩
  obtain ⟨w4, hw4⟩ : ∃ x, w3.drew = x := ⟨_, rfl⟩
  have hbd : Below w3.heap.size w3 w4 := by rw [← hw4]; exact (Below.refl _ _).drew
  have ZB4 := ZB3.below hbd
  have DB4 := DB3.below hbd
  have hoP4 := own_below hoP3 hbd
  have hoS4 := own_below hoS3 hbd
  have hD4 := hD3.below hbd
  rw [hw4]
  intro hHeld
  clear hbd hw4 y0 y1 y2 e0 e1 e2 z0 z1 z2 f0 f1 f2 ZB3 DB3 hoP3 hoS3 hD3
  obtain ⟨⟨y0, y1, y2⟩, e0, e1, e2⟩ := DB4.three
  obtain ⟨⟨z0, z1, z2⟩, f0, f1, f2⟩ := ZB4.three
  refine upto_take (i := 0) (v := ?v7) rfl (by kernel_rfl) (by kernel_rfl) (by kernel_rfl) (by kernel_rfl) (fun _ _ _ h => h) hHeld ?hy7 (by rfl) ?rest7
  case hy7 => (intro w' hSw; (try dsimp only at hSw); go_simp; (try with_reducible rfl))
  (try simp only [Act.put, List.setIfInBounds_toArray, List.set_cons_zero, List.set_cons_succ])
  refine upto_take (i := 1) (v := ?v8) rfl (by kernel_rfl) (by kernel_rfl) (by kernel_rfl) (by kernel_rfl) (fun _ _ _ h => h) hHeld ?hy8 (by rfl) ?rest8
  case hy8 => (intro w' hSw; (try dsimp only at hSw); go_simp; (try with_reducible rfl))
  (try simp only [Act.put, List.setIfInBounds_toArray, List.set_cons_zero, List.set_cons_succ])
  refine upto_take (i := 2) (v := ?v9) rfl (by kernel_rfl) (by kernel_rfl) (by kernel_rfl) (by kernel_rfl) (fun _ _ _ h => h) hHeld ?hy9 (by rfl) ?rest9
  case hy9 => (intro w' hSw; (try dsimp only at hSw); go_simp; (try with_reducible rfl))
  (try simp only [Act.put, List.setIfInBounds_toArray, List.set_cons_zero, List.set_cons_succ])
  refine upto_step (k := 3) (by kernel_rfl) rfl (fun K hK => ?_)
  go_simp
  (go_at_call 58; refine (l6Text_any hD4.1).mono ?_; rintro e w5 ⟨part, rfl, hpt, hd5⟩)
  go_wp2_with fail
  have HPT := hide hpt
  have ZB5 := ZB4.cur hd5.2 hwp
  have DB5 := DB4.cur hd5.2 hqp
  have hoP5 := own_cur hoP4 hd5.2 hpl
  have hoS5 := own_cur hoS4 hd5.2 hpl
  have hD5 := hD4.next hd5
  clear hpt hd5 hD4 hoP4 hoS4 ZB4 DB4 y0 y1 y2 e0 e1 e2 z0 z1 z2 f0 f1 f2
  obtain ⟨⟨y0, y1, y2⟩, e0, e1, e2⟩ := DB5.three
  obtain ⟨⟨z0, z1, z2⟩, f0, f1, f2⟩ := ZB5.three
  refine hK.out _ _ ?_ ?_
  · (intro _; exact ⟨y0, y1, y2⟩)
  clear hK K
  (try simp only [Act.put, List.setIfInBounds_toArray, List.set_cons_zero, List.set_cons_succ])
  refine upto_step (k := 4) (by kernel_rfl) rfl (fun K hK => ?_)
  go_simp
  refine hK.out _ _ ?_ ?_
  · (intro _; exact (((DB5.other (g := w.heap.size) (j := 0) (u := .int .i64 t) hwq).other (g := w.heap.size) (j := 1) (u := .slice P k c2) hwq).other (g := w.heap.size) (j := 2) (u := .slice S m d) hwq).three.1)
  clear hK K
  (try simp only [Act.put, List.setIfInBounds_toArray, List.set_cons_zero, List.set_cons_succ])
  refine upto_step (k := 5) (by kernel_rfl) rfl (fun K hK => ?_)
  go_simp
  refine hK.out _ _ ?_ ?_
  · (intro _; exact (((DB5.other (g := w.heap.size) (j := 0) (u := .int .i64 t) hwq).other (g := w.heap.size) (j := 1) (u := .slice P k c2) hwq).other (g := w.heap.size) (j := 2) (u := .slice S m d) hwq).three.1)
  clear hK K
  (try simp only [Act.put, List.setIfInBounds_toArray, List.set_cons_zero, List.set_cons_succ])
  refine upto_step (k := 6) (by kernel_rfl) rfl (fun K hK => ?_)
  go_simp
  refine hK.out _ _ ?_ ?_
  · (intro h; exact absurd rfl h)
  clear hK K
  (try simp only [Act.put, List.setIfInBounds_toArray, List.set_cons_zero, List.set_cons_succ])
  refine upto_done (by kernel_rfl) ?_ _
  have bb := ((((Below.refl w.heap.size w5).setCell (p := ⟨w.heap.size, 0, none⟩) (Nat.le_refl _) (.int .i64 t)).setCell (p := ⟨w.heap.size, 1, none⟩) (Nat.le_refl _) (.slice P k c2)).setCell (p := ⟨w.heap.size, 2, none⟩) (Nat.le_refl _) (.slice S m d))
  have r1 := (own_old (g := w.heap.size) (j := 2) (own_old (g := w.heap.size) (j := 1) (own_old (g := w.heap.size) (j := 0) hoP5 (by omega) (.int .i64 t)) (by omega) (.slice P k c2)) (by omega) (.slice S m d))
  have r2 := (own_old (g := w.heap.size) (j := 2) (own_old (g := w.heap.size) (j := 1) (own_old (g := w.heap.size) (j := 0) hoS5 (by omega) (.int .i64 t)) (by omega) (.slice P k c2)) (by omega) (.slice S m d))
  have hDD := (Below.cur hb01 hD5.2 hb01.size (by omega)).trans bb
  have hb51 : w.heap.size ≤ w1.heap.size := hb01.size
  clear hoP5 hoS5 bb hD5
  go_wp2_with fail
  exact bodyPost_ret (v := .tuple #[doV t P S k m c2 d, .int .i64 i, .string part]) (by simp [results, Try.results25, go_sem, *]) rfl ⟨t, ps, ss, P, S, k, m, c2, d, i, part, rfl, htI, hk, hm, HPS.out, HSS.out, hi0, by omega, HPT.out, own_base r1 hb51, own_base r2 hb51, hDD⟩
set_option maxHeartbeats 8000000 in
theorem DrawMakeDocument_any {A : Option Addr} {n c : Nat} {l : List Int} {w : World} (h : Rd w 1 A n (u8s l)) (hn : n ≤ 1048576) (hB : ∀ x ∈ l, 0 ≤ x ∧ x ≤ 255) :
    Calls Try.prog 27 #[.slice A n c] w fun e w' => ∃ t P k c2 ps seed, e = .returned (.tuple #[.int .i64 t, .slice P k c2, .int .i64 seed]) ∧ I64 t ∧ k ≤ 4 ∧ (∀ s ∈ ps, OkP s) ∧ I64 seed ∧ w'.ownsRow w.heap.size 9 1 (.slice P k c2) k (sts ps) ∧ Below w.heap.size w w' := by
  obtain ⟨iString, hiString, hzString0, hzString1, hzString2⟩ := info_parts String_info
  obtain ⟨W1, hW1⟩ : ∃ W1, w = W1 := ⟨_, rfl⟩
  have hb0 : Below w.heap.size w W1 := by rw [← hW1]; exact Below.refl _ _
  have hz0 : w.heap.size ≤ W1.heap.size := hb0.size
  have HW1 := hide hW1
  clear hW1
  go_enter Try.func27, Try.ntmps27
  go_wp2_with fail
  rw [HW1.out]
  refine (l1New_any (h.below hb0) hn hB).mono ?_
  rintro e w1 ⟨p, rfl, hp, hC, hb1⟩
  have hz1 := hb1.size
  have hb01 := Below.next_ hb0 hb0.size hb1
  go_wp2_with fail
  refine (l6Any_any hC).mono ?_
  rintro e w2 ⟨t, ps, ss, P, S, k, m, c2, d, rfl, htI, hk, hm, hps, hss, hoP, hoS, hd2⟩
  have HPS := hide hps
  have HSS := hide hss
  clear hps hss
  have hz2 := hd2.2.size
  have hpl := hC.lt
  obtain ⟨q, hq⟩ : ∃ q, w2.heap.size = q := ⟨_, rfl⟩
  have HQ := hide hq
  obtain ⟨W2, hW2⟩ : ∃ W2, w2.alloc (.cells #[.int .i64 t, .slice P k c2, .slice S m d] 27) = W2 := ⟨_, rfl⟩
  have DB : Blk W2 q [.int .i64 t, .slice P k c2, .slice S m d] := by rw [← hW2, ← hq]; exact Blk.new _ _ _
  have hbW2 : Below w2.heap.size w2 W2 := by rw [← hW2]; exact (Below.refl w2.heap.size w2).alloc (Nat.le_refl _) _
  have hoP2 := own_below hoP hbW2
  have hoS2 := own_below hoS hbW2
  have hD2 := hd2.below hbW2
  have hqp : q ≠ p := by omega
  have HW2 := hide hW2
  clear hW2 hbW2 hoP hoS hd2 hq
  obtain ⟨⟨y0, y1, y2⟩, e0, e1, e2⟩ := DB.three
  go_upto_region 3 with fail
  rw [HW2.out, HQ.out]
  clear HW2
  refine wp_region_upto (S := (fun w' => w'.cell? ⟨q, 0, none⟩ = some (.int .i64 t) ∧ w'.cell? ⟨q, 1, none⟩ = some (.slice P k c2))) 11 (by kernel_rfl) ?_ ?_
  · exact ⟨y0, y1⟩
  obtain ⟨w4, hw4⟩ : ∃ x, W2.drew = x := ⟨_, rfl⟩
  have BB4 : Below W2.heap.size W2 w4 := by rw [← hw4]; exact (Below.refl _ _).drew
  rw [hw4]
  intro hHeld
  clear hw4
  refine upto_take (i := 0) (v := ?v10) rfl (by kernel_rfl) (by kernel_rfl) (by kernel_rfl) (by kernel_rfl) (fun _ _ _ h => h) hHeld ?hy10 (by rfl) ?rest10
  case hy10 => (intro w' hSw; (try dsimp only at hSw); go_simp; (try with_reducible rfl))
  (try simp only [Act.put, List.setIfInBounds_toArray, List.set_cons_zero, List.set_cons_succ])
  refine upto_take (i := 1) (v := ?v11) rfl (by kernel_rfl) (by kernel_rfl) (by kernel_rfl) (by kernel_rfl) (fun _ _ _ h => h) hHeld ?hy11 (by rfl) ?rest11
  case hy11 => (intro w' hSw; (try dsimp only at hSw); go_simp; (try with_reducible rfl))
  (try simp only [Act.put, List.setIfInBounds_toArray, List.set_cons_zero, List.set_cons_succ])
  refine upto_take (i := 3) (v := ?v12) rfl (by kernel_rfl) (by kernel_rfl) (by kernel_rfl) (by kernel_rfl) (fun _ _ _ h => h) hHeld ?hy12 (by rfl) ?rest12
  case hy12 => (intro w' hSw; (try dsimp only at hSw); go_simp; (try with_reducible rfl))
  (try simp only [Act.put, List.setIfInBounds_toArray, List.set_cons_zero, List.set_cons_succ])
  refine upto_take (i := 4) (v := ?v13) rfl (by kernel_rfl) (by kernel_rfl) (by kernel_rfl) (by kernel_rfl) (fun _ _ _ h => h) hHeld ?hy13 (by rfl) ?rest13
  case hy13 => (intro w' hSw; (try dsimp only at hSw); go_simp; (try with_reducible rfl))
  (try simp only [Act.put, List.setIfInBounds_toArray, List.set_cons_zero, List.set_cons_succ])
  refine upto_take (i := 6) (v := ?v14) rfl (by kernel_rfl) (by kernel_rfl) (by kernel_rfl) (by kernel_rfl) (fun _ _ _ h => h) hHeld ?hy14 (by rfl) ?rest14
  case hy14 => (intro w' hSw; (try dsimp only at hSw); go_simp; (try with_reducible rfl))
  (try simp only [Act.put, List.setIfInBounds_toArray, List.set_cons_zero, List.set_cons_succ])
  refine upto_step2 (k1 := 2) (k2 := 7) (by kernel_rfl) rfl rfl (fun K hK => ?_) (fun K hK => ?_)
  · go_simp
    obtain ⟨w5, hw5⟩ : ∃ x, w4.alloc (.cells #[] 9) = x := ⟨_, rfl⟩
    have hbb5 : Below w4.heap.size w4 w5 := by rw [← hw5]; exact (Below.refl _ _).alloc (Nat.le_refl _) _
    have hlt5 : w4.heap.size < w5.heap.size := by rw [← hw5]; simp
    have hl : w5.ownsRow w4.heap.size 9 1 (.slice (some ⟨w4.heap.size, 0, none⟩) 0 0) 0 ([]) := by rw [← hw5]; exact World.ownsRow_lit (base := w4.heap.size) (e := 9) (size := 1) w4 #[] 0 (Nat.le_refl _) (by unfold maxLen; omega) rfl
    rw [hw5]
    clear hw5
    have BB5 := Below.next_ BB4 BB4.size hbb5
    refine hK.out _ _ ?_ ?_
    · (intro _; exact keep2 (W := W2) BB5 y0 y1)
    clear hK K
    (try simp only [Act.put, List.setIfInBounds_toArray, List.set_cons_zero, List.set_cons_succ])
    refine upto_step2 (k1 := 5) (k2 := 7) (by kernel_rfl) rfl rfl (fun K hK => ?_) (fun K hK => ?_)
    · refine step_app2 (B := W2.heap.size) (w0 := W2) _ rfl (.tmp 13) (.tmp 15) 25 rfl 9 iString (.string ByteArray.empty) 1 16 Try.underlying25 hiString hzString0 hzString1 hzString2 rfl (by omega) rfl hl rfl ((Rd.of_own hoP2).below BB5) (sts_one _) (by unfold maxLen; omega) (by omega) (Nat.zero_add _) (List.nil_append _) BB5 BB5.size BB4.size (by have h1 := hl.lt w4.heap.size rfl; omega) ?_
      intro A5 c5 w6 ho5 BB6 hg5 hat5
      refine hK.out _ _ ?_ ?_
      · (intro _; exact keep2 (W := W2) BB6 y0 y1)
      clear hK K
      (try simp only [Act.put, List.setIfInBounds_toArray, List.set_cons_zero, List.set_cons_succ])
      refine upto_step (k := 7) (by kernel_rfl) rfl (fun K hK => ?_)
      go_simp
      obtain ⟨w7, hw7⟩ : ∃ x, w6.alloc (.cells #[.int .i64 (11), .int .i64 (12), .int .i64 (0)] 3) = x := ⟨_, rfl⟩
      have hbb7 : Below w6.heap.size w6 w7 := by rw [← hw7]; exact (Below.refl _ _).alloc (Nat.le_refl _) _
      have hlt7 : w6.heap.size < w7.heap.size := by rw [← hw7]; simp
      have hL : w7.ownsRow w6.heap.size 3 1 (.slice (some ⟨w6.heap.size, 0, none⟩) 3 3) 3 (ints [11, 12, 0]) := by rw [← hw7]; exact World.ownsRow_lit (base := w6.heap.size) (e := 3) (size := 1) w6 #[.int .i64 (11), .int .i64 (12), .int .i64 (0)] 3 (Nat.le_refl _) (by unfold maxLen; omega) rfl
      rw [hw7]
      clear hw7
      have BB7 := Below.next_ BB6 BB6.size hbb7
      replace ho5 := own_below ho5 hbb7
      refine hK.out _ _ ?_ ?_
      · (intro _; exact keep2 (W := W2) BB7 y0 y1)
      clear hK K
      (try simp only [Act.put, List.setIfInBounds_toArray, List.set_cons_zero, List.set_cons_succ])
      refine upto_step (k := 8) (by kernel_rfl) rfl (fun K hK => ?_)
      go_simp
      (go_at_call 60; refine (l1Int_any (l := [11, 12, 0]) (hD2.1.below BB7) (Rd.of_own hL) (fun a e => by injection e with e; subst e; show w6.heap.size ≠ p; have h1 := BB6.size; have h2 := hD2.2.size; omega) (by omega) (by omega)).mono ?_; rintro e w8 ⟨seed, rfl, hseed, hd8⟩)
      go_wp2_with fail
      have hsI : I64 seed := by simp at hseed; unfold I64; omega
      have hp8 : p < w4.heap.size := by have h1 := BB4.size; have h2 := hD2.2.size; omega
      have ho8 := own_cur ho5 hd8.2 hp8
      have hD8 := (hD2.below BB7).next hd8
      have DB8 := (DB.below BB7).cur hd8.2 hqp
      have hbase8 : w.heap.size ≤ w4.heap.size := by have h1 := BB4.size; have h2 := hD2.2.size; have h3 := hb01.size; omega
      refine hK.out _ _ ?_ ?_
      · (intro _; exact ⟨DB8.three.1.1, DB8.three.1.2.1⟩)
      clear hK K
      (try simp only [Act.put, List.setIfInBounds_toArray, List.set_cons_zero, List.set_cons_succ])
      refine upto_step (k := 9) (by kernel_rfl) rfl (fun K hK => ?_)
      go_simp
      refine hK.out _ _ ?_ ?_
      · (intro _; exact ⟨DB8.three.1.1, DB8.three.1.2.1⟩)
      clear hK K
      (try simp only [Act.put, List.setIfInBounds_toArray, List.set_cons_zero, List.set_cons_succ])
      refine upto_step (k := 10) (by kernel_rfl) rfl (fun K hK => ?_)
      go_simp
      refine hK.out _ _ ?_ ?_
      · (intro _; exact ⟨DB8.three.1.1, DB8.three.1.2.1⟩)
      clear hK K
      (try simp only [Act.put, List.setIfInBounds_toArray, List.set_cons_zero, List.set_cons_succ])
      refine upto_step (k := 11) (by kernel_rfl) rfl (fun K hK => ?_)
      go_simp
      refine hK.out _ _ ?_ ?_
      · (intro h; exact absurd rfl h)
      clear hK K
      (try simp only [Act.put, List.setIfInBounds_toArray, List.set_cons_zero, List.set_cons_succ])
      refine upto_done (by kernel_rfl) ?_ _
      go_wp2_with fail
      have hDD := Below.cur hb01 hD8.2 hb01.size (by omega)
      exact bodyPost_ret (v := .tuple #[.int .i64 t, .slice A5 k c5, .int .i64 seed]) (by simp [results, Try.results27, go_sem, *]) rfl ⟨t, A5, k, c5, ps, seed, rfl, htI, hk, HPS.out, hsI, own_base ho8 hbase8, hDD⟩
    · go_simp
      obtain ⟨w9, hw9⟩ : ∃ x, w5.alloc (.cells #[.int .i64 (11), .int .i64 (12), .int .i64 (0)] 3) = x := ⟨_, rfl⟩
      have hbb9 : Below w5.heap.size w5 w9 := by rw [← hw9]; exact (Below.refl _ _).alloc (Nat.le_refl _) _
      have hlt9 : w5.heap.size < w9.heap.size := by rw [← hw9]; simp
      have hL : w9.ownsRow w5.heap.size 3 1 (.slice (some ⟨w5.heap.size, 0, none⟩) 3 3) 3 (ints [11, 12, 0]) := by rw [← hw9]; exact World.ownsRow_lit (base := w5.heap.size) (e := 3) (size := 1) w5 #[.int .i64 (11), .int .i64 (12), .int .i64 (0)] 3 (Nat.le_refl _) (by unfold maxLen; omega) rfl
      rw [hw9]
      clear hw9
      have BB9 := Below.next_ BB5 BB5.size hbb9
      replace hl := own_below hl hbb9
      refine hK.out _ _ ?_ ?_
      · (intro _; exact keep2 (W := W2) BB9 y0 y1)
      clear hK K
      (try simp only [Act.put, List.setIfInBounds_toArray, List.set_cons_zero, List.set_cons_succ])
      refine upto_step (k := 5) (by kernel_rfl) rfl (fun K hK => ?_)
      refine step_app2 (B := W2.heap.size) (w0 := W2) _ rfl (.tmp 13) (.tmp 15) 25 rfl 9 iString (.string ByteArray.empty) 1 16 Try.underlying25 hiString hzString0 hzString1 hzString2 rfl (by omega) rfl hl rfl ((Rd.of_own hoP2).below BB9) (sts_one _) (by unfold maxLen; omega) (by omega) (Nat.zero_add _) (List.nil_append _) BB9 BB9.size BB4.size (by have h1 := hl.lt w4.heap.size rfl; omega) ?_
      intro A5 c5 w10 ho5 BB10 hg5 hat5
      have hL2 := own_kept hL hg5 (fun g hg he => by simp [blk] at hg he; omega)
      replace hL := hL2
      refine hK.out _ _ ?_ ?_
      · (intro _; exact keep2 (W := W2) BB10 y0 y1)
      clear hK K
      (try simp only [Act.put, List.setIfInBounds_toArray, List.set_cons_zero, List.set_cons_succ])
      refine upto_step (k := 8) (by kernel_rfl) rfl (fun K hK => ?_)
      go_simp
      (go_at_call 60; refine (l1Int_any (l := [11, 12, 0]) (hD2.1.below BB10) (Rd.of_own hL) (fun a e => by injection e with e; subst e; show w5.heap.size ≠ p; have h1 := BB5.size; have h2 := hD2.2.size; omega) (by omega) (by omega)).mono ?_; rintro e w11 ⟨seed, rfl, hseed, hd8⟩)
      go_wp2_with fail
      have hsI : I64 seed := by simp at hseed; unfold I64; omega
      have hp8 : p < w4.heap.size := by have h1 := BB4.size; have h2 := hD2.2.size; omega
      have ho8 := own_cur ho5 hd8.2 hp8
      have hD8 := (hD2.below BB10).next hd8
      have DB8 := (DB.below BB10).cur hd8.2 hqp
      have hbase8 : w.heap.size ≤ w4.heap.size := by have h1 := BB4.size; have h2 := hD2.2.size; have h3 := hb01.size; omega
      refine hK.out _ _ ?_ ?_
      · (intro _; exact ⟨DB8.three.1.1, DB8.three.1.2.1⟩)
      clear hK K
      (try simp only [Act.put, List.setIfInBounds_toArray, List.set_cons_zero, List.set_cons_succ])
      refine upto_step (k := 9) (by kernel_rfl) rfl (fun K hK => ?_)
      go_simp
      refine hK.out _ _ ?_ ?_
      · (intro _; exact ⟨DB8.three.1.1, DB8.three.1.2.1⟩)
      clear hK K
      (try simp only [Act.put, List.setIfInBounds_toArray, List.set_cons_zero, List.set_cons_succ])
      refine upto_step (k := 10) (by kernel_rfl) rfl (fun K hK => ?_)
      go_simp
      refine hK.out _ _ ?_ ?_
      · (intro _; exact ⟨DB8.three.1.1, DB8.three.1.2.1⟩)
      clear hK K
      (try simp only [Act.put, List.setIfInBounds_toArray, List.set_cons_zero, List.set_cons_succ])
      refine upto_step (k := 11) (by kernel_rfl) rfl (fun K hK => ?_)
      go_simp
      refine hK.out _ _ ?_ ?_
      · (intro h; exact absurd rfl h)
      clear hK K
      (try simp only [Act.put, List.setIfInBounds_toArray, List.set_cons_zero, List.set_cons_succ])
      refine upto_done (by kernel_rfl) ?_ _
      go_wp2_with fail
      have hDD := Below.cur hb01 hD8.2 hb01.size (by omega)
      exact bodyPost_ret (v := .tuple #[.int .i64 t, .slice A5 k c5, .int .i64 seed]) (by simp [results, Try.results27, go_sem, *]) rfl ⟨t, A5, k, c5, ps, seed, rfl, htI, hk, HPS.out, hsI, own_base ho8 hbase8, hDD⟩
  · go_simp
    obtain ⟨w12, hw12⟩ : ∃ x, w4.alloc (.cells #[.int .i64 (11), .int .i64 (12), .int .i64 (0)] 3) = x := ⟨_, rfl⟩
    have hbb12 : Below w4.heap.size w4 w12 := by rw [← hw12]; exact (Below.refl _ _).alloc (Nat.le_refl _) _
    have hlt12 : w4.heap.size < w12.heap.size := by rw [← hw12]; simp
    have hL : w12.ownsRow w4.heap.size 3 1 (.slice (some ⟨w4.heap.size, 0, none⟩) 3 3) 3 (ints [11, 12, 0]) := by rw [← hw12]; exact World.ownsRow_lit (base := w4.heap.size) (e := 3) (size := 1) w4 #[.int .i64 (11), .int .i64 (12), .int .i64 (0)] 3 (Nat.le_refl _) (by unfold maxLen; omega) rfl
    rw [hw12]
    clear hw12
    have BB12 := Below.next_ BB4 BB4.size hbb12
    refine hK.out _ _ ?_ ?_
    · (intro _; exact keep2 (W := W2) BB12 y0 y1)
    clear hK K
    (try simp only [Act.put, List.setIfInBounds_toArray, List.set_cons_zero, List.set_cons_succ])
    refine upto_step (k := 2) (by kernel_rfl) rfl (fun K hK => ?_)
    go_simp
    obtain ⟨w13, hw13⟩ : ∃ x, w12.alloc (.cells #[] 9) = x := ⟨_, rfl⟩
    have hbb13 : Below w12.heap.size w12 w13 := by rw [← hw13]; exact (Below.refl _ _).alloc (Nat.le_refl _) _
    have hlt13 : w12.heap.size < w13.heap.size := by rw [← hw13]; simp
    have hl : w13.ownsRow w12.heap.size 9 1 (.slice (some ⟨w12.heap.size, 0, none⟩) 0 0) 0 ([]) := by rw [← hw13]; exact World.ownsRow_lit (base := w12.heap.size) (e := 9) (size := 1) w12 #[] 0 (Nat.le_refl _) (by unfold maxLen; omega) rfl
    rw [hw13]
    clear hw13
    have BB13 := Below.next_ BB12 BB12.size hbb13
    replace hL := own_below hL hbb13
    refine hK.out _ _ ?_ ?_
    · (intro _; exact keep2 (W := W2) BB13 y0 y1)
    clear hK K
    (try simp only [Act.put, List.setIfInBounds_toArray, List.set_cons_zero, List.set_cons_succ])
    refine upto_step (k := 5) (by kernel_rfl) rfl (fun K hK => ?_)
    refine step_app2 (B := W2.heap.size) (w0 := W2) _ rfl (.tmp 13) (.tmp 15) 25 rfl 9 iString (.string ByteArray.empty) 1 16 Try.underlying25 hiString hzString0 hzString1 hzString2 rfl (by omega) rfl hl rfl ((Rd.of_own hoP2).below BB13) (sts_one _) (by unfold maxLen; omega) (by omega) (Nat.zero_add _) (List.nil_append _) BB13 BB13.size BB12.size (by have h1 := hl.lt w12.heap.size rfl; omega) ?_
    intro A5 c5 w14 ho5 BB14 hg5 hat5
    have hL2 := own_kept hL hg5 (fun g hg he => by simp [blk] at hg he; omega)
    replace hL := hL2
    refine hK.out _ _ ?_ ?_
    · (intro _; exact keep2 (W := W2) BB14 y0 y1)
    clear hK K
    (try simp only [Act.put, List.setIfInBounds_toArray, List.set_cons_zero, List.set_cons_succ])
    refine upto_step (k := 8) (by kernel_rfl) rfl (fun K hK => ?_)
    go_simp
    (go_at_call 60; refine (l1Int_any (l := [11, 12, 0]) (hD2.1.below BB14) (Rd.of_own hL) (fun a e => by injection e with e; subst e; show w4.heap.size ≠ p; have h1 := BB4.size; have h2 := hD2.2.size; omega) (by omega) (by omega)).mono ?_; rintro e w15 ⟨seed, rfl, hseed, hd8⟩)
    go_wp2_with fail
    have hsI : I64 seed := by simp at hseed; unfold I64; omega
    have hp8 : p < w12.heap.size := by have h1 := BB12.size; have h2 := hD2.2.size; omega
    have ho8 := own_cur ho5 hd8.2 hp8
    have hD8 := (hD2.below BB14).next hd8
    have DB8 := (DB.below BB14).cur hd8.2 hqp
    have hbase8 : w.heap.size ≤ w12.heap.size := by have h1 := BB12.size; have h2 := hD2.2.size; have h3 := hb01.size; omega
    refine hK.out _ _ ?_ ?_
    · (intro _; exact ⟨DB8.three.1.1, DB8.three.1.2.1⟩)
    clear hK K
    (try simp only [Act.put, List.setIfInBounds_toArray, List.set_cons_zero, List.set_cons_succ])
    refine upto_step (k := 9) (by kernel_rfl) rfl (fun K hK => ?_)
    go_simp
    refine hK.out _ _ ?_ ?_
    · (intro _; exact ⟨DB8.three.1.1, DB8.three.1.2.1⟩)
    clear hK K
    (try simp only [Act.put, List.setIfInBounds_toArray, List.set_cons_zero, List.set_cons_succ])
    refine upto_step (k := 10) (by kernel_rfl) rfl (fun K hK => ?_)
    go_simp
    refine hK.out _ _ ?_ ?_
    · (intro _; exact ⟨DB8.three.1.1, DB8.three.1.2.1⟩)
    clear hK K
    (try simp only [Act.put, List.setIfInBounds_toArray, List.set_cons_zero, List.set_cons_succ])
    refine upto_step (k := 11) (by kernel_rfl) rfl (fun K hK => ?_)
    go_simp
    refine hK.out _ _ ?_ ?_
    · (intro h; exact absurd rfl h)
    clear hK K
    (try simp only [Act.put, List.setIfInBounds_toArray, List.set_cons_zero, List.set_cons_succ])
    refine upto_done (by kernel_rfl) ?_ _
    go_wp2_with fail
    have hDD := Below.cur hb01 hD8.2 hb01.size (by omega)
    exact bodyPost_ret (v := .tuple #[.int .i64 t, .slice A5 k c5, .int .i64 seed]) (by simp [results, Try.results27, go_sem, *]) rfl ⟨t, A5, k, c5, ps, seed, rfl, htI, hk, HPS.out, hsI, own_base ho8 hbase8, hDD⟩
end Go.Proofs.Ythjdigiaajdnbaa
