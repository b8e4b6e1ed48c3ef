/- Contracts of copyDocument of the program and of l6Copy of the reference. For rows of at most 2^40 elements. -/
import Derived.Test.YthjdigiaajdnbaaRecX
import Derived.Test.YthjdigiaajdnbaaTail
import Derived.Test.YthjdigiaajdnbaaEnc
import Derived.Test.YthjdigiaajdnbaaDocE
import Derived.Test.YthjdigiaajdnbaaStep
namespace Go.Proofs.Ythjdigiaajdnbaa
open Go.RowKit Go.WideShapes Go.ChangeShapes Go.Deep
set_option linter.unusedSimpArgs false
set_option linter.unusedVariables false
set_option maxRecDepth 1000000
theorem Rows_.empty (w : World) (b k : Nat) : Rows_ w b k [] := ⟨fun i f h => by simp at h, fun i f h => by simp at h, fun i j f g _ h => by simp at h⟩
set_option maxHeartbeats 8000000 in
theorem copyDocument_any {P S : Option Addr} {n m c d : Nat} {t : Int} {ps : List ByteArray} {ss : List Int} {w : World} (h1 : Rd w 1 P n (sts ps)) (h2 : Rd w 1 S m (ints ss)) (hn : n ≤ 1099511627776) (hm : m ≤ 1099511627776) :
    Calls Try.prog 59 #[doV t P S n m c d] w fun e w' => ∃ P' S' c' d', e = .returned (doV t P' S' n m c' d') ∧ w'.ownsRow w.heap.size 9 1 (.slice P' n c') n (sts ps) ∧ w'.ownsRow w.heap.size 3 1 (.slice S' m d') m (ints ss) ∧ (∀ g, blk P' = some g → blk S' ≠ some g) ∧ Below w.heap.size w w' := by
  obtain ⟨iString, hiString, hzString0, hzString1, hzString2⟩ := info_parts String_info
  obtain ⟨iInt, hiInt, hzInt0, hzInt1, hzInt2⟩ := info_parts Int_info
  obtain ⟨W1, hW1⟩ : ∃ W1, (w.alloc (.cells #[.int .i64 t, .slice P n c, .slice S m d] 27)).alloc (.cells #[.int .i64 0, .slice none 0 0, .slice none 0 0] 27) = W1 := ⟨_, rfl⟩
  have PB : Blk W1 w.heap.size [.int .i64 t, .slice P n c, .slice S m d] := by rw [← hW1]; exact (Blk.new _ _ _).alloc _
  have ZB : Blk W1 (w.heap.size + 1) [.int .i64 0, .slice none 0 0, .slice none 0 0] := by rw [← hW1]; exact Blk.new_ _ _ _ (by simp)
  have hb_W1 : Below w.heap.size w W1 := by rw [← hW1]; repeat (first | exact Below.refl _ _ | assumption | refine Below.next_ ?_ ?_ (by assumption) | refine Below.drew ?_ | refine below_drewN ?_ _ | refine Below.alloc ?_ ?_ _ | refine Below.setCell ?_ ?_ _ | omega | (simp <;> omega) | (simp at * <;> omega))
  have hsz : w.heap.size + 1 < W1.heap.size := ZB.lt
  have HW1 := hide hW1
  clear hW1
  have k1 := h1.below hb_W1
  have k2 := h2.below hb_W1
  obtain ⟨⟨p0, p1, p2⟩, p3, p4, p5⟩ := PB.three
  go_enter Try.func59, Try.ntmps59
  go_wp2_with fail
  rw [HW1.out]
  clear HW1
  refine wp_region_upto (S := (fun w' => w'.cell? ⟨w.heap.size, 0, none⟩ = some (.int .i64 t) ∧ w'.cell? ⟨w.heap.size, 1, none⟩ = some (.slice P n c) ∧ w'.cell? ⟨w.heap.size, 2, none⟩ = some (.slice S m d))) 10 (by kernel_rfl) ?_ ?_
  · exact keep3 (W := W1) ((Below.refl _ _).drew) p0 p1 p2
  obtain ⟨w2, hw2⟩ : ∃ x, W1.drew = x := ⟨_, rfl⟩
  have BB2 : Below W1.heap.size W1 w2 := by rw [← hw2]; exact (Below.refl _ _).drew
  rw [hw2]
  intro hHeld
  clear hw2
  refine upto_take (i := 0) (v := ?v1) rfl (by kernel_rfl) (by kernel_rfl) (by kernel_rfl) (by kernel_rfl) (fun _ _ _ h => h) hHeld ?hy1 (by rfl) ?rest1
  case hy1 => (intro w' hSw; (try dsimp only at hSw); go_simp; (try with_reducible rfl))
  (try simp only [Act.put, List.setIfInBounds_toArray, List.set_cons_zero, List.set_cons_succ])
  refine upto_take (i := 1) (v := ?v2) rfl (by kernel_rfl) (by kernel_rfl) (by kernel_rfl) (by kernel_rfl) (fun _ _ _ h => h) hHeld ?hy2 (by rfl) ?rest2
  case hy2 => (intro w' hSw; (try dsimp only at hSw); go_simp; (try with_reducible rfl))
  (try simp only [Act.put, List.setIfInBounds_toArray, List.set_cons_zero, List.set_cons_succ])
  refine upto_take (i := 3) (v := ?v3) rfl (by kernel_rfl) (by kernel_rfl) (by kernel_rfl) (by kernel_rfl) (fun _ _ _ h => h) hHeld ?hy3 (by rfl) ?rest3
  case hy3 => (intro w' hSw; (try dsimp only at hSw); go_simp; (try with_reducible rfl))
  (try simp only [Act.put, List.setIfInBounds_toArray, List.set_cons_zero, List.set_cons_succ])
  refine upto_take (i := 4) (v := ?v4) rfl (by kernel_rfl) (by kernel_rfl) (by kernel_rfl) (by kernel_rfl) (fun _ _ _ h => h) hHeld ?hy4 (by rfl) ?rest4
  case hy4 => (intro w' hSw; (try dsimp only at hSw); go_simp; (try with_reducible rfl))
  (try simp only [Act.put, List.setIfInBounds_toArray, List.set_cons_zero, List.set_cons_succ])
  refine upto_take (i := 6) (v := ?v5) rfl (by kernel_rfl) (by kernel_rfl) (by kernel_rfl) (by kernel_rfl) (fun _ _ _ h => h) hHeld ?hy5 (by rfl) ?rest5
  case hy5 => (intro w' hSw; (try dsimp only at hSw); go_simp; (try with_reducible rfl))
  (try simp only [Act.put, List.setIfInBounds_toArray, List.set_cons_zero, List.set_cons_succ])
  refine upto_take (i := 7) (v := ?v6) rfl (by kernel_rfl) (by kernel_rfl) (by kernel_rfl) (by kernel_rfl) (fun _ _ _ h => h) hHeld ?hy6 (by rfl) ?rest6
  case hy6 => (intro w' hSw; (try dsimp only at hSw); go_simp; (try with_reducible rfl))
  (try simp only [Act.put, List.setIfInBounds_toArray, List.set_cons_zero, List.set_cons_succ])
  clear hHeld
  have RR2 : Rows_ w2 W1.heap.size (w.heap.size + 1) [] := Rows_.empty _ _ _
  refine upto_step (k := 2) (by kernel_rfl) rfl (fun K hK => ?_)
  go_simp
  obtain ⟨w3, hw3⟩ : ∃ x, w2.alloc (.cells #[] 9) = x := ⟨_, rfl⟩
  have hbb3 : Below w2.heap.size w2 w3 := by rw [← hw3]; exact (Below.refl _ _).alloc (Nat.le_refl _) _
  have hl3 : w3.ownsRow w2.heap.size 9 1 (.slice (some ⟨w2.heap.size, 0, none⟩) 0 0) 0 [] := by rw [← hw3]; exact World.ownsRow_lit (base := w2.heap.size) (e := 9) (size := 1) w2 #[] 0 (Nat.le_refl _) (by unfold maxLen; omega) rfl
  rw [hw3]
  clear hw3
  have BB3 := Below.next_ BB2 BB2.size hbb3
  have RR3 := (RR2.below hbb3).push (f := ⟨9, some ⟨w2.heap.size, 0, none⟩, 0, 0, []⟩) (fun i g hg q hq => ((RR2.own i g hg).lt q (by rw [blk_own]; exact hq)).2) (by have := BB2.size; omega) hl3 BB2.size
  simp only [List.nil_append, List.cons_append] at RR3
  refine hK.out _ _ ?_ ?_
  · (intro _; exact keep3 (W := W1) (BB3) p0 p1 p2)
  clear hK K
  (try simp only [Act.put, List.setIfInBounds_toArray, List.set_cons_zero, List.set_cons_succ])
  refine upto_step (k := 5) (by kernel_rfl) rfl (fun K hK => ?_)
  refine step_app2 (B := W1.heap.size) (w0 := W1) _ rfl (.tmp 5) (.tmp 7) 25 rfl 9 iString (.string ByteArray.empty) 1 16 Try.underlying25 hiString hzString0 hzString1 hzString2 rfl (by omega) rfl (RR3.own 0 _ rfl) rfl (k1.below BB3) (sts_one _) (by unfold maxLen; omega) (by omega) (Nat.zero_add _) (List.nil_append _) BB3 BB3.size (Nat.le_refl _) BB3.size ?_
  intro A4 c4 w4 ho4 BB4 hg4 hat4
  have RR4 := RR3.app (i := 0) (by have := BB3.size; omega) rfl (Below.refl _ _) ho4 hg4 hat4
  simp only [List.set_cons_zero, List.set_cons_succ] at RR4
  refine hK.out _ _ ?_ ?_
  · (intro _; exact keep3 (W := W1) (BB4) p0 p1 p2)
  clear hK K
  (try simp only [Act.put, List.setIfInBounds_toArray, List.set_cons_zero, List.set_cons_succ])
  refine upto_step (k := 8) (by kernel_rfl) rfl (fun K hK => ?_)
  go_simp
  (go_at_call 33; refine (copyInts_any (k2.below BB4) hm).mono ?_; rintro e w5 ⟨A5, c5, rfl, ho5, hbb5⟩)
  go_wp2_with fail
  have BB5 := Below.next_ BB4 BB4.size hbb5
  have RR5 := (RR4.below hbb5).push (f := ⟨3, A5, m, c5, ints ss⟩) (fun i g hg q hq => ((RR4.own i g hg).lt q (by rw [blk_own]; exact hq)).2) (by have := BB4.size; omega) ho5 BB4.size
  simp only [List.nil_append, List.cons_append] at RR5
  refine hK.out _ _ ?_ ?_
  · (intro _; exact keep3 (W := W1) (BB5) p0 p1 p2)
  clear hK K
  (try simp only [Act.put, List.setIfInBounds_toArray, List.set_cons_zero, List.set_cons_succ])
  obtain ⟨⟨z0, z1, z2⟩, z3, z4, z5⟩ := (Blk.below ZB BB5).three
  refine upto_step (k := 9) (by kernel_rfl) rfl (fun K hK => ?_)
  go_simp
  refine hK.out _ _ ?_ ?_
  · (intro _; exact keep3 (W := W1) (BB5) p0 p1 p2)
  clear hK K
  (try simp only [Act.put, List.setIfInBounds_toArray, List.set_cons_zero, List.set_cons_succ])
  refine upto_step (k := 10) (by kernel_rfl) rfl (fun K hK => ?_)
  go_simp
  refine hK.out _ _ ?_ ?_
  · (intro h; exact absurd rfl h)
  clear hK K
  (try simp only [Act.put, List.setIfInBounds_toArray, List.set_cons_zero, List.set_cons_succ])
  refine upto_done (by kernel_rfl) ?_ _
  have RF := ((RR5.set (j := 0) (.int .i64 t)).set (j := 1) (.slice A4 n c4)).set (j := 2) (.slice A5 m c5)
  have bb := (((Below.next_ hb_W1 (by omega) BB5).setCell (p := ⟨w.heap.size + 1, 0, none⟩) (by show w.heap.size ≤ w.heap.size + 1; omega) (.int .i64 t)).setCell (p := ⟨w.heap.size + 1, 1, none⟩) (by show w.heap.size ≤ w.heap.size + 1; omega) (.slice A4 n c4)).setCell (p := ⟨w.heap.size + 1, 2, none⟩) (by show w.heap.size ≤ w.heap.size + 1; omega) (.slice A5 m c5)
  go_wp2_with fail
  exact bodyPost_ret (v := doV t A4 A5 n m c4 c5) (by simp [results, Try.results59, go_sem, *]) rfl ⟨A4, A5, c4, c5, rfl, own_base (RF.own 0 _ rfl) (by omega), own_base (RF.own 1 _ rfl) (by omega), RF.ap 0 1 _ _ (by omega) rfl rfl, bb⟩
end Go.Proofs.Ythjdigiaajdnbaa
