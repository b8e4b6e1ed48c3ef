/- Contracts of the laws' own marking of redacted documents, whole. For rows of at most 2^40 elements. -/
import Derived.Test.YtgeffaohdoeclaaMkR
import Derived.Test.YtgeffaohdoeclaaRedE
namespace Go.Proofs.Ytgeffaohdoeclaa
open Go.RowKit Go.WideShapes Go.ChangeShapes Go.Deep
set_option linter.unusedSimpArgs false
set_option linter.unusedVariables false
set_option maxRecDepth 1000000
set_option maxHeartbeats 4000000 in
theorem markRedacted_any {b kx : Nat} {t : Int} {M B P S D : Option Addr} {nm nb np ns nd cm cb cp cs cd : Nat} {k : Int} {x1 x2 x3 x4 : List Value} {rs : List Sr} {ds : List (List Int)} {w : World} (hR : Rows_ w b kx ([⟨3, M, nm, cm, x1⟩, ⟨4, B, nb, cb, x2⟩, ⟨9, P, np, cp, x3⟩, ⟨3, S, ns, cs, x4⟩, ⟨24, D, nd, cd, srs rs⟩] ++ inn rs ds)) (hkx : kx < w.heap.size) (hb : b ≤ w.heap.size) (hl : rs.length = ds.length) (hk0 : 0 ≤ k) (hk : k ≤ 1048576) (h1 : nm ≤ 1099511627776) (h2 : nb ≤ 1099511627776) (h3 : np ≤ 1099511627776) (h4 : ns ≤ 1099511627776) (h5 : nd ≤ 1099511627776) (hs : (lens rs).sum ≤ 4398046511104) :
    Calls Try.prog 33 #[reV t M B P S D nm nb np ns nd cm cb cp cs cd, .int .i64 k] w fun e w' => e = .returned (.int .i64 (k + nm + nb + np + ns + ((lens rs).sum : Nat))) ∧ Rows_ w' b kx ([⟨3, M, nm, cm, ints (mk k nm)⟩, ⟨4, B, nb, cb, bls (mkB (k + nm) nb)⟩, ⟨9, P, np, cp, sts (mkS (k + nm + nb) np)⟩, ⟨3, S, ns, cs, ints (mk (k + nm + nb + np) ns)⟩, ⟨24, D, nd, cd, srs rs⟩] ++ inn rs (mkSS (k + nm + nb + np + ns) (lens rs))) ∧ Below b w w' ∧ SameAt w w' kx := by
  obtain ⟨W1, hW1⟩ : ∃ W1, w.alloc (.cells #[.int .i64 t, .slice M nm cm, .slice B nb cb, .slice P np cp, .slice S ns cs, .slice D nd cd] 33) = W1 := ⟨_, rfl⟩
  have B1 : Blk W1 w.heap.size [.int .i64 t, .slice M nm cm, .slice B nb cb, .slice P np cp, .slice S ns cs, .slice D nd cd] := by rw [← hW1]; exact Blk.new _ _ _
  have hb1 : Below w.heap.size w W1 := by rw [← hW1]; exact (Below.refl _ _).alloc (Nat.le_refl _) _
  have hz1 := hb1.size
  have HW1 := hide hW1
  clear hW1
  have R1 := hR.below hb1
  have s1 : SameAt w W1 kx := hb1.block kx hkx
  have bb1 : Below b w W1 := hb1.mono hb
  have n0 : blk M ≠ some w.heap.size := fun he => by have := ((hR.own 0 _ rfl).lt _ (by rw [blk_own]; exact he)).2; omega
  have n1 : blk B ≠ some w.heap.size := fun he => by have := ((hR.own 1 _ rfl).lt _ (by rw [blk_own]; exact he)).2; omega
  have n2 : blk P ≠ some w.heap.size := fun he => by have := ((hR.own 2 _ rfl).lt _ (by rw [blk_own]; exact he)).2; omega
  have n3 : blk S ≠ some w.heap.size := fun he => by have := ((hR.own 3 _ rfl).lt _ (by rw [blk_own]; exact he)).2; omega
  obtain ⟨⟨a0, a1, a2, a3, a4, a5⟩, a6, a7, a8, a9, a10, a11⟩ := B1.six
  go_enter Try.func33, Try.ntmps33
  go_wp2_with fail
  rw [HW1.out]
  clear HW1
  refine (markIntS_any (R1.own 0 _ rfl) (by dsimp only; omega) (by omega) (by omega)).mono ?_
  rintro e w2 ⟨rfl, o2, g2⟩
  obtain ⟨R2, q2, t2⟩ := R1.mark (i := 0) (by have := bb1.size; omega) (by have := bb1.size; omega) rfl o2 g2
  simp only [List.cons_append, List.set_cons_zero, List.set_cons_succ] at R2
  have bb2 := bb1.trans q2
  have s2 := s1.trans t2
  clear a0 a1 a2 a3 a4 a5 a6 a7 a8 a9 a10 a11
  have B2 := B1.grown g2 n0
  obtain ⟨⟨a0, a1, a2, a3, a4, a5⟩, a6, a7, a8, a9, a10, a11⟩ := B2.six
  have hh2 := hide bb2
  clear o2 g2 q2 t2
  go_wp2_with fail
  refine (markBoolS_any (R2.own 1 _ rfl) (by dsimp only; omega) (by omega) (by omega)).mono ?_
  rintro e w3 ⟨rfl, o3, g3⟩
  obtain ⟨R3, q3, t3⟩ := R2.mark (i := 1) (by have := bb2.size; omega) (by have := bb2.size; omega) rfl o3 g3
  simp only [List.cons_append, List.set_cons_zero, List.set_cons_succ] at R3
  have bb3 := bb2.trans q3
  have s3 := s2.trans t3
  clear a0 a1 a2 a3 a4 a5 a6 a7 a8 a9 a10 a11
  have B3 := B2.grown g3 n1
  obtain ⟨⟨a0, a1, a2, a3, a4, a5⟩, a6, a7, a8, a9, a10, a11⟩ := B3.six
  have hh3 := hide bb3
  clear o3 g3 q3 t3
  go_wp2_with fail
  refine (markStringS_any (R3.own 2 _ rfl) (by dsimp only; omega) (by omega) (by omega)).mono ?_
  rintro e w4 ⟨rfl, o4, g4⟩
  obtain ⟨R4, q4, t4⟩ := R3.mark (i := 2) (by have := bb3.size; omega) (by have := bb3.size; omega) rfl o4 g4
  simp only [List.cons_append, List.set_cons_zero, List.set_cons_succ] at R4
  have bb4 := bb3.trans q4
  have s4 := s3.trans t4
  clear a0 a1 a2 a3 a4 a5 a6 a7 a8 a9 a10 a11
  have B4 := B3.grown g4 n2
  obtain ⟨⟨a0, a1, a2, a3, a4, a5⟩, a6, a7, a8, a9, a10, a11⟩ := B4.six
  have hh4 := hide bb4
  clear o4 g4 q4 t4
  go_wp2_with fail
  refine (markIntS_any (R4.own 3 _ rfl) (by dsimp only; omega) (by omega) (by omega)).mono ?_
  rintro e w5 ⟨rfl, o5, g5⟩
  obtain ⟨R5, q5, t5⟩ := R4.mark (i := 3) (by have := bb4.size; omega) (by have := bb4.size; omega) rfl o5 g5
  simp only [List.cons_append, List.set_cons_zero, List.set_cons_succ] at R5
  have bb5 := bb4.trans q5
  have s5 := s4.trans t5
  clear a0 a1 a2 a3 a4 a5 a6 a7 a8 a9 a10 a11
  have B5 := B4.grown g5 n3
  obtain ⟨⟨a0, a1, a2, a3, a4, a5⟩, a6, a7, a8, a9, a10, a11⟩ := B5.six
  have hh5 := hide bb5
  clear o5 g5 q5 t5
  go_wp2_with fail
  refine (markIntSS_any (pre := [⟨3, M, nm, cm, ints (mk k nm)⟩, ⟨4, B, nb, cb, bls (mkB (k + nm) nb)⟩, ⟨9, P, np, cp, sts (mkS (k + nm + nb) np)⟩, ⟨3, S, ns, cs, ints (mk (k + nm + nb + np) ns)⟩, ⟨24, D, nd, cd, srs rs⟩]) (q := 4) R5 (by have := bb5.size; omega) (by have := bb5.size; omega) rfl hl (by omega) (by omega) hs h5).mono ?_
  rintro e w6 ⟨rfl, R6, q6, t6⟩
  have bb6 := bb5.trans q6
  have s6 := s5.trans t6
  go_wp2_with fail
  go_ret
  exact ⟨rfl, R6, bb6, s6⟩
set_option maxHeartbeats 4000000 in
theorem heldRedacted_any {t : Int} {M B P S D : Option Addr} {nm nb np ns nd cm cb cp cs cd : Nat} {k : Int} {ls : List Nat} {w : World} (h : RdR w M B P S D nm nb np ns nd (mk k nm) (mkB (k + nm) nb) (mkS (k + nm + nb) np) (mk (k + nm + nb + np) ns) (mkSS (k + nm + nb + np + ns) ls)) (hk0 : 0 ≤ k) (hk : k ≤ 1048576) (h1 : nm ≤ 1099511627776) (h2 : nb ≤ 1099511627776) (h3 : np ≤ 1099511627776) (h4 : ns ≤ 1099511627776) (h5 : nd ≤ 1099511627776) (hs : ls.sum ≤ 4398046511104) :
    Calls Try.prog 34 #[reV t M B P S D nm nb np ns nd cm cb cp cs cd, .int .i64 k] w fun e w' => e = .returned (.int .i64 (k + nm + nb + np + ns + (ls.sum : Nat))) ∧ Below w.heap.size w w' := by
  obtain ⟨W1, hW1⟩ : ∃ W1, w.alloc (.cells #[.int .i64 t, .slice M nm cm, .slice B nb cb, .slice P np cp, .slice S ns cs, .slice D nd cd] 33) = W1 := ⟨_, rfl⟩
  have B1 : Blk W1 w.heap.size [.int .i64 t, .slice M nm cm, .slice B nb cb, .slice P np cp, .slice S ns cs, .slice D nd cd] := by rw [← hW1]; exact Blk.new _ _ _
  have hb1 : Below w.heap.size w W1 := by rw [← hW1]; exact (Below.refl _ _).alloc (Nat.le_refl _) _
  have hz1 := hb1.size
  have HW1 := hide hW1
  clear hW1
  have hk1 : ¬ k + (nm : Int) < 0 := by omega
  have hk2 : ¬ k + (nm : Int) + (nb : Int) < 0 := by omega
  have hk3 : ¬ k + (nm : Int) + (nb : Int) + (np : Int) < 0 := by omega
  have hk4 : ¬ k + (nm : Int) + (nb : Int) + (np : Int) + (ns : Int) < 0 := by omega
  have hk5 : ¬ k + (nm : Int) + (nb : Int) + (np : Int) + (ns : Int) + (ls.sum : Nat) < 0 := by omega
  have hr := h.below hb1
  obtain ⟨⟨a0, a1, a2, a3, a4, a5⟩, a6, a7, a8, a9, a10, a11⟩ := B1.six
  go_enter Try.func34, Try.ntmps34
  go_wp2_with fail
  rw [HW1.out]
  clear HW1
  refine (heldIntS_any hr.m (by omega) (by omega) (by omega)).mono ?_
  rintro e _ ⟨rfl, q1, rfl⟩
  go_wp2_with fail
  refine (heldBoolS_any (hr.b.below (by repeat (first | exact Below.refl _ _ | assumption | refine Below.next_ ?_ ?_ (by assumption) | refine Below.drew ?_ | refine below_drewN ?_ _ | refine Below.alloc ?_ ?_ _ | refine Below.setCell ?_ ?_ _ | omega | (dsimp only; omega) | (simp <;> omega) | (simp at * <;> omega)))) (by omega) (by omega) (by omega)).mono ?_
  rintro e _ ⟨rfl, q2, rfl⟩
  go_wp2_with fail
  refine (heldStringS_any (hr.p.below (by repeat (first | exact Below.refl _ _ | assumption | refine Below.next_ ?_ ?_ (by assumption) | refine Below.drew ?_ | refine below_drewN ?_ _ | refine Below.alloc ?_ ?_ _ | refine Below.setCell ?_ ?_ _ | omega | (dsimp only; omega) | (simp <;> omega) | (simp at * <;> omega)))) (by omega) (by omega) (by omega)).mono ?_
  rintro e w4 ⟨rfl, hb4⟩
  have hb14 : Below W1.heap.size W1 w4 := by repeat (first | exact Below.refl _ _ | assumption | refine Below.next_ ?_ ?_ (by assumption) | refine Below.drew ?_ | refine below_drewN ?_ _ | refine Below.alloc ?_ ?_ _ | refine Below.setCell ?_ ?_ _ | omega | (dsimp only; omega) | (simp <;> omega) | (simp at * <;> omega))
  have hz4 := hb14.size
  clear a0 a1 a2 a3 a4 a5 a6 a7 a8 a9 a10 a11
  have B4 := B1.below hb14
  obtain ⟨⟨a0, a1, a2, a3, a4, a5⟩, a6, a7, a8, a9, a10, a11⟩ := B4.six
  go_wp2_with fail
  refine (heldIntS_any (hr.s.below hb14) (by omega) (by omega) (by omega)).mono ?_
  rintro e _ ⟨rfl, q5, rfl⟩
  go_wp2_with fail
  refine (heldIntSS_any (hr.d.below (by repeat (first | exact Below.refl _ _ | assumption | refine Below.next_ ?_ ?_ (by assumption) | refine Below.drew ?_ | refine below_drewN ?_ _ | refine Below.alloc ?_ ?_ _ | refine Below.setCell ?_ ?_ _ | omega | (dsimp only; omega) | (simp <;> omega) | (simp at * <;> omega)))) (by omega) (by omega) hs h5).mono ?_
  rintro e w6 ⟨rfl, hb6⟩
  go_wp2_with fail
  go_ret
  exact ⟨rfl, by repeat (first | exact Below.refl _ _ | assumption | refine Below.next_ ?_ ?_ (by assumption) | refine Below.drew ?_ | refine below_drewN ?_ _ | refine Below.alloc ?_ ?_ _ | refine Below.setCell ?_ ?_ _ | omega | (dsimp only; omega) | (simp <;> omega) | (simp at * <;> omega))⟩
/-- the rows as the readings of a redacted document -/
theorem Rows_.rdr {w : World} {b kx : Nat} {M B P S D : Option Addr} {nm nb np ns nd cm cb cp cs cd : Nat} {ms : List Int} {bs : List Bool} {ps : List ByteArray} {ss : List Int} {rs : List Sr} {ds : List (List Int)} (h : Rows_ w b kx ([⟨3, M, nm, cm, ints ms⟩, ⟨4, B, nb, cb, bls bs⟩, ⟨9, P, np, cp, sts ps⟩, ⟨3, S, ns, cs, ints ss⟩, ⟨24, D, nd, cd, srs rs⟩] ++ inn rs ds)) (hl : rs.length = ds.length) : RdR w M B P S D nm nb np ns nd ms bs ps ss ds :=
  ⟨Rd.of_own (h.own 0 _ rfl), Rd.of_own (h.own 1 _ rfl), Rd.of_own (h.own 2 _ rfl), Rd.of_own (h.own 3 _ rfl), rs, Rd.of_own (h.own 4 _ rfl), hl, fun j r l hr hl2 => Rd.of_own (h.own (5 + j) _ (by rw [List.getElem?_append_right (by simp)]; simp only [List.length_cons, List.length_nil]; rw [show 5 + j - (0 + 1 + 1 + 1 + 1 + 1) = j by omega]; exact inn_at hr hl2))⟩
end Go.Proofs.Ytgeffaohdoeclaa
