/- Contracts of ReplacePart of the program and of the reference. For rows of at most 2^40 elements. -/
import Derived.Test.YthjdigiaajdnbaaCpy
import Derived.Test.YthjdigiaajdnbaaDocI
import Derived.Test.YthjdigiaajdnbaaMarkD
import Derived.Deep.Cut
import Derived.Deep.CutRange
namespace Go.Proofs.Ythjdigiaajdnbaa
open Go.RowKit Go.WideShapes Go.ChangeShapes Go.Deep
set_option linter.unusedSimpArgs false
set_option linter.unusedVariables false
set_option maxRecDepth 1000000
def rpOk (t : Int) (ps : List ByteArray) (ss : List Int) (i : Int) (part : ByteArray) : Bool := inR i 0 ((ps.length : Int) - 1) && isDoc t (ps.set i.toNat part) ss
def rpP (t : Int) (ps : List ByteArray) (ss : List Int) (i : Int) (part : ByteArray) : List ByteArray := if rpOk t ps ss i part = true then ps.set i.toNat part else ps
theorem rpP_len (t : Int) (ps : List ByteArray) (ss : List Int) (i : Int) (part : ByteArray) : (rpP t ps ss i part).length = ps.length := by unfold rpP; split <;> simp
theorem sts_set (ps : List ByteArray) (j : Nat) (x : ByteArray) : (sts ps).set j (.string x) = sts (ps.set j x) := by simp [sts, List.map_set]
def RpOut (w w' : World) (e : Ending) (t : Int) (n m : Nat) (ps : List ByteArray) (ss : List Int) (i : Int) (part : ByteArray) : Prop :=
  ∃ P S c d, e = .returned (.tuple #[doV t P S n m c d, .bool (rpOk t ps ss i part)]) ∧ w'.ownsRow w.heap.size 9 1 (.slice P n c) n (sts (rpP t ps ss i part)) ∧ w'.ownsRow w.heap.size 3 1 (.slice S m d) m (ints ss) ∧ (∀ g, blk P = some g → blk S ≠ some g) ∧ Below w.heap.size w w'
set_option maxHeartbeats 8000000 in
theorem implReplacePart_any {P S : Option Addr} {n m c d : Nat} {t i : Int} {part : ByteArray} {ps : List ByteArray} {ss : List Int} {w : World} (h1 : Rd w 1 P n (sts ps)) (h2 : Rd w 1 S m (ints ss)) (hn : n ≤ 1099511627776) (hm : m ≤ 1099511627776) :
    Calls Try.prog 26 #[doV t P S n m c d, .int .i64 i, .string part] w fun e w' => RpOut w w' e t n m ps ss i part := by
  obtain ⟨W1, hW1⟩ : ∃ W1, (w.alloc (.cells #[.int .i64 t, .slice P n c, .slice S m d] 27)).alloc (.cells #[.int .i64 0, .slice none 0 0, .slice none 0 0] 27) = W1 := ⟨_, rfl⟩
  have PB : Blk W1 w.heap.size [.int .i64 t, .slice P n c, .slice S m d] := by rw [← hW1]; exact (Blk.new _ _ _).alloc _
  have ZB : Blk W1 (w.heap.size + 1) [.int .i64 0, .slice none 0 0, .slice none 0 0] := by rw [← hW1]; exact Blk.new_ _ _ _ (by simp)
  have hb_W1 : Below w.heap.size w W1 := by rw [← hW1]; repeat (first | exact Below.refl _ _ | assumption | refine Below.next_ ?_ ?_ (by assumption) | refine Below.drew ?_ | refine below_drewN ?_ _ | refine Below.alloc ?_ ?_ _ | refine Below.setCell ?_ ?_ _ | omega | (simp <;> omega) | (simp at * <;> omega))
  have hrb : w.heap.size + 1 < W1.heap.size := ZB.lt
  have HW1 := hide hW1
  clear hW1
  have k1 := h1.below hb_W1
  have k2 := h2.below hb_W1
  have HL := hide k1.maplen
  obtain ⟨⟨p0, p1, p2⟩, p3, p4, p5⟩ := PB.three
  obtain ⟨⟨z0, z1, z2⟩, z3, z4, z5⟩ := ZB.three
  go_enter Try.func26, Try.ntmps26
  go_wp2_with fail
  rw [HW1.out]
  clear HW1
  refine (copyDocument_any k1 k2 hn hm).mono ?_
  rintro e w2 ⟨P2, S2, c2, d2, rfl, hp2, hs2, hap, hb2⟩
  have hz2 := hb2.size
  obtain ⟨W3, hW3⟩ : ∃ W3, w2.alloc (.cells #[.int .i64 t, .slice P2 n c2, .slice S2 m d2] 27) = W3 := ⟨_, rfl⟩
  have OB : Blk W3 w2.heap.size [.int .i64 t, .slice P2 n c2, .slice S2 m d2] := by rw [← hW3]; exact Blk.new _ _ _
  have hb3 : Below w2.heap.size w2 W3 := by rw [← hW3]; exact (Below.refl _ _).alloc (Nat.le_refl _) _
  have hp3 := own_below hp2 hb3
  have hs3 := own_below hs2 hb3
  have hb13 : Below W1.heap.size W1 W3 := Below.next_ hb2 hz2 hb3
  have hbw3 : Below w.heap.size w W3 := Below.next_ hb_W1 (by omega) hb13
  have hz3 := hb3.size
  have HW3 := hide hW3
  have HB := hide hb2
  clear hW3 hb2 p0 p1 p2 p3 p4 p5 z0 z1 z2 z3 z4 z5
  go_upto_region 2 with fail
  rw [HW3.out]
  clear HW3
  have PB3 := PB.below hb13
  have ZB3 := ZB.below hb13
  have hlt2 : w2.heap.size < W3.heap.size := OB.lt
  obtain ⟨⟨p0, p1, p2⟩, p3, p4, p5⟩ := PB3.three
  obtain ⟨⟨z0, z1, z2⟩, z3, z4, z5⟩ := ZB3.three
  obtain ⟨⟨o0, o1, o2⟩, o3, o4, o5⟩ := OB.three
  have hw : wrap64 ((n : Int) - 1) = (n : Int) - 1 := by simp only [wrap64]; omega
  cases hin : inR i 0 ((n : Int) - 1) with
  | false =>
    have HOK := hide (show rpOk t ps ss i part = false by unfold rpOk; rw [HL.out, hin]; rfl)
    have HPP := hide (show rpP t ps ss i part = ps by unfold rpP; rw [HOK.out]; rfl)
    go_wp2_with (go_at_call 39; refine (implInRange_any _ _ _ _).mono ?_; rintro e w' ⟨rfl, rfl⟩)
    have o1 := own_old (j := 2) (own_old (j := 1) (own_old (j := 0) (hp3) hrb (.int .i64 t)) hrb (.slice P2 n c2)) hrb (.slice S2 m d2)
    have o2 := own_old (j := 2) (own_old (j := 1) (own_old (j := 0) (hs3) hrb (.int .i64 t)) hrb (.slice P2 n c2)) hrb (.slice S2 m d2)
    have bb := (((hbw3).setCell (p := ⟨w.heap.size + 1, 0, none⟩) (by show w.heap.size ≤ w.heap.size + 1; omega) (.int .i64 t)).setCell (p := ⟨w.heap.size + 1, 1, none⟩) (by show w.heap.size ≤ w.heap.size + 1; omega) (.slice P2 n c2)).setCell (p := ⟨w.heap.size + 1, 2, none⟩) (by show w.heap.size ≤ w.heap.size + 1; omega) (.slice S2 m d2)
    exact bodyPost_ret (v := .tuple #[doV t P2 S2 n m c2 d2, .bool false]) (by simp [results, Try.results26, go_sem, *]) rfl ⟨P2, S2, c2, d2, by rw [HOK.out], by rw [HPP.out]; exact own_base o1 (by omega), own_base o2 (by omega), hap, bb⟩
  | true =>
    obtain ⟨hi0, hi1⟩ := inR_true.1 hin
    obtain ⟨j, rfl⟩ : ∃ j : Nat, i = (j : Int) := ⟨i.toNat, by omega⟩
    have hjn : j < n := by omega
    have hjnI : (j : Int) < (n : Int) := by omega
    obtain ⟨g, u, rfl, hbg, hu, hcell, hfz⟩ := own_at hp3 hjn
    have hgs := cell_lt hcell
    have hg2 : g < w2.heap.size := (hp2.lt g rfl).2
    clear hu
    obtain ⟨W4, hW4⟩ : ∃ W4, W3.setCell ⟨g, j, none⟩ (.string part) = W4 := ⟨_, rfl⟩
    have hst := own_set hp3 j (.string part)
    rw [sts_set, hW4] at hst
    have PB4 : Blk W4 w.heap.size [.int .i64 t, .slice P n c, .slice S m d] := by rw [← hW4]; exact PB3.other (by omega)
    have ZB4 : Blk W4 (w.heap.size + 1) [.int .i64 0, .slice none 0 0, .slice none 0 0] := by rw [← hW4]; exact ZB3.other (by omega)
    have OB4 : Blk W4 w2.heap.size [.int .i64 t, .slice (some ⟨g, 0, none⟩) n c2, .slice S2 m d2] := by rw [← hW4]; exact OB.other (by omega)
    have hs4 := own_kept hs3 hst.2 (fun q hq he => hap q he hq)
    have hp4 := hst.1
    have hbw4 : Below w.heap.size w W4 := by rw [← hW4]; exact hbw3.setCell (p := ⟨g, j, none⟩) (by show w.heap.size ≤ g; omega) _
    have hb14 : Below W1.heap.size W1 W4 := by rw [← hW4]; exact hb13.setCell (p := ⟨g, j, none⟩) (by show W1.heap.size ≤ g; omega) _
    have HW4 := hide hW4
    clear hW4 hst
    go_upto_region 5 with (go_at_call 39; refine (implInRange_any _ _ _ _).mono ?_; rintro e w' ⟨rfl, rfl⟩)
    rw [HW4.out]
    clear HW4 hcell hfz p0 p1 p2 p3 p4 p5 z0 z1 z2 z3 z4 z5 o0 o1 o2 o3 o4 o5
    obtain ⟨⟨p0, p1, p2⟩, p3, p4, p5⟩ := PB4.three
    obtain ⟨⟨z0, z1, z2⟩, z3, z4, z5⟩ := ZB4.three
    obtain ⟨⟨o0, o1, o2⟩, o3, o4, o5⟩ := OB4.three
    have T := implIsDocument_any (t := t) (c := c2) (d := d2) (Rd.of_own hp4) (Rd.of_own hs4) hn hm
    cases hdoc : isDoc t (ps.set j part) ss with
    | true =>
      rw [hdoc] at T
      have HT := hide T
      clear T
      have HOK := hide (show rpOk t ps ss (j : Int) part = true by unfold rpOk; rw [HL.out, hin, Int.toNat_natCast, hdoc]; rfl)
      have HPP := hide (show rpP t ps ss (j : Int) part = ps.set j part by unfold rpP; rw [HOK.out]; rfl)
      go_wp2_with fail
      refine HT.out.mono ?_
      rintro e w5 ⟨rfl, hb5⟩
      have hp5 := own_below hp4 hb5
      have hs5 := own_below hs4 hb5
      clear p0 p1 p2 p3 p4 p5 z0 z1 z2 z3 z4 z5 o0 o1 o2 o3 o4 o5 HT
      have PB5 := PB4.below hb5
      have ZB5 := ZB4.below hb5
      have OB5 := OB4.below hb5
      obtain ⟨⟨p0, p1, p2⟩, p3, p4, p5⟩ := PB5.three
      obtain ⟨⟨z0, z1, z2⟩, z3, z4, z5⟩ := ZB5.three
      obtain ⟨⟨o0, o1, o2⟩, o3, o4, o5⟩ := OB5.three
      have hbw5 := Below.next_ hbw4 hbw4.size hb5
      go_wp2_with fail
      have o1 := own_old (j := 2) (own_old (j := 1) (own_old (j := 0) (hp5) hrb (.int .i64 t)) hrb (.slice (some ⟨g, 0, none⟩) n c2)) hrb (.slice S2 m d2)
      have o2 := own_old (j := 2) (own_old (j := 1) (own_old (j := 0) (hs5) hrb (.int .i64 t)) hrb (.slice (some ⟨g, 0, none⟩) n c2)) hrb (.slice S2 m d2)
      have bb := (((hbw5).setCell (p := ⟨w.heap.size + 1, 0, none⟩) (by show w.heap.size ≤ w.heap.size + 1; omega) (.int .i64 t)).setCell (p := ⟨w.heap.size + 1, 1, none⟩) (by show w.heap.size ≤ w.heap.size + 1; omega) (.slice (some ⟨g, 0, none⟩) n c2)).setCell (p := ⟨w.heap.size + 1, 2, none⟩) (by show w.heap.size ≤ w.heap.size + 1; omega) (.slice S2 m d2)
      exact bodyPost_ret (v := .tuple #[doV t (some ⟨g, 0, none⟩) S2 n m c2 d2, .bool true]) (by simp [results, Try.results26, go_sem, *]) rfl ⟨(some ⟨g, 0, none⟩), S2, c2, d2, by rw [HOK.out], by rw [HPP.out]; exact own_base o1 (by omega), own_base o2 (by omega), hap, bb⟩
    | false =>
      rw [hdoc] at T
      have HT := hide T
      clear T
      have HOK := hide (show rpOk t ps ss (j : Int) part = false by unfold rpOk; rw [HL.out, hin, Int.toNat_natCast, hdoc]; rfl)
      have HPP := hide (show rpP t ps ss (j : Int) part = ps by unfold rpP; rw [HOK.out]; rfl)
      go_wp2_with fail
      refine HT.out.mono ?_
      rintro e w5 ⟨rfl, hb5⟩
      clear p0 p1 p2 p3 p4 p5 z0 z1 z2 z3 z4 z5 o0 o1 o2 o3 o4 o5 HT
      have PB5 := PB4.below hb5
      have ZB5 := ZB4.below hb5
      obtain ⟨⟨p0, p1, p2⟩, p3, p4, p5⟩ := PB5.three
      obtain ⟨⟨z0, z1, z2⟩, z3, z4, z5⟩ := ZB5.three
      have hbw5 := Below.next_ hbw4 hbw4.size hb5
      have hb15 := Below.next_ hb14 hb14.size hb5
      have hz5 := hb15.size
      go_wp2_with fail
      refine (copyDocument_any (k1.below hb15) (k2.below hb15) hn hm).mono ?_
      rintro e w6 ⟨P6, S6, c6, d6, rfl, hp6, hs6, hap6, hb6⟩
      clear p0 p1 p2 p3 p4 p5 z0 z1 z2 z3 z4 z5
      have ZB6 := ZB5.below hb6
      obtain ⟨⟨z0, z1, z2⟩, z3, z4, z5⟩ := ZB6.three
      have hbw6 := Below.next_ hbw5 hbw5.size hb6
      have hp7 := own_base hp6 (show W1.heap.size ≤ w5.heap.size by omega)
      have hs7 := own_base hs6 (show W1.heap.size ≤ w5.heap.size by omega)
      go_wp2_with fail
      have o1 := own_old (j := 2) (own_old (j := 1) (own_old (j := 0) (hp7) hrb (.int .i64 t)) hrb (.slice P6 n c6)) hrb (.slice S6 m d6)
      have o2 := own_old (j := 2) (own_old (j := 1) (own_old (j := 0) (hs7) hrb (.int .i64 t)) hrb (.slice P6 n c6)) hrb (.slice S6 m d6)
      have bb := (((hbw6).setCell (p := ⟨w.heap.size + 1, 0, none⟩) (by show w.heap.size ≤ w.heap.size + 1; omega) (.int .i64 t)).setCell (p := ⟨w.heap.size + 1, 1, none⟩) (by show w.heap.size ≤ w.heap.size + 1; omega) (.slice P6 n c6)).setCell (p := ⟨w.heap.size + 1, 2, none⟩) (by show w.heap.size ≤ w.heap.size + 1; omega) (.slice S6 m d6)
      exact bodyPost_ret (v := .tuple #[doV t P6 S6 n m c6 d6, .bool false]) (by simp [results, Try.results26, go_sem, *]) rfl ⟨P6, S6, c6, d6, by rw [HOK.out], by rw [HPP.out]; exact own_base o1 (by omega), own_base o2 (by omega), hap6, bb⟩
end Go.Proofs.Ythjdigiaajdnbaa
