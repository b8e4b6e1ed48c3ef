/- Contracts of what draws a document. For codes of at most 2^20 bytes. -/
import Derived.Test.YthjdigiaajdnbaaDr3
import Derived.Test.YthjdigiaajdnbaaMkDs
import Derived.Test.YthjdigiaajdnbaaRecX
import Derived.Test.YthjdigiaajdnbaaRed
import Derived.Deep.Cut
namespace Go.Proofs.Ythjdigiaajdnbaa
open Go.RowKit Go.WideShapes Go.ChangeShapes Go.Deep
set_option linter.unusedSimpArgs false
set_option linter.unusedVariables false
set_option maxRecDepth 1000000
theorem Blk.cur {w w' : World} {b p : Nat} {v : Value} {vs : List Value} (h : Blk w b (v :: vs)) (hg : w.grownBy w' (some p)) (hne : b ≠ p) : Blk w' b (v :: vs) :=
  fun i u hu => ⟨(grown_cell hg (a := ⟨b, i, none⟩) h.lt hne).trans (h i u hu).1, (grown_frozen hg (a := ⟨b, i, none⟩) h.lt hne).trans (h i u hu).2⟩
theorem isDoc_of {t : Int} {ps : List ByteArray} {ss : List Int} (h1 : 0 ≤ t ∧ t ≤ 999) (h2 : 1 ≤ ps.length ∧ ps.length ≤ 6) (h3 : ss.length = ps.length) (h4 : ∀ p ∈ ps, p.size ≤ 40) (h5 : ∀ x ∈ ss, 1 ≤ x ∧ x ≤ 1000000000000) : isDoc t ps ss = true := by
  rw [isDoc_rest (fun j p hj => h4 p (List.mem_of_getElem? hj)) (fun j x hj => inR_true.2 (h5 x (List.mem_of_getElem? hj)))]
  have a := inR_true.2 h1
  have b : inR (ps.length : Int) 1 6 = true := inR_true.2 (by omega)
  simp [a, b, h3]
def TX : List ByteArray := [⟨#[]⟩, ⟨#[97]⟩, ⟨#[98]⟩, ⟨#[97, 98]⟩, ⟨#[121, 101, 115]⟩, ⟨#[110, 111]⟩, ⟨#[111, 110, 101, 32, 104, 117, 110, 100, 114, 101, 100]⟩]
theorem TX_size {s : ByteArray} (h : s ∈ TX) : s.size ≤ 11 := by
  simp only [TX, List.mem_cons, List.not_mem_nil, or_false] at h
  rcases h with rfl | rfl | rfl | rfl | rfl | rfl | rfl <;> decide
theorem md_draw {t : Int} {l : List ByteArray} (h0 : 0 ≤ t) (h1 : t ≤ 999) (hl0 : 1 ≤ l.length) (hl1 : l.length ≤ 6) (hs : ∀ s ∈ l, s.size ≤ 40) : mdOk t l 11 = true := by
  unfold mdOk
  rw [Bool.and_eq_true]
  refine ⟨isDoc_of ⟨h0, h1⟩ ⟨hl0, hl1⟩ (saltF_len _ _ _) hs ?_, by decide⟩
  intro x hx
  simp only [saltF, List.mem_map] at hx
  obtain ⟨i, _, rfl⟩ := hx
  have := keyedF_bd 11 [t, (i : Int)]
  omega
set_option maxHeartbeats 2000000 in
theorem l6Text_any {p : Nat} {w : World} (hC : Cur w p) :
    Calls Try.prog 58 #[curV p] w fun e w' => ∃ s, e = .returned (.string s) ∧ s ∈ TX ∧ Drawn w w' p := by
  go_enter Try.func58, Try.ntmps58
  go_wp2_with fail
  refine (l1Str_any (l := [⟨#[]⟩, ⟨#[97]⟩, ⟨#[98]⟩, ⟨#[97, 98]⟩, ⟨#[121, 101, 115]⟩, ⟨#[110, 111]⟩, ⟨#[111, 110, 101, 32, 104, 117, 110, 100, 114, 101, 100]⟩]) (hC.below ((Below.refl w.heap.size w).alloc (Nat.le_refl _) _)) (Rd.of_own (World.ownsRow_lit (base := w.heap.size) (e := 9) (size := 1) w #[.string ⟨#[]⟩, .string ⟨#[97]⟩, .string ⟨#[98]⟩, .string ⟨#[97, 98]⟩, .string ⟨#[121, 101, 115]⟩, .string ⟨#[110, 111]⟩, .string ⟨#[111, 110, 101, 32, 104, 117, 110, 100, 114, 101, 100]⟩] 7 (Nat.le_refl _) (by unfold maxLen; omega) rfl)) (fun a e => by injection e with e; subst e; exact Nat.ne_of_gt (hC).lt) (by omega) (by omega)).mono ?_
  rintro e w1 ⟨s, rfl, hs, hd⟩
  have hD := Drawn.lit0 hC hd
  have hs2 : s ∈ TX := hs
  clear hs
  go_wp2_with fail
  go_ret
  exact ⟨s, rfl, hs2, hD⟩
set_option maxHeartbeats 8000000 in
theorem l6Draw_any {p : Nat} {w : World} (hC : Cur w p) :
    Calls Try.prog 64 #[curV p] w fun e w' => ∃ t ps ss P S n c d, e = .returned (doV t P S n n c d) ∧ isDoc t ps ss = true ∧ (∀ s ∈ ps, s ∈ TX) ∧ 1 ≤ n ∧ n ≤ 3 ∧ w'.ownsRow w.heap.size 9 1 (.slice P n c) n (sts ps) ∧ w'.ownsRow w.heap.size 3 1 (.slice S n d) n (ints ss) ∧ (∀ g, blk P = some g → blk S ≠ some g) ∧ Drawn w w' p := by
  obtain ⟨iString, hiString, hzString0, hzString1, hzString2⟩ := info_parts String_info
  have hp := hC.lt
  obtain ⟨W1, hW1⟩ : ∃ W1, w.alloc (.cells #[.int .i64 0, .slice none 0 0, .slice none 0 0] 27) = W1 := ⟨_, rfl⟩
  have ZB : Blk W1 w.heap.size [.int .i64 0, .slice none 0 0, .slice none 0 0] := by rw [← hW1]; exact Blk.new _ _ _
  have hb1 : Below w.heap.size w W1 := by rw [← hW1]; exact (Below.refl w.heap.size w).alloc (Nat.le_refl _) _
  have HZ := hide (show W1.heap.size = w.heap.size + 1 by rw [← hW1]; simp)
  have HW1 := hide hW1
  clear hW1
  have hz1 : w.heap.size < W1.heap.size := ZB.lt
  have hC1 := hC.below hb1
  have hp1 : p < W1.heap.size := by omega
  have hne : w.heap.size ≠ p := by omega
  have ho0 := World.ownsRow_lit (base := W1.heap.size) (e := 9) (size := 1) W1 #[] 0 (Nat.le_refl _) (by unfold maxLen; omega) rfl
  have hb0 := (Below.refl W1.heap.size W1).alloc (Nat.le_refl _) (.cells #[] 9)
  go_enter Try.func64, Try.ntmps64
  go_wp2_with fail
  rw [HW1.out]
  clear HW1
  refine (l1Below_any (hC1.below hb0) (by omega)).mono ?_
  rintro e w1 ⟨x, rfl, hx, hxI, hd1⟩
  obtain ⟨hx0, hx1⟩ := hx.2 (by omega)
  obtain ⟨M, rfl⟩ := Int.eq_ofNat_of_zero_le hx0
  have hM : M ≤ 2 := by omega
  have ho1 : w1.ownsRow W1.heap.size 9 1 (.slice (some ⟨w.heap.size + 1, 0, none⟩) 0 0) 0 [] := by have h := own_cur ho0 hd1.2 hp1; rw [HZ.out] at h ⊢; exact h
  have hD1 := Drawn.of hb0 hd1
  clear hx hxI ho0 hb0 hd1 hx0 hx1
  have hw : wrap64 (1 + (M : Int)) = 1 + (M : Int) := by simp only [wrap64]; omega
  go_wp2_with fail
  go_loopw [3, 4] (fun ov i wr => ∃ (k j : Nat) (l : List ByteArray) (B : Option Addr) (d : Nat), k + j = M + 1 ∧ i = .int .i64 k ∧ ov = .slice B j d ∧ wr.ownsRow W1.heap.size 9 1 (.slice B j d) j (sts l) ∧ Hid (∀ s ∈ l, s ∈ TX) ∧ Drawn W1 wr p) (fun _ i _ => (intOf i).toNat)
  case atStart => exact ⟨M + 1, 0, [], _, _, by omega, by go_num, rfl, ho1, (fun x hx => absurd hx (by simp)), hD1⟩
  case round =>
    clear ho1 hD1
    obtain ⟨k, j, l, B, d, hk, rfl, rfl, ho, hl, hd⟩ := hrel
    have hz : W1.heap.size ≤ wr.heap.size := hd.2.size
    by_cases h0 : (k : Int) > 0
    · obtain ⟨k', rfl⟩ : ∃ k', k = k' + 1 := ⟨k - 1, by omega⟩
      have hk2 : ((k' + 1 : Nat) : Int) - 1 = (k' : Int) := by omega
      go_wp2_with fail
      refine (l6Text_any hd.1).mono ?_
      rintro e w2 ⟨s, rfl, hs, hd2⟩
      have ho2 := own_cur ho hd2.2 hp1
      have hz2 := hd2.2.size
      have hzz : W1.heap.size ≤ w2.heap.size := by omega
      have HS := hide hs
      clear hs
      go_wp2_with (at_builtin; refine wpList_app2 _ rfl (.tmp 15) (.tmp 18) 25 rfl 9 iString (.string ByteArray.empty) 1 16 Try.underlying25 hiString hzString0 hzString1 hzString2 rfl (by omega) rfl (ho2.alloc _) rfl (Rd.one _ _ _) (sts_one [_]) (by unfold maxLen; omega) (by omega) rfl rfl ((Below.refl W1.heap.size w2).alloc hzz _) (by simp; omega) (Nat.le_refl _) (by simp; omega) ?_; intro A3 c3 w3 ho3 hb3 hg3 hat3)
      go_roundw
      case rel => exact ⟨k', j + 1, l ++ [s], A3, c3, by omega, by go_num, rfl, by rw [sts_snoc]; exact ho3, snoc_all hl.out HS.out, (hd.next hd2).belowB hp1 hb3⟩
      case measure => simp [intOf]
    · obtain rfl : k = 0 := by omega
      obtain rfl : j = M + 1 := by omega
      go_wp2_with fail
      refine (l1Below_any hd.1 (by omega)).mono ?_
      rintro e w3 ⟨t, rfl, ht, htI, hd3⟩
      obtain ⟨ht0, ht1⟩ := ht.2 (by omega)
      have ho3 := own_cur ho hd3.2 hp1
      have hll : l.length = M + 1 := (Rd.of_own ho3).maplen
      have hz3 := hd3.2.size
      have ZB3 := (ZB.cur hd.2 hne).cur hd3.2 hne
      have hD3 := Drawn.of hb1 (hd.next hd3)
      clear ho hd hd3 ht ZB
      go_wp2_with fail
      refine (specMakeDocument_any (Rd.of_own ho3) (by omega) htI ⟨by omega, by omega⟩ (fun s hs => by have := TX_size (hl.out s hs); omega)).mono ?_
      intro e w4 hout
      have hmd := md_draw (t := t) (l := l) ht0 (by omega) (by omega) (by omega) (fun s hs => by have := TX_size (hl.out s hs); omega)
      obtain ⟨e1, e2, e3⟩ := md_yes hmd
      unfold MdOut at hout
      rw [hmd, e1, e2, e3] at hout
      obtain ⟨P, S, n, m, c, d2, rfl, hoP, hoS, hap, hb4⟩ := hout
      have hn : l.length = n := (Rd.of_own hoP).maplen
      have hm : m = n := by have h1 := (Rd.of_own hoS).maplen; have h2 := saltF_len t 11 l.length; omega
      subst hm
      have HDOC := hide (show isDoc t l (saltF t 11 l.length) = true by unfold mdOk at hmd; rw [Bool.and_eq_true] at hmd; exact hmd.1)
      obtain ⟨ss, hss⟩ : ∃ ss, saltF t 11 l.length = ss := ⟨_, rfl⟩
      rw [hss] at HDOC hoS
      have hm1 : 1 ≤ m := by omega
      have hm3 : m ≤ 3 := by omega
      clear hss e1 e2 e3 hmd hn hll
      have hz4 := hb4.size
      obtain ⟨V, hV⟩ : ∃ V, w4.alloc (.cells #[.int .i64 t, .slice P m c, .slice S m d2] 27) = V := ⟨_, rfl⟩
      have hbV : Below w4.heap.size w4 V := by rw [← hV]; exact (Below.refl _ _).alloc (Nat.le_refl _) _
      have bkV : Blk V w4.heap.size [.int .i64 t, .slice P m c, .slice S m d2] := by rw [← hV]; exact Blk.new _ _ _
      have ZBV := (ZB3.below hb4).below hbV
      have o1 := own_below hoP hbV
      have o2 := own_below hoS hbV
      have hzV := hbV.size
      have hbw : Below w.heap.size w3 V := (hb4.mono (by omega)).trans (hbV.mono (by omega))
      have HV := hide hV
      clear hV hoP hoS hb4 hbV ho3 ZB3
      go_upto_region 7 with fail
      rw [HV.out]
      clear HV
      obtain ⟨⟨z0, z1, z2⟩, f0, f1, f2⟩ := ZBV.three
      obtain ⟨⟨v0, v1, v2⟩, g0, g1, g2⟩ := bkV.three
      have q1 := (own_old (g := w.heap.size) (j := 2) (own_old (g := w.heap.size) (j := 1) (own_old (g := w.heap.size) (j := 0) o1 (by omega) (.int .i64 t)) (by omega) (.slice P m c)) (by omega) (.slice S m d2))
      have q2 := (own_old (g := w.heap.size) (j := 2) (own_old (g := w.heap.size) (j := 1) (own_old (g := w.heap.size) (j := 0) o2 (by omega) (.int .i64 t)) (by omega) (.slice P m c)) (by omega) (.slice S m d2))
      have bb := (((hbw.setCell (p := ⟨w.heap.size, 0, none⟩) (Nat.le_refl _) (.int .i64 t)).setCell (p := ⟨w.heap.size, 1, none⟩) (Nat.le_refl _) (.slice P m c)).setCell (p := ⟨w.heap.size, 2, none⟩) (Nat.le_refl _) (.slice S m d2))
      have hD := hD3.belowB hp bb
      clear o1 o2 hbw bb hD3
      go_wp2_with fail
      exact bodyPost_ret (v := doV t P S m m c d2) (by simp [results, Try.results64, go_sem, *]) rfl ⟨t, l, ss, P, S, m, c, d2, rfl, HDOC.out, hl.out, hm1, hm3, own_base q1 (by omega), own_base q2 (by omega), hap, hD⟩
end Go.Proofs.Ythjdigiaajdnbaa
