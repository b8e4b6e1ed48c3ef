/- Contracts of what draws a document. For codes of at most 2^20 bytes. The contract of l6Any. For codes of at most 2^20 bytes. -/
import Derived.Test.YthjdigiaajdnbaaDr3
import Derived.Test.YthjdigiaajdnbaaMkDs
import Derived.Test.YthjdigiaajdnbaaRecX
import Derived.Test.YthjdigiaajdnbaaRed
import Derived.Deep.Cut
import Derived.Test.YthjdigiaajdnbaaDocD
import Derived.Test.YthjdigiaajdnbaaMarkD
import Derived.Test.YthjdigiaajdnbaaTail
namespace Go.Proofs.Ythjdigiaajdnbaa
open Go.RowKit Go.WideShapes Go.ChangeShapes Go.Deep
set_option linter.unusedSimpArgs false
set_option linter.unusedVariables false
set_option maxRecDepth 1000000
theorem Blk.cur {w w' : World} {b p : Nat} {v : Value} {vs : List Value} (h : Blk w b (v :: vs)) (hg : w.grownBy w' (some p)) (hne : b ≠ p) : Blk w' b (v :: vs) :=
  fun i u hu => ⟨(grown_cell hg (a := ⟨b, i, none⟩) h.lt hne).trans (h i u hu).1, (grown_frozen hg (a := ⟨b, i, none⟩) h.lt hne).trans (h i u hu).2⟩
theorem isDoc_of {t : Int} {ps : List ByteArray} {ss : List Int} (h1 : 0 ≤ t ∧ t ≤ 999) (h2 : 1 ≤ ps.length ∧ ps.length ≤ 6) (h3 : ss.length = ps.length) (h4 : ∀ p ∈ ps, p.size ≤ 40) (h5 : ∀ x ∈ ss, 1 ≤ x ∧ x ≤ 1000000000000) : isDoc t ps ss = true := by
  rw [isDoc_rest (fun j p hj => h4 p (List.mem_of_getElem? hj)) (fun j x hj => inR_true.2 (h5 x (List.mem_of_getElem? hj)))]
  have a := inR_true.2 h1
  have b : inR (ps.length : Int) 1 6 = true := inR_true.2 (by omega)
  simp [a, b, h3]
def TX : List ByteArray := [⟨#[]⟩, ⟨#[97]⟩, ⟨#[98]⟩, ⟨#[97, 98]⟩, ⟨#[121, 101, 115]⟩, ⟨#[110, 111]⟩, ⟨#[111, 110, 101, 32, 104, 117, 110, 100, 114, 101, 100]⟩]
theorem TX_size {s : ByteArray} (h : s ∈ TX) : s.size ≤ 11 := by
  simp only [TX, List.mem_cons, List.not_mem_nil, or_false] at h
  rcases h with rfl | rfl | rfl | rfl | rfl | rfl | rfl <;> decide
theorem md_draw {t : Int} {l : List ByteArray} (h0 : 0 ≤ t) (h1 : t ≤ 999) (hl0 : 1 ≤ l.length) (hl1 : l.length ≤ 6) (hs : ∀ s ∈ l, s.size ≤ 40) : mdOk t l 11 = true := by
  unfold mdOk
  rw [Bool.and_eq_true]
  refine ⟨isDoc_of ⟨h0, h1⟩ ⟨hl0, hl1⟩ (saltF_len _ _ _) hs ?_, by decide⟩
  intro x hx
  simp only [saltF, List.mem_map] at hx
  obtain ⟨i, _, rfl⟩ := hx
  have := keyedF_bd 11 [t, (i : Int)]
  omega
set_option maxHeartbeats 2000000 in
theorem l6Text_any {p : Nat} {w : World} (hC : Cur w p) :
    Calls Try.prog 58 #[curV p] w fun e w' => ∃ s, e = .returned (.string s) ∧ s ∈ TX ∧ Drawn w w' p := by
  go_enter Try.func58, Try.ntmps58
  go_wp2_with fail
  refine (l1Str_any (l := [⟨#[]⟩, ⟨#[97]⟩, ⟨#[98]⟩, ⟨#[97, 98]⟩, ⟨#[121, 101, 115]⟩, ⟨#[110, 111]⟩, ⟨#[111, 110, 101, 32, 104, 117, 110, 100, 114, 101, 100]⟩]) (hC.below ((Below.refl w.heap.size w).alloc (Nat.le_refl _) _)) (Rd.of_own (World.ownsRow_lit (base := w.heap.size) (e := 9) (size := 1) w #[.string ⟨#[]⟩, .string ⟨#[97]⟩, .string ⟨#[98]⟩, .string ⟨#[97, 98]⟩, .string ⟨#[121, 101, 115]⟩, .string ⟨#[110, 111]⟩, .string ⟨#[111, 110, 101, 32, 104, 117, 110, 100, 114, 101, 100]⟩] 7 (Nat.le_refl _) (by unfold maxLen; omega) rfl)) (fun a e => by injection e with e; subst e; exact Nat.ne_of_gt (hC).lt) (by omega) (by omega)).mono ?_
  rintro e w1 ⟨s, rfl, hs, hd⟩
  have hD := Drawn.lit0 hC hd
  have hs2 : s ∈ TX := hs
  clear hs
  go_wp2_with fail
  go_ret
  exact ⟨s, rfl, hs2, hD⟩
set_option maxHeartbeats 8000000 in
theorem l6Draw_any {p : Nat} {w : World} (hC : Cur w p) :
    Calls Try.prog 64 #[curV p] w fun e w' => ∃ t ps ss P S n c d, e = .returned (doV t P S n n c d) ∧ isDoc t ps ss = true ∧ (∀ s ∈ ps, s ∈ TX) ∧ 1 ≤ n ∧ n ≤ 3 ∧ w'.ownsRow w.heap.size 9 1 (.slice P n c) n (sts ps) ∧ w'.ownsRow w.heap.size 3 1 (.slice S n d) n (ints ss) ∧ (∀ g, blk P = some g → blk S ≠ some g) ∧ Drawn w w' p := by
  obtain ⟨iString, hiString, hzString0, hzString1, hzString2⟩ := info_parts String_info
  have hp := hC.lt
  obtain ⟨W1, hW1⟩ : ∃ W1, w.alloc (.cells #[.int .i64 0, .slice none 0 0, .slice none 0 0] 27) = W1 := ⟨_, rfl⟩
  have ZB : Blk W1 w.heap.size [.int .i64 0, .slice none 0 0, .slice none 0 0] := by rw [← hW1]; exact Blk.new _ _ _
  have hb1 : Below w.heap.size w W1 := by rw [← hW1]; exact (Below.refl w.heap.size w).alloc (Nat.le_refl _) _
  have HZ := hide (show W1.heap.size = w.heap.size + 1 by rw [← hW1]; simp)
  have HW1 := hide hW1
  clear hW1
  have hz1 : w.heap.size < W1.heap.size := ZB.lt
  have hC1 := hC.below hb1
  have hp1 : p < W1.heap.size := by omega
  have hne : w.heap.size ≠ p := by omega
  have ho0 := World.ownsRow_lit (base := W1.heap.size) (e := 9) (size := 1) W1 #[] 0 (Nat.le_refl _) (by unfold maxLen; omega) rfl
  have hb0 := (Below.refl W1.heap.size W1).alloc (Nat.le_refl _) (.cells #[] 9)
  go_enter Try.func64, Try.ntmps64
  go_wp2_with fail
  rw [HW1.out]
  clear HW1
  refine (l1Below_any (hC1.below hb0) (by omega)).mono ?_
  rintro e w1 ⟨x, rfl, hx, hxI, hd1⟩
  obtain ⟨hx0, hx1⟩ := hx.2 (by omega)
  obtain ⟨M, rfl⟩ := Int.eq_ofNat_of_zero_le hx0
  have hM : M ≤ 2 := by omega
  have ho1 : w1.ownsRow W1.heap.size 9 1 (.slice (some ⟨w.heap.size + 1, 0, none⟩) 0 0) 0 [] := by have h := own_cur ho0 hd1.2 hp1; rw [HZ.out] at h ⊢; exact h
  have hD1 := Drawn.of hb0 hd1
  clear hx hxI ho0 hb0 hd1 hx0 hx1
  have hw : wrap64 (1 + (M : Int)) = 1 + (M : Int) := by simp only [wrap64]; omega
  go_wp2_with fail
  go_loopw [3, 4] (fun ov i wr => ∃ (k j : Nat) (l : List ByteArray) (B : Option Addr) (d : Nat), k + j = M + 1 ∧ i = .int .i64 k ∧ ov = .slice B j d ∧ wr.ownsRow W1.heap.size 9 1 (.slice B j d) j (sts l) ∧ Hid (∀ s ∈ l, s ∈ TX) ∧ Drawn W1 wr p) (fun _ i _ => (intOf i).toNat)
  case atStart => exact ⟨M + 1, 0, [], _, _, by omega, by go_num, rfl, ho1, (fun x hx => absurd hx (by simp)), hD1⟩
  case round =>
    clear ho1 hD1
    obtain ⟨k, j, l, B, d, hk, rfl, rfl, ho, hl, hd⟩ := hrel
    have hz : W1.heap.size ≤ wr.heap.size := hd.2.size
    by_cases h0 : (k : Int) > 0
    · obtain ⟨k', rfl⟩ : ∃ k', k = k' + 1 := ⟨k - 1, by omega⟩
      have hk2 : ((k' + 1 : Nat) : Int) - 1 = (k' : Int) := by omega
      go_wp2_with fail
      refine (l6Text_any hd.1).mono ?_
      rintro e w2 ⟨s, rfl, hs, hd2⟩
      have ho2 := own_cur ho hd2.2 hp1
      have hz2 := hd2.2.size
      have hzz : W1.heap.size ≤ w2.heap.size := by omega
      have HS := hide hs
      clear hs
      go_wp2_with (at_builtin; refine wpList_app2 _ rfl (.tmp 15) (.tmp 18) 25 rfl 9 iString (.string ByteArray.empty) 1 16 Try.underlying25 hiString hzString0 hzString1 hzString2 rfl (by omega) rfl (ho2.alloc _) rfl (Rd.one _ _ _) (sts_one [_]) (by unfold maxLen; omega) (by omega) rfl rfl ((Below.refl W1.heap.size w2).alloc hzz _) (by simp; omega) (Nat.le_refl _) (by simp; omega) ?_; intro A3 c3 w3 ho3 hb3 hg3 hat3)
      go_roundw
      case rel => exact ⟨k', j + 1, l ++ [s], A3, c3, by omega, by go_num, rfl, by rw [sts_snoc]; exact ho3, snoc_all hl.out HS.out, (hd.next hd2).belowB hp1 hb3⟩
      case measure => simp [intOf]
    · obtain rfl : k = 0 := by omega
      obtain rfl : j = M + 1 := by omega
      go_wp2_with fail
      refine (l1Below_any hd.1 (by omega)).mono ?_
      rintro e w3 ⟨t, rfl, ht, htI, hd3⟩
      obtain ⟨ht0, ht1⟩ := ht.2 (by omega)
      have ho3 := own_cur ho hd3.2 hp1
      have hll : l.length = M + 1 := (Rd.of_own ho3).maplen
      have hz3 := hd3.2.size
      have ZB3 := (ZB.cur hd.2 hne).cur hd3.2 hne
      have hD3 := Drawn.of hb1 (hd.next hd3)
      clear ho hd hd3 ht ZB
      go_wp2_with fail
      refine (specMakeDocument_any (Rd.of_own ho3) (by omega) htI ⟨by omega, by omega⟩ (fun s hs => by have := TX_size (hl.out s hs); omega)).mono ?_
      intro e w4 hout
      have hmd := md_draw (t := t) (l := l) ht0 (by omega) (by omega) (by omega) (fun s hs => by have := TX_size (hl.out s hs); omega)
      obtain ⟨e1, e2, e3⟩ := md_yes hmd
      unfold MdOut at hout
      rw [hmd, e1, e2, e3] at hout
      obtain ⟨P, S, n, m, c, d2, rfl, hoP, hoS, hap, hb4⟩ := hout
      have hn : l.length = n := (Rd.of_own hoP).maplen
      have hm : m = n := by have h1 := (Rd.of_own hoS).maplen; have h2 := saltF_len t 11 l.length; omega
      subst hm
      have HDOC := hide (show isDoc t l (saltF t 11 l.length) = true by unfold mdOk at hmd; rw [Bool.and_eq_true] at hmd; exact hmd.1)
      obtain ⟨ss, hss⟩ : ∃ ss, saltF t 11 l.length = ss := ⟨_, rfl⟩
      rw [hss] at HDOC hoS
      have hm1 : 1 ≤ m := by omega
      have hm3 : m ≤ 3 := by omega
      clear hss e1 e2 e3 hmd hn hll
      have hz4 := hb4.size
      obtain ⟨V, hV⟩ : ∃ V, w4.alloc (.cells #[.int .i64 t, .slice P m c, .slice S m d2] 27) = V := ⟨_, rfl⟩
      have hbV : Below w4.heap.size w4 V := by rw [← hV]; exact (Below.refl _ _).alloc (Nat.le_refl _) _
      have bkV : Blk V w4.heap.size [.int .i64 t, .slice P m c, .slice S m d2] := by rw [← hV]; exact Blk.new _ _ _
      have ZBV := (ZB3.below hb4).below hbV
      have o1 := own_below hoP hbV
      have o2 := own_below hoS hbV
      have hzV := hbV.size
      have hbw : Below w.heap.size w3 V := (hb4.mono (by omega)).trans (hbV.mono (by omega))
      have HV := hide hV
      clear hV hoP hoS hb4 hbV ho3 ZB3
      go_upto_region 7 with fail
      rw [HV.out]
      clear HV
      obtain ⟨⟨z0, z1, z2⟩, f0, f1, f2⟩ := ZBV.three
      obtain ⟨⟨v0, v1, v2⟩, g0, g1, g2⟩ := bkV.three
      have q1 := (own_old (g := w.heap.size) (j := 2) (own_old (g := w.heap.size) (j := 1) (own_old (g := w.heap.size) (j := 0) o1 (by omega) (.int .i64 t)) (by omega) (.slice P m c)) (by omega) (.slice S m d2))
      have q2 := (own_old (g := w.heap.size) (j := 2) (own_old (g := w.heap.size) (j := 1) (own_old (g := w.heap.size) (j := 0) o2 (by omega) (.int .i64 t)) (by omega) (.slice P m c)) (by omega) (.slice S m d2))
      have bb := (((hbw.setCell (p := ⟨w.heap.size, 0, none⟩) (Nat.le_refl _) (.int .i64 t)).setCell (p := ⟨w.heap.size, 1, none⟩) (Nat.le_refl _) (.slice P m c)).setCell (p := ⟨w.heap.size, 2, none⟩) (Nat.le_refl _) (.slice S m d2))
      have hD := hD3.belowB hp bb
      clear o1 o2 hbw bb hD3
      go_wp2_with fail
      exact bodyPost_ret (v := doV t P S m m c d2) (by simp [results, Try.results64, go_sem, *]) rfl ⟨t, l, ss, P, S, m, c, d2, rfl, HDOC.out, hl.out, hm1, hm3, own_base q1 (by omega), own_base q2 (by omega), hap, hD⟩
def OkP (s : ByteArray) : Prop := s ∈ TX ∨ s = ⟨#[120]⟩ ∨ (40 ≤ s.size ∧ s.size ≤ 41)
theorem OkP_size {s : ByteArray} (h : OkP s) : s.size ≤ 41 := by
  rcases h with h | rfl | h
  · have := TX_size h; omega
  · decide
  · omega
theorem okp_set {l : List ByteArray} {x : ByteArray} {i : Nat} (h : ∀ s ∈ l, OkP s) (hx : OkP x) : ∀ s ∈ l.set i x, OkP s := by
  intro s hs
  rcases List.mem_or_eq_of_mem_set hs with h1 | rfl
  · exact h s h1
  · exact hx
theorem i64_set {l : List Int} {x : Int} {i : Nat} (h : ∀ s ∈ l, I64 s) (hx : I64 x) : ∀ s ∈ l.set i x, I64 s := by
  intro s hs
  rcases List.mem_or_eq_of_mem_set hs with h1 | rfl
  · exact h s h1
  · exact hx
theorem ints_set (l : List Int) (j : Nat) (x : Int) : (ints l).set j (.int .i64 x) = ints (l.set j x) := by simp [ints, List.map_set]
theorem sts_set_ (l : List ByteArray) (j : Nat) (x : ByteArray) : (sts l).set j (.string x) = sts (l.set j x) := by simp [sts, List.map_set]
theorem own_notin {w : World} {b g : Nat} {e : TypeId} {s n c : Nat} {A : Option Addr} {xs : List Value} (h : w.ownsRow b e s (.slice A n c) n xs) (hg : ¬ blk A = some g) (j : Nat) (u : Value) : (w.setCell ⟨g, j, none⟩ u).ownsRow b e s (.slice A n c) n xs := own_off h hg u
set_option maxHeartbeats 16000000 in
theorem l6Any_any {p : Nat} {w : World} (hC : Cur w p) :
    Calls Try.prog 31 #[curV p] w fun e w' => ∃ t ps ss P S n m c d, e = .returned (doV t P S n m c d) ∧ I64 t ∧ n ≤ 4 ∧ m ≤ 3 ∧ (∀ s ∈ ps, OkP s) ∧ (∀ x ∈ ss, I64 x) ∧ w'.ownsRow w.heap.size 9 1 (.slice P n c) n (sts ps) ∧ w'.ownsRow w.heap.size 3 1 (.slice S m d) m (ints ss) ∧ Drawn w w' p := by
  obtain ⟨iString, hiString, hzString0, hzString1, hzString2⟩ := info_parts String_info
  have hp := hC.lt
  obtain ⟨W1, hW1⟩ : ∃ W1, w.alloc (.cells #[.int .i64 0, .slice none 0 0, .slice none 0 0] 27) = W1 := ⟨_, rfl⟩
  have ZB : Blk W1 w.heap.size [.int .i64 0, .slice none 0 0, .slice none 0 0] := by rw [← hW1]; exact Blk.new _ _ _
  have hb1 : Below w.heap.size w W1 := by rw [← hW1]; exact (Below.refl w.heap.size w).alloc (Nat.le_refl _) _
  have HW1 := hide hW1
  clear hW1
  have hz1 : w.heap.size < W1.heap.size := ZB.lt
  have hC1 := hC.below hb1
  have hp1 : p < W1.heap.size := by omega
  have hne : w.heap.size ≠ p := by omega
  go_enter Try.func31, Try.ntmps31
  go_wp2_with fail
  rw [HW1.out]
  clear HW1
  refine (l6Draw_any hC1).mono ?_
  rintro e w1 ⟨t, ps, ss, P, S, n, c, d, rfl, hdoc, htx, hn1, hn3, hoP, hoS, hap, hd1⟩
  obtain ⟨⟨ht0, ht1⟩, _, _, _, hsx⟩ := isDoc_all hdoc
  have hTX := hide htx
  have hSI := hide (show ∀ x ∈ ss, I64 x from fun x hx => by have := hsx x hx; exact ⟨by omega, by omega⟩)
  have htI : I64 t := ⟨by omega, by omega⟩
  have HAP := hide hap
  clear htx hsx hdoc hap
  have hz2 := hd1.2.size
  obtain ⟨q, hq⟩ : ∃ q, w1.heap.size = q := ⟨_, rfl⟩
  have HQ := hide hq
  have hltP : ∀ g, blk P = some g → W1.heap.size ≤ g ∧ g < q := fun g hg => by have := hoP.lt g (by rw [blk_own]; exact hg); omega
  have hltS : ∀ g, blk S = some g → W1.heap.size ≤ g ∧ g < q := fun g hg => by have := hoS.lt g (by rw [blk_own]; exact hg); omega
  have HLP := hide hltP
  have HLS := hide hltS
  clear hltP hltS
  obtain ⟨W2, hW2⟩ : ∃ W2, w1.alloc (.cells #[.int .i64 t, .slice P n c, .slice S n d] 27) = W2 := ⟨_, rfl⟩
  have DB : Blk W2 q [.int .i64 t, .slice P n c, .slice S n d] := by rw [← hW2, ← hq]; exact Blk.new _ _ _
  have hbW2 : Below w1.heap.size w1 W2 := by rw [← hW2]; exact (Below.refl w1.heap.size w1).alloc (Nat.le_refl _) _
  have ZB2 := (ZB.cur hd1.2 hne).below hbW2
  have hoP2 := own_below hoP hbW2
  have hoS2 := own_below hoS hbW2
  have hD2 := (Drawn.of hb1 hd1).below hbW2
  have hqz : W1.heap.size ≤ q := by omega
  have hqp : q ≠ p := by omega
  have hqw : q ≠ w.heap.size := by omega
  have hwq : w.heap.size ≠ q := by omega
  have hwq' : w.heap.size ≤ q := by omega
  have HW2 := hide hW2
  clear hW2 hbW2 hoP hoS hb1 hd1 ZB hq
  go_wp2_with fail
  rw [HW2.out, HQ.out]
  clear HW2
  refine (l1Below_any hD2.1 (by omega)).mono ?_
  rintro e w3 ⟨s, rfl, hs, hsI, hd3⟩
  obtain ⟨hs0, hs1⟩ := hs.2 (by omega)
  have ZB3 := ZB2.cur hd3.2 hne
  have DB3 := DB.cur hd3.2 hqp
  have hoP3 := own_cur hoP2 hd3.2 hp1
  have hoS3 := own_cur hoS2 hd3.2 hp1
  have hD3 := hD2.next hd3
  have hq3 : q < w3.heap.size := DB3.lt
  clear ZB2 DB hoP2 hoS2 hD2 hd3 hs hsI
  by_cases h0 : s = 0
  · subst h0
    go_wp2_with fail
    refine (l1Int_any (l := [(-1), (999), (1000)]) (hD3.1.below ((Below.refl w3.heap.size w3).alloc (Nat.le_refl _) _)) (Rd.of_own (World.ownsRow_lit (base := w3.heap.size) (e := 3) (size := 1) w3 #[.int .i64 (-1), .int .i64 (999), .int .i64 (1000)] 3 (Nat.le_refl _) (by unfold maxLen; omega) rfl)) (fun a e => by injection e with e; subst e; exact Nat.ne_of_gt (hD3.1).lt) (by omega) (by omega)).mono ?_
    rintro e w4 ⟨x, rfl, hx, hd4⟩
    have hxI : I64 x := by simp at hx; unfold I64; omega
    have hal := (Below.refl w3.heap.size w3).alloc (Nat.le_refl _) (.cells #[.int .i64 (-1), .int .i64 999, .int .i64 1000] 3)
    have ZB4 := (ZB3.below hal).cur hd4.2 hne
    have DB4 := (DB3.below hal).cur hd4.2 hqp
    have o1_ := own_cur (own_below hoP3 hal) hd4.2 hp1
    have o2_ := own_cur (own_below hoS3 hal) hd4.2 hp1
    have hD4 := hD3.lit hd4
    clear hx hal hd4 hD3 hoP3 hoS3 ZB3 DB3
    obtain ⟨⟨y0, y1, y2⟩, e0, e1, e2⟩ := DB4.three
    go_upto_region 11 with fail
    have ZBV := ZB4.other (g := q) (j := 0) (u := .int .i64 x) hqw
    have DBV : Blk _ q [.int .i64 x, .slice P n c, .slice S n d] := DB4.set 0 (.int .i64 x)
    have o1 := own_notin o1_ (fun h => by have := HLP.out q h; omega) 0 (.int .i64 x)
    have o2 := own_notin o2_ (fun h => by have := HLS.out q h; omega) 0 (.int .i64 x)
    have hD := hD4.belowB hp ((Below.refl w.heap.size w4).setCell (p := ⟨q, 0, none⟩) hwq' (.int .i64 x))
    obtain ⟨V, hV⟩ : ∃ V, w4.setCell ⟨q, 0, none⟩ (.int .i64 x) = V := ⟨_, rfl⟩
    rw [hV] at ZBV DBV o1 o2 hD ⊢
    clear hV y0 y1 y2 e0 e1 e2 ZB4 DB4 o1_ o2_ hD4
    obtain ⟨⟨z0, z1, z2⟩, f0, f1, f2⟩ := ZBV.three
    obtain ⟨⟨v0, v1, v2⟩, g0, g1, g2⟩ := DBV.three
    have r1 := (own_old (g := w.heap.size) (j := 2) (own_old (g := w.heap.size) (j := 1) (own_old (g := w.heap.size) (j := 0) o1 hz1 (.int .i64 x)) hz1 (.slice P n c)) hz1 (.slice S n d))
    have r2 := (own_old (g := w.heap.size) (j := 2) (own_old (g := w.heap.size) (j := 1) (own_old (g := w.heap.size) (j := 0) o2 hz1 (.int .i64 x)) hz1 (.slice P n c)) hz1 (.slice S n d))
    have bb := ((((Below.refl w.heap.size V).setCell (p := ⟨w.heap.size, 0, none⟩) (Nat.le_refl _) (.int .i64 x)).setCell (p := ⟨w.heap.size, 1, none⟩) (Nat.le_refl _) (.slice P n c)).setCell (p := ⟨w.heap.size, 2, none⟩) (Nat.le_refl _) (.slice S n d))
    have hDD := hD.belowB hp bb
    clear o1 o2 bb hD
    go_wp2_with fail
    exact bodyPost_ret (v := doV x P S n n c d) (by simp [results, Try.results31, go_sem, *]) rfl ⟨x, ps, ss, P, S, n, n, c, d, rfl, hxI, by omega, hn3, fun s hs => Or.inl (hTX.out s hs), hSI.out, own_base r1 (Nat.le_of_lt hz1), own_base r2 (Nat.le_of_lt hz1), hDD⟩
  have b0 : (s == 0) = false := by simpa using h0
  by_cases h1 : s = 1
  · subst h1
    clear b0
    have hzz : w.heap.size ≤ w3.heap.size := by omega
    obtain ⟨⟨y0, y1, y2⟩, e0, e1, e2⟩ := DB3.three
    go_upto_region 11 with (at_builtin; refine wpList_app2 _ rfl (.tmp 17) (.tmp 18) 25 rfl 9 iString (.string ByteArray.empty) 1 16 Try.underlying25 hiString hzString0 hzString1 hzString2 rfl (by omega) rfl (hoP3.alloc _) rfl (Rd.one _ _ _) (sts_one [_]) (by unfold maxLen; omega) (by omega) rfl rfl (B := w.heap.size) (w0 := w3) ((Below.refl w.heap.size w3).alloc hzz _) (by simp; omega) (Nat.le_of_lt hz1) (by simp; omega) ?_; intro A4 c4 w4 ho4 hb4 hg4 hat4; have DBq := (DB3.alloc _).grown hg4 (fun h => by have := HLP.out q h; omega); obtain ⟨⟨k0, k1, k2⟩, k3, k4, k5⟩ := DBq.three)
    have ZBV := ((ZB3.alloc _).grown hg4 (fun h => by have := HLP.out w.heap.size h; omega)).other (g := q) (j := 1) (u := .slice A4 (n + 1) c4) hqw
    have DBV : Blk _ q [.int .i64 t, .slice A4 (n + 1) c4, .slice S n d] := DBq.set 1 (.slice A4 (n + 1) c4)
    have o1 := own_notin (g := q) ho4 (fun h => by
      rcases hat4 with h1 | h1
      · rw [h1] at h; have := HLP.out q h; omega
      · rw [h1] at h; injection h with h; simp at h; omega) 1 (.slice A4 (n + 1) c4)
    have o2 := own_notin (own_kept (hoS3.alloc _) hg4 (fun k hk h => HAP.out k h hk)) (fun h => by have := HLS.out q h; omega) 1 (.slice A4 (n + 1) c4)
    have hD := hD3.belowB hp (hb4.setCell (p := ⟨q, 1, none⟩) hwq' (.slice A4 (n + 1) c4))
    obtain ⟨V, hV⟩ : ∃ V, w4.setCell ⟨q, 1, none⟩ (.slice A4 (n + 1) c4) = V := ⟨_, rfl⟩
    rw [hV] at ZBV DBV o1 o2 hD ⊢
    have hOK := hide (show ∀ s ∈ ps ++ [(⟨#[120]⟩ : ByteArray)], OkP s from snoc_all (fun s hs => Or.inl (hTX.out s hs)) (Or.inr (Or.inl rfl)))
    replace o1 : V.ownsRow W1.heap.size 9 1 (.slice A4 (n + 1) c4) (n + 1) (sts (ps ++ [⟨#[120]⟩])) := by rw [sts_snoc]; exact o1
    clear hV y0 y1 y2 e0 e1 e2 k0 k1 k2 k3 k4 k5 DBq hD3 hoP3 hoS3 ZB3 DB3 ho4 hb4 hg4 hat4
    obtain ⟨⟨z0, z1, z2⟩, f0, f1, f2⟩ := ZBV.three
    obtain ⟨⟨v0, v1, v2⟩, g0, g1, g2⟩ := DBV.three
    have r1 := (own_old (g := w.heap.size) (j := 2) (own_old (g := w.heap.size) (j := 1) (own_old (g := w.heap.size) (j := 0) o1 hz1 (.int .i64 t)) hz1 (.slice A4 (n + 1) c4)) hz1 (.slice S n d))
    have r2 := (own_old (g := w.heap.size) (j := 2) (own_old (g := w.heap.size) (j := 1) (own_old (g := w.heap.size) (j := 0) o2 hz1 (.int .i64 t)) hz1 (.slice A4 (n + 1) c4)) hz1 (.slice S n d))
    have bb := ((((Below.refl w.heap.size V).setCell (p := ⟨w.heap.size, 0, none⟩) (Nat.le_refl _) (.int .i64 t)).setCell (p := ⟨w.heap.size, 1, none⟩) (Nat.le_refl _) (.slice A4 (n + 1) c4)).setCell (p := ⟨w.heap.size, 2, none⟩) (Nat.le_refl _) (.slice S n d))
    have hDD := hD.belowB hp bb
    clear o1 o2 bb hD
    go_wp2_with fail
    exact bodyPost_ret (v := doV t A4 S (n + 1) n c4 d) (by simp [results, Try.results31, go_sem, *]) rfl ⟨t, (ps ++ [⟨#[120]⟩]), ss, A4, S, (n + 1), n, c4, d, rfl, htI, by omega, hn3, hOK.out, hSI.out, own_base r1 (Nat.le_of_lt hz1), own_base r2 (Nat.le_of_lt hz1), hDD⟩
  have b1 : (s == 1) = false := by simpa using h1
  by_cases h2 : s = 2
  · subst h2
    obtain ⟨⟨y0, y1, y2⟩, e0, e1, e2⟩ := DB3.three
    obtain ⟨gS, u, rfl, hgS, hu, hcu, hfu⟩ := own_at hoS3 (j := 0) (by omega)
    have hn0 : (0 : Int) < (n : Int) := by omega
    have hn0n : 0 < n := by omega
    clear b0 b1
    go_upto_region 8 with fail
    refine wp_region_upto (S := (fun w' => w'.cell? ⟨q, 2, none⟩ = some (.slice (some ⟨gS, 0, none⟩) n d))) 6 (by kernel_rfl) ?_ ?_
    · exact y2
    obtain ⟨w4, hw4⟩ : ∃ x, w3.drew = x := ⟨_, rfl⟩
    have hbd : Below w3.heap.size w3 w4 := by rw [← hw4]; exact (Below.refl _ _).drew
    have ZB4 := ZB3.below hbd
    have DB4 := DB3.below hbd
    have hoP4 := own_below hoP3 hbd
    have hoS4 := own_below hoS3 hbd
    have hD4 := hD3.below hbd
    rw [hw4]
    intro hHeld
    clear hbd hw4 y0 y1 y2 e0 e1 e2 hcu hfu hu ZB3 DB3 hoP3 hoS3 hD3
    obtain ⟨⟨y0, y1, y2⟩, e0, e1, e2⟩ := DB4.three
    refine upto_take (i := 0) (v := ?v1) rfl (by kernel_rfl) (by kernel_rfl) (by kernel_rfl) (by kernel_rfl) (fun _ _ _ h => h) hHeld ?hy1 (by rfl) ?rest1
    case hy1 => (intro w' hSw; (try dsimp only at hSw); go_simp; (try with_reducible rfl))
    (try simp only [Act.put, List.setIfInBounds_toArray, List.set_cons_zero, List.set_cons_succ])
    refine upto_take (i := 1) (v := ?v2) rfl (by kernel_rfl) (by kernel_rfl) (by kernel_rfl) (by kernel_rfl) (fun _ _ _ h => h) hHeld ?hy2 (by rfl) ?rest2
    case hy2 => (intro w' hSw; (try dsimp only at hSw); go_simp; (try with_reducible rfl))
    (try simp only [Act.put, List.setIfInBounds_toArray, List.set_cons_zero, List.set_cons_succ])
    refine upto_take (i := 2) (v := ?v3) rfl (by kernel_rfl) (by kernel_rfl) (by kernel_rfl) (by kernel_rfl) (fun _ _ _ h => h) hHeld ?hy3 (by rfl) ?rest3
    case hy3 => (intro w' hSw; (try dsimp only at hSw); go_simp; (try with_reducible rfl))
    (try simp only [Act.put, List.setIfInBounds_toArray, List.set_cons_zero, List.set_cons_succ])
    refine upto_step (k := 3) (by kernel_rfl) rfl (fun K hK => ?_)
    go_simp
    refine hK.out _ _ ?_ ?_
    · (intro _; exact (World.cell?_alloc_lt _ _ _ (cell_lt y2)).trans y2)
    clear hK K
    (try simp only [Act.put, List.setIfInBounds_toArray, List.set_cons_zero, List.set_cons_succ])
    refine upto_step (k := 4) (by kernel_rfl) rfl (fun K hK => ?_)
    go_simp
    (go_at_call 60; refine (l1Int_any (l := [(0), (-1), (1)]) (hD4.1.below ((Below.refl w4.heap.size w4).alloc (Nat.le_refl _) _)) (Rd.of_own (World.ownsRow_lit (base := w4.heap.size) (e := 3) (size := 1) w4 #[.int .i64 (0), .int .i64 (-1), .int .i64 (1)] 3 (Nat.le_refl _) (by unfold maxLen; omega) rfl)) (fun a e => by injection e with e; subst e; exact Nat.ne_of_gt (hD4.1).lt) (by omega) (by omega)).mono ?_; rintro e w5 ⟨x, rfl, hx, hd5⟩)
    go_wp2_with fail
    have hxI : I64 x := by simp at hx; unfold I64; omega
    have hal := (Below.refl w4.heap.size w4).alloc (Nat.le_refl _) (.cells #[.int .i64 0, .int .i64 (-1), .int .i64 1] 3)
    have ZB5 := (ZB4.below hal).cur hd5.2 hne
    have DB5 := (DB4.below hal).cur hd5.2 hqp
    have o15 := own_cur (own_below hoP4 hal) hd5.2 hp1
    have o25 := own_cur (own_below hoS4 hal) hd5.2 hp1
    have hD5 := hD4.lit hd5
    clear hx hal hd5
    obtain ⟨⟨k0, k1, k2⟩, k3, k4, k5⟩ := DB5.three
    obtain ⟨u5, hu5, hcu5, hfu5⟩ := own_at_ o25 (j := 0) (by omega)
    refine hK.out _ _ ?_ ?_
    · (intro _; exact k2)
    clear hK K
    (try simp only [Act.put, List.setIfInBounds_toArray, List.set_cons_zero, List.set_cons_succ])
    refine upto_step (k := 5) (by kernel_rfl) rfl (fun K hK => ?_)
    go_simp
    (try rw [if_pos hn0n])
    (try go_simp)
    refine hK.out _ _ ?_ ?_
    · (intro _; exact k2)
    clear hK K
    (try simp only [Act.put, List.setIfInBounds_toArray, List.set_cons_zero, List.set_cons_succ])
    refine upto_step (k := 6) (by kernel_rfl) rfl (fun K hK => ?_)
    go_simp
    refine hK.out _ _ ?_ ?_
    · (intro h; exact absurd rfl h)
    clear hK K
    (try simp only [Act.put, List.setIfInBounds_toArray, List.set_cons_zero, List.set_cons_succ])
    refine upto_done (by kernel_rfl) ?_ _
    have ZBV := ZB5.other (g := gS) (j := 0) (u := .int .i64 x) (by have := HLS.out gS rfl; omega)
    have DBV := DB5.other (g := gS) (j := 0) (u := .int .i64 x) (by have := HLS.out gS rfl; omega)
    have o1 := own_notin o15 (fun h => HAP.out gS h rfl) 0 (.int .i64 x)
    have o2 := (own_set o25 0 (.int .i64 x)).1
    rw [ints_set] at o2
    have hD := hD5.belowB hp ((Below.refl w.heap.size w5).setCell (p := ⟨gS, 0, none⟩) (by have := HLS.out gS rfl; show w.heap.size ≤ gS; omega) (.int .i64 x))
    go_upto_region 11 with fail
    obtain ⟨V, hV⟩ : ∃ V, w5.setCell ⟨gS, 0, none⟩ (.int .i64 x) = V := ⟨_, rfl⟩
    rw [hV] at ZBV DBV o1 o2 hD ⊢
    clear hV y0 y1 y2 e0 e1 e2 k0 k1 k2 k3 k4 k5 hcu5 hfu5 hu5 ZB5 DB5 o15 o25 hD5 ZB4 DB4 hoP4 hoS4 hD4
    obtain ⟨⟨z0, z1, z2⟩, f0, f1, f2⟩ := ZBV.three
    obtain ⟨⟨v0, v1, v2⟩, g0, g1, g2⟩ := DBV.three
    have r1 := (own_old (g := w.heap.size) (j := 2) (own_old (g := w.heap.size) (j := 1) (own_old (g := w.heap.size) (j := 0) o1 hz1 (.int .i64 t)) hz1 (.slice P n c)) hz1 (.slice (some ⟨gS, 0, none⟩) n d))
    have r2 := (own_old (g := w.heap.size) (j := 2) (own_old (g := w.heap.size) (j := 1) (own_old (g := w.heap.size) (j := 0) o2 hz1 (.int .i64 t)) hz1 (.slice P n c)) hz1 (.slice (some ⟨gS, 0, none⟩) n d))
    have bb := ((((Below.refl w.heap.size V).setCell (p := ⟨w.heap.size, 0, none⟩) (Nat.le_refl _) (.int .i64 t)).setCell (p := ⟨w.heap.size, 1, none⟩) (Nat.le_refl _) (.slice P n c)).setCell (p := ⟨w.heap.size, 2, none⟩) (Nat.le_refl _) (.slice (some ⟨gS, 0, none⟩) n d))
    have hDD := hD.belowB hp bb
    clear o1 o2 bb hD
    go_wp2_with fail
    exact bodyPost_ret (v := doV t P (some ⟨gS, 0, none⟩) n n c d) (by simp [results, Try.results31, go_sem, *]) rfl ⟨t, ps, (ss.set 0 x), P, (some ⟨gS, 0, none⟩), n, n, c, d, rfl, htI, by omega, hn3, fun s hs => Or.inl (hTX.out s hs), i64_set hSI.out hxI, own_base r1 (Nat.le_of_lt hz1), own_base r2 (Nat.le_of_lt hz1), hDD⟩
  have b2 : (s == 2) = false := by simpa using h2
  by_cases h3 : s = 3
  · subst h3
    obtain ⟨⟨y0, y1, y2⟩, e0, e1, e2⟩ := DB3.three
    obtain ⟨gP, u, rfl, hgP, hu, hcu, hfu⟩ := own_at hoP3 (j := 0) (by omega)
    have hn0 : (0 : Int) < (n : Int) := by omega
    have hn0n : 0 < n := by omega
    clear b0 b1 b2
    go_upto_region 10 with fail
    refine wp_region_upto (S := (fun w' => w'.cell? ⟨q, 1, none⟩ = some (.slice (some ⟨gP, 0, none⟩) n c))) 7 (by kernel_rfl) ?_ ?_
    · exact y1
    obtain ⟨w4, hw4⟩ : ∃ x, w3.drew = x := ⟨_, rfl⟩
    have hbd : Below w3.heap.size w3 w4 := by rw [← hw4]; exact (Below.refl _ _).drew
    have ZB4 := ZB3.below hbd
    have DB4 := DB3.below hbd
    have hoP4 := own_below hoP3 hbd
    have hoS4 := own_below hoS3 hbd
    have hD4 := hD3.below hbd
    rw [hw4]
    intro hHeld
    clear hbd hw4 y0 y1 y2 e0 e1 e2 hcu hfu hu ZB3 DB3 hoP3 hoS3 hD3
    obtain ⟨⟨y0, y1, y2⟩, e0, e1, e2⟩ := DB4.three
    refine upto_take (i := 0) (v := ?v4) rfl (by kernel_rfl) (by kernel_rfl) (by kernel_rfl) (by kernel_rfl) (fun _ _ _ h => h) hHeld ?hy4 (by rfl) ?rest4
    case hy4 => (intro w' hSw; (try dsimp only at hSw); go_simp; (try with_reducible rfl))
    (try simp only [Act.put, List.setIfInBounds_toArray, List.set_cons_zero, List.set_cons_succ])
    refine upto_take (i := 1) (v := ?v5) rfl (by kernel_rfl) (by kernel_rfl) (by kernel_rfl) (by kernel_rfl) (fun _ _ _ h => h) hHeld ?hy5 (by rfl) ?rest5
    case hy5 => (intro w' hSw; (try dsimp only at hSw); go_simp; (try with_reducible rfl))
    (try simp only [Act.put, List.setIfInBounds_toArray, List.set_cons_zero, List.set_cons_succ])
    refine upto_take (i := 2) (v := ?v6) rfl (by kernel_rfl) (by kernel_rfl) (by kernel_rfl) (by kernel_rfl) (fun _ _ _ h => h) hHeld ?hy6 (by rfl) ?rest6
    case hy6 => (intro w' hSw; (try dsimp only at hSw); go_simp; (try with_reducible rfl))
    (try simp only [Act.put, List.setIfInBounds_toArray, List.set_cons_zero, List.set_cons_succ])
    refine upto_step (k := 3) (by kernel_rfl) rfl (fun K hK => ?_)
    go_simp
    (go_at_call 32; refine (l1Below_any hD4.1 (by omega)).mono ?_; rintro e w5 ⟨y, rfl, hy, hyI, hd5⟩)
    go_wp2_with fail
    obtain ⟨hy0, hy1⟩ := hy.2 (by omega)
    have hy01 : y = 0 ∨ y = 1 := by omega
    have ZB5 := ZB4.cur hd5.2 hne
    have DB5 := DB4.cur hd5.2 hqp
    have o15 := own_cur hoP4 hd5.2 hp1
    have o25 := own_cur hoS4 hd5.2 hp1
    have hD5 := hD4.next hd5
    clear hy hyI hd5 hy0 hy1
    obtain ⟨⟨k0, k1, k2⟩, k3, k4, k5⟩ := DB5.three
    obtain ⟨u5, hu5, hcu5, hfu5⟩ := own_at_ o15 (j := 0) (by omega)
    refine hK.out _ _ ?_ ?_
    · (intro _; exact k1)
    clear hK K
    (try simp only [Act.put, List.setIfInBounds_toArray, List.set_cons_zero, List.set_cons_succ])
    rcases hy01 with rfl | rfl
    · refine upto_step (k := 4) (by kernel_rfl) rfl (fun K hK => ?_)
      go_simp
      (try rw [if_pos hn0n])
      (try go_simp)
      refine hK.out _ _ ?_ ?_
      · (intro _; exact k1)
      clear hK K
      (try simp only [Act.put, List.setIfInBounds_toArray, List.set_cons_zero, List.set_cons_succ])
      refine upto_step (k := 5) (by kernel_rfl) rfl (fun K hK => ?_)
      go_simp
      (try rw [if_pos hn0n])
      (try go_simp)
      refine hK.out _ _ ?_ ?_
      · (intro _; exact k1)
      clear hK K
      (try simp only [Act.put, List.setIfInBounds_toArray, List.set_cons_zero, List.set_cons_succ])
      refine upto_step (k := 6) (by kernel_rfl) rfl (fun K hK => ?_)
      go_simp
      (try rw [if_pos hn0n])
      (try go_simp)
      refine hK.out _ _ ?_ ?_
      · (intro _; exact k1)
      clear hK K
      (try simp only [Act.put, List.setIfInBounds_toArray, List.set_cons_zero, List.set_cons_succ])
      refine upto_step (k := 7) (by kernel_rfl) rfl (fun K hK => ?_)
      go_simp
      (try rw [if_pos hn0n])
      (try go_simp)
      refine hK.out _ _ ?_ ?_
      · (intro h; exact absurd rfl h)
      clear hK K
      (try simp only [Act.put, List.setIfInBounds_toArray, List.set_cons_zero, List.set_cons_succ])
      refine upto_done (by kernel_rfl) ?_ _
      obtain ⟨x, hx⟩ : ∃ x, (⟨(48 :: 49 :: 50 :: 51 :: 52 :: 53 :: 54 :: 55 :: 56 :: 57 :: 48 :: 49 :: 50 :: 51 :: 52 :: 53 :: 54 :: 55 :: 56 :: 57 :: 48 :: 49 :: 50 :: 51 :: 52 :: 53 :: 54 :: 55 :: 56 :: 57 :: 48 :: 49 :: 50 :: 51 :: 52 :: 53 :: 54 :: 55 :: 56 :: 57 :: 48 :: []).toArray⟩ : ByteArray).extract 0 (IntKind.i64.wrap 40).toNat = x := ⟨_, rfl⟩
      have hxs : 40 ≤ x.size ∧ x.size ≤ 41 := by rw [← hx, ByteArray.size_extract]; decide
      rw [hx]
      clear hx
      have ZBV := ZB5.other (g := gP) (j := 0) (u := .string x) (by have := HLP.out gP rfl; omega)
      have DBV := DB5.other (g := gP) (j := 0) (u := .string x) (by have := HLP.out gP rfl; omega)
      have o2 := own_notin o25 (fun h => HAP.out gP rfl h) 0 (.string x)
      have o1 := (own_set o15 0 (.string x)).1
      rw [sts_set_] at o1
      have hD := hD5.belowB hp ((Below.refl w.heap.size w5).setCell (p := ⟨gP, 0, none⟩) (by have := HLP.out gP rfl; show w.heap.size ≤ gP; omega) (.string x))
      go_upto_region 11 with fail
      obtain ⟨V, hV⟩ : ∃ V, w5.setCell ⟨gP, 0, none⟩ (.string x) = V := ⟨_, rfl⟩
      rw [hV] at ZBV DBV o1 o2 hD ⊢
      have hOK := hide (show ∀ s ∈ ps.set 0 x, OkP s from okp_set (fun s hs => Or.inl (hTX.out s hs)) (Or.inr (Or.inr hxs)))
      clear hV y0 y1 y2 e0 e1 e2 k0 k1 k2 k3 k4 k5 hcu5 hfu5 hu5 ZB5 DB5 o15 o25 hD5 ZB4 DB4 hoP4 hoS4 hD4
      obtain ⟨⟨z0, z1, z2⟩, f0, f1, f2⟩ := ZBV.three
      obtain ⟨⟨v0, v1, v2⟩, g0, g1, g2⟩ := DBV.three
      have r1 := (own_old (g := w.heap.size) (j := 2) (own_old (g := w.heap.size) (j := 1) (own_old (g := w.heap.size) (j := 0) o1 hz1 (.int .i64 t)) hz1 (.slice (some ⟨gP, 0, none⟩) n c)) hz1 (.slice S n d))
      have r2 := (own_old (g := w.heap.size) (j := 2) (own_old (g := w.heap.size) (j := 1) (own_old (g := w.heap.size) (j := 0) o2 hz1 (.int .i64 t)) hz1 (.slice (some ⟨gP, 0, none⟩) n c)) hz1 (.slice S n d))
      have bb := ((((Below.refl w.heap.size V).setCell (p := ⟨w.heap.size, 0, none⟩) (Nat.le_refl _) (.int .i64 t)).setCell (p := ⟨w.heap.size, 1, none⟩) (Nat.le_refl _) (.slice (some ⟨gP, 0, none⟩) n c)).setCell (p := ⟨w.heap.size, 2, none⟩) (Nat.le_refl _) (.slice S n d))
      have hDD := hD.belowB hp bb
      clear o1 o2 bb hD
      go_wp2_with fail
      exact bodyPost_ret (v := doV t (some ⟨gP, 0, none⟩) S n n c d) (by simp [results, Try.results31, go_sem, *]) rfl ⟨t, (ps.set 0 x), ss, (some ⟨gP, 0, none⟩), S, n, n, c, d, rfl, htI, by omega, hn3, hOK.out, hSI.out, own_base r1 (Nat.le_of_lt hz1), own_base r2 (Nat.le_of_lt hz1), hDD⟩
    · refine upto_step (k := 4) (by kernel_rfl) rfl (fun K hK => ?_)
      go_simp
      (try rw [if_pos hn0n])
      (try go_simp)
      refine hK.out _ _ ?_ ?_
      · (intro _; exact k1)
      clear hK K
      (try simp only [Act.put, List.setIfInBounds_toArray, List.set_cons_zero, List.set_cons_succ])
      refine upto_step (k := 5) (by kernel_rfl) rfl (fun K hK => ?_)
      go_simp
      (try rw [if_pos hn0n])
      (try go_simp)
      refine hK.out _ _ ?_ ?_
      · (intro _; exact k1)
      clear hK K
      (try simp only [Act.put, List.setIfInBounds_toArray, List.set_cons_zero, List.set_cons_succ])
      refine upto_step (k := 6) (by kernel_rfl) rfl (fun K hK => ?_)
      go_simp
      (try rw [if_pos hn0n])
      (try go_simp)
      refine hK.out _ _ ?_ ?_
      · (intro _; exact k1)
      clear hK K
      (try simp only [Act.put, List.setIfInBounds_toArray, List.set_cons_zero, List.set_cons_succ])
      refine upto_step (k := 7) (by kernel_rfl) rfl (fun K hK => ?_)
      go_simp
      (try rw [if_pos hn0n])
      (try go_simp)
      refine hK.out _ _ ?_ ?_
      · (intro h; exact absurd rfl h)
      clear hK K
      (try simp only [Act.put, List.setIfInBounds_toArray, List.set_cons_zero, List.set_cons_succ])
      refine upto_done (by kernel_rfl) ?_ _
      obtain ⟨x, hx⟩ : ∃ x, (⟨(48 :: 49 :: 50 :: 51 :: 52 :: 53 :: 54 :: 55 :: 56 :: 57 :: 48 :: 49 :: 50 :: 51 :: 52 :: 53 :: 54 :: 55 :: 56 :: 57 :: 48 :: 49 :: 50 :: 51 :: 52 :: 53 :: 54 :: 55 :: 56 :: 57 :: 48 :: 49 :: 50 :: 51 :: 52 :: 53 :: 54 :: 55 :: 56 :: 57 :: 48 :: []).toArray⟩ : ByteArray).extract 0 (IntKind.i64.wrap 41).toNat = x := ⟨_, rfl⟩
      have hxs : 40 ≤ x.size ∧ x.size ≤ 41 := by rw [← hx, ByteArray.size_extract]; decide
      rw [hx]
      clear hx
      have ZBV := ZB5.other (g := gP) (j := 0) (u := .string x) (by have := HLP.out gP rfl; omega)
      have DBV := DB5.other (g := gP) (j := 0) (u := .string x) (by have := HLP.out gP rfl; omega)
      have o2 := own_notin o25 (fun h => HAP.out gP rfl h) 0 (.string x)
      have o1 := (own_set o15 0 (.string x)).1
      rw [sts_set_] at o1
      have hD := hD5.belowB hp ((Below.refl w.heap.size w5).setCell (p := ⟨gP, 0, none⟩) (by have := HLP.out gP rfl; show w.heap.size ≤ gP; omega) (.string x))
      go_upto_region 11 with fail
      obtain ⟨V, hV⟩ : ∃ V, w5.setCell ⟨gP, 0, none⟩ (.string x) = V := ⟨_, rfl⟩
      rw [hV] at ZBV DBV o1 o2 hD ⊢
      have hOK := hide (show ∀ s ∈ ps.set 0 x, OkP s from okp_set (fun s hs => Or.inl (hTX.out s hs)) (Or.inr (Or.inr hxs)))
      clear hV y0 y1 y2 e0 e1 e2 k0 k1 k2 k3 k4 k5 hcu5 hfu5 hu5 ZB5 DB5 o15 o25 hD5 ZB4 DB4 hoP4 hoS4 hD4
      obtain ⟨⟨z0, z1, z2⟩, f0, f1, f2⟩ := ZBV.three
      obtain ⟨⟨v0, v1, v2⟩, g0, g1, g2⟩ := DBV.three
      have r1 := (own_old (g := w.heap.size) (j := 2) (own_old (g := w.heap.size) (j := 1) (own_old (g := w.heap.size) (j := 0) o1 hz1 (.int .i64 t)) hz1 (.slice (some ⟨gP, 0, none⟩) n c)) hz1 (.slice S n d))
      have r2 := (own_old (g := w.heap.size) (j := 2) (own_old (g := w.heap.size) (j := 1) (own_old (g := w.heap.size) (j := 0) o2 hz1 (.int .i64 t)) hz1 (.slice (some ⟨gP, 0, none⟩) n c)) hz1 (.slice S n d))
      have bb := ((((Below.refl w.heap.size V).setCell (p := ⟨w.heap.size, 0, none⟩) (Nat.le_refl _) (.int .i64 t)).setCell (p := ⟨w.heap.size, 1, none⟩) (Nat.le_refl _) (.slice (some ⟨gP, 0, none⟩) n c)).setCell (p := ⟨w.heap.size, 2, none⟩) (Nat.le_refl _) (.slice S n d))
      have hDD := hD.belowB hp bb
      clear o1 o2 bb hD
      go_wp2_with fail
      exact bodyPost_ret (v := doV t (some ⟨gP, 0, none⟩) S n n c d) (by simp [results, Try.results31, go_sem, *]) rfl ⟨t, (ps.set 0 x), ss, (some ⟨gP, 0, none⟩), S, n, n, c, d, rfl, htI, by omega, hn3, hOK.out, hSI.out, own_base r1 (Nat.le_of_lt hz1), own_base r2 (Nat.le_of_lt hz1), hDD⟩
  have b3 : (s == 3) = false := by simpa using h3
  go_upto_region 11 with fail
  have ZBV := ZB3
  have DBV := DB3
  have o1 := hoP3
  have o2 := hoS3
  have hD := hD3
  clear ZB3 DB3 hoP3 hoS3 hD3
  obtain ⟨⟨z0, z1, z2⟩, f0, f1, f2⟩ := ZBV.three
  obtain ⟨⟨v0, v1, v2⟩, g0, g1, g2⟩ := DBV.three
  have r1 := (own_old (g := w.heap.size) (j := 2) (own_old (g := w.heap.size) (j := 1) (own_old (g := w.heap.size) (j := 0) o1 hz1 (.int .i64 t)) hz1 (.slice P n c)) hz1 (.slice S n d))
  have r2 := (own_old (g := w.heap.size) (j := 2) (own_old (g := w.heap.size) (j := 1) (own_old (g := w.heap.size) (j := 0) o2 hz1 (.int .i64 t)) hz1 (.slice P n c)) hz1 (.slice S n d))
  have bb := ((((Below.refl w.heap.size w3).setCell (p := ⟨w.heap.size, 0, none⟩) (Nat.le_refl _) (.int .i64 t)).setCell (p := ⟨w.heap.size, 1, none⟩) (Nat.le_refl _) (.slice P n c)).setCell (p := ⟨w.heap.size, 2, none⟩) (Nat.le_refl _) (.slice S n d))
  have hDD := hD.belowB hp bb
  clear o1 o2 bb hD
  go_wp2_with fail
  exact bodyPost_ret (v := doV t P S n n c d) (by simp [results, Try.results31, go_sem, *]) rfl ⟨t, ps, ss, P, S, n, n, c, d, rfl, htI, by omega, hn3, fun s hs => Or.inl (hTX.out s hs), hSI.out, own_base r1 (Nat.le_of_lt hz1), own_base r2 (Nat.le_of_lt hz1), hDD⟩
end Go.Proofs.Ythjdigiaajdnbaa
