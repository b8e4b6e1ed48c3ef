/- Contracts of the laws' own copies of redacted documents. For rows of at most 2^40 elements. -/
import Derived.Test.YthjdigiaajdnbaaRed
import Derived.Test.YthjdigiaajdnbaaDoc
namespace Go.Proofs.Ythjdigiaajdnbaa
open Go.RowKit Go.WideShapes Go.ChangeShapes Go.Deep
set_option linter.unusedSimpArgs false
set_option linter.unusedVariables false
set_option maxRecDepth 1000000
theorem Sr_info : (Try.prog.info? 24).map (fun i => (i.zero, i.size, i.bytes)) = some (some (.slice none 0 0), 1, 24) := by kernel_rfl
/-- rows of the call's own (base b on) that read as the lists -/
def OwnSS (w : World) (b : Nat) (rs : List Sr) (ls : List (List Int)) : Prop := rs.length = ls.length ∧ ∀ (j : Nat) (r : Sr) (l : List Int), rs[j]? = some r → ls[j]? = some l → w.ownsRow b 3 1 (.slice r.1 r.2.1 r.2.2) r.2.1 (ints l)
theorem OwnSS.below {w w' : World} {b : Nat} {rs : List Sr} {ls : List (List Int)} (h : OwnSS w b rs ls) (hb : Below w.heap.size w w') : OwnSS w' b rs ls := ⟨h.1, fun j r l hr hl => own_below (h.2 j r l hr hl) hb⟩
theorem OwnSS.old {w : World} {b g j : Nat} {rs : List Sr} {ls : List (List Int)} (h : OwnSS w b rs ls) (hg : g < b) (u : Value) : OwnSS (w.setCell ⟨g, j, none⟩ u) b rs ls := ⟨h.1, fun j r l hr hl => own_old (h.2 j r l hr hl) hg u⟩
theorem OwnSS.base {w : World} {b b2 : Nat} {rs : List Sr} {ls : List (List Int)} (h : OwnSS w b rs ls) (hg : b2 ≤ b) : OwnSS w b2 rs ls := ⟨h.1, fun j r l hr hl => own_base (h.2 j r l hr hl) hg⟩
theorem OwnSS.rd {w : World} {b n : Nat} {A : Option Addr} {rs : List Sr} {ls : List (List Int)} (h : OwnSS w b rs ls) (hr : Rd w 1 A n (srs rs)) : RdSS w A n ls := ⟨rs, hr, h.1, fun j r l hr hl => Rd.of_own (h.2 j r l hr hl)⟩
theorem rows_step {w : World} {b : Nat} {rs : List Sr} {ls : List (List Int)} {x : Sr} {l : List Int} {k : Nat} (h : ∀ (j : Nat) (r : Sr) (l : List Int), rs[j]? = some r → ls[j]? = some l → w.ownsRow b 3 1 (.slice r.1 r.2.1 r.2.2) r.2.1 (ints l)) (hk : rs.length = k) (hl : ls[k]? = some l) (hx : w.ownsRow b 3 1 (.slice x.1 x.2.1 x.2.2) x.2.1 (ints l)) :
    ∀ (j : Nat) (r : Sr) (l : List Int), (rs ++ [x])[j]? = some r → ls[j]? = some l → w.ownsRow b 3 1 (.slice r.1 r.2.1 r.2.2) r.2.1 (ints l) := by
  intro j r l2 hr hl2
  rcases Nat.lt_or_ge j k with h1 | h1
  · rw [List.getElem?_append_left (by omega)] at hr
    exact h j r l2 hr hl2
  · rw [List.getElem?_append_right (by omega)] at hr
    have h2 := get_lt hr
    simp at h2
    obtain rfl : j = k := by omega
    rw [show j - rs.length = 0 by omega] at hr
    simp at hr
    subst hr
    rw [hl] at hl2
    injection hl2 with e
    exact e ▸ hx
set_option maxHeartbeats 2000000 in
theorem toIntSS_any {A : Option Addr} {n c : Nat} {ls : List (List Int)} {w : World} (h : RdSS w A n ls) (hn : n ≤ 1099511627776) (hbl : ∀ x ∈ ls, x.length ≤ 1099511627776) :
    Calls Try.prog 53 #[.slice A n c] w fun e w' => ∃ B d, e = .returned (.slice B n d) ∧ Below w.heap.size w w' ∧ ∃ rs, w'.ownsRow w.heap.size 24 1 (.slice B n d) n (srs rs) ∧ OwnSS w' w.heap.size rs ls := by
  obtain ⟨i0, hi, hz0, hz1, hz2⟩ := info_parts Sr_info
  have HL := hide h.len
  have HBL := hide hbl
  clear hbl
  go_enter Try.func53, Try.ntmps53
  go_wp2_with (at_make; refine wpList_make_full _ rfl _ _ _ rfl w.heap.size 24 i0 (.slice none 0 0) 1 Try.underlying31 hi hz0 hz1 _ _ _ _ n rfl rfl rfl rfl (by rw [hz2]; omega) (by unfold maxLen; omega) (Nat.le_refl _) ?_; intro w1 ho hg)
  have hB := (Below.refl w.heap.size w).grown hg (Nat.le_refl _) (by simp)
  rw [Nat.mul_one] at ho
  generalize hz : (madeCells (Value.slice none 0 0).cells n).toList = zs at ho
  have HZ := hide hz
  clear hz
  have HN := hide (show zs.length = n by simpa using ho.1)
  have hsz1 : w.heap.size < w1.heap.size := (ho.lt w.heap.size rfl).2
  go_loopw [4] (fun i wr => ∃ (j : Nat) (rs : List Sr), j ≤ n ∧ i = .int .i64 j ∧ rs.length = j ∧ w.heap.size < wr.heap.size ∧ wr.ownsRow w.heap.size 24 1 (.slice (some ⟨w.heap.size, 0, none⟩) n n) n (srs rs ++ zs.drop j) ∧ Hid (∀ (j : Nat) (r : Sr) (l : List Int), rs[j]? = some r → ls[j]? = some l → wr.ownsRow (w.heap.size + 1) 3 1 (.slice r.1 r.2.1 r.2.2) r.2.1 (ints l)) ∧ Below w.heap.size w wr) (fun i _ => n - (intOf i).toNat)
  case atStart => exact ⟨0, [], Nat.zero_le _, rfl, rfl, hsz1, by simpa [srs] using ho, by intro j r l hr; simp at hr, hB⟩
  case round =>
    clear hB ho hg
    obtain ⟨j, rs, hj, rfl, hrs, hsw, ho, hrows, hb⟩ := hrel
    have HRS := hide hrs
    clear hrs
    have hj0 : (0 : Int) ≤ (j : Int) := by omega
    by_cases hlt : j < n
    · obtain ⟨ad, B, m, c2, l, rfl, hl, hcl, hrl⟩ := (h.below hb).at_ hlt
      have hjn : (j : Int) < (n : Int) := by omega
      have hm : m ≤ 4398046511104 := by have := hrl.len; have := HBL.out l (List.mem_of_getElem? hl); omega
      have HX := hide hl
      clear hl
      go_wp2_with fail
      refine (toIntS_any hrl hm).mono ?_
      rintro e w2 ⟨B2, d2, rfl, ho2, hb2⟩
      have hs2 := hb2.size
      have ho' := own_below ho hb2
      have ho2' := own_base ho2 (show w.heap.size + 1 ≤ wr.heap.size by omega)
      obtain ⟨u, hu, hcell, hfz⟩ := own_at_ ho' hlt
      have hbb := Below.next_ hb (by omega) hb2
      clear hu
      go_wp2_with fail
      have hzl := HN.out
      obtain ⟨s1, s2⟩ := own_set ho' j (Value.slice B2 m d2)
      rw [set_step (by rw [srs_length]; exact HRS.out) (by omega)] at s1
      have S1 := hide s1
      have S2 := hide (hbb.setCell (p := ⟨w.heap.size, j, none⟩) (Nat.le_refl _) (Value.slice B2 m d2))
      have S3 := hide (rows_step (b := w.heap.size + 1) (w := w2.setCell ⟨w.heap.size, j, none⟩ (.slice B2 m d2)) (x := (B2, m, d2)) (fun j' r l hr hl => own_old (b := w.heap.size + 1) (g := w.heap.size) (j := j) (own_below (hrows.out j' r l hr hl) hb2) (Nat.lt_succ_self _) (.slice B2 m d2)) HRS.out HX.out (own_old (j := j) ho2' (Nat.lt_succ_self _) (.slice B2 m d2)))
      clear s1 s2
      go_roundw
      case rel => exact ⟨j + 1, rs ++ [(B2, m, d2)], by omega, by go_num, by have := HRS.out; simp; omega, by rw [World.size_setCell]; omega, by rw [srs_snoc]; exact S1.out, S3.out, S2.out⟩
      case measure => simp [intOf]; omega
    · have hjn : j = n := by omega
      subst hjn
      have hkn : ¬ (j : Int) < (j : Int) := by omega
      go_wp2_with fail
      go_ret
      have hzl := HN.out
      have hll := HL.out
      refine ⟨_, _, rfl, hb, rs, ?_, ⟨by rw [HRS.out, hll], fun j r l hr hl => own_base (hrows.out j r l hr hl) (by omega)⟩⟩
      rw [List.drop_of_length_le (by omega), List.append_nil] at ho
      exact ho
set_option maxHeartbeats 8000000 in
theorem toRedacted_any {t : Int} {M B P S D : Option Addr} {nm nb np ns nd cm cb cp cs cd : Nat} {ms : List Int} {bs : List Bool} {ps : List ByteArray} {ss : List Int} {ds : List (List Int)} {w : World} (h : RdR w M B P S D nm nb np ns nd ms bs ps ss ds) (hB : BdR 1099511627776 nm nb np ns nd ds) :
    Calls Try.prog 21 #[reV t M B P S D nm nb np ns nd cm cb cp cs cd] w fun e w' => ∃ M' B' P' S' D' cm' cb' cp' cs' cd', e = .returned (reV t M' B' P' S' D' nm nb np ns nd cm' cb' cp' cs' cd') ∧ RdR w' M' B' P' S' D' nm nb np ns nd ms bs ps ss ds ∧ Below w.heap.size w w' := by
  have b0 := hB.m
  have b1 := hB.b
  have b2 := hB.p
  have b3 := hB.s
  have b4 := hB.d
  obtain ⟨V0, hV0⟩ : ∃ V0, ((w.alloc (.cells #[.int .i64 t, .slice M nm cm, .slice B nb cb, .slice P np cp, .slice S ns cs, .slice D nd cd] 45)).alloc (.cells #[.int .i64 0, .slice none 0 0, .slice none 0 0, .slice none 0 0, .slice none 0 0, .slice none 0 0] 33)).alloc (.cells #[.int .i64 t, .slice none 0 0, .slice none 0 0, .slice none 0 0, .slice none 0 0, .slice none 0 0] 33) = V0 := ⟨_, rfl⟩
  have PB0 : Blk V0 (w.heap.size) [.int .i64 t, .slice M nm cm, .slice B nb cb, .slice P np cp, .slice S ns cs, .slice D nd cd] := by rw [← hV0]; exact ((Blk.new _ _ _).alloc _).alloc _
  have ZB0 : Blk V0 (w.heap.size + 1) [.int .i64 0, .slice none 0 0, .slice none 0 0, .slice none 0 0, .slice none 0 0, .slice none 0 0] := by rw [← hV0]; exact (Blk.new_ _ _ _ (by simp)).alloc _
  have OB0 : Blk V0 (w.heap.size + 1 + 1) [.int .i64 t, .slice none 0 0, .slice none 0 0, .slice none 0 0, .slice none 0 0, .slice none 0 0] := by rw [← hV0]; exact Blk.new_ _ _ _ (by simp)
  have hs0 : w.heap.size + 1 + 1 < V0.heap.size := OB0.lt
  have hbV0 : Below w.heap.size w V0 := by rw [← hV0]; repeat (first | exact Below.refl _ _ | assumption | refine Below.next_ ?_ ?_ (by assumption) | refine Below.drew ?_ | refine below_drewN ?_ _ | refine Below.alloc ?_ ?_ _ | refine Below.setCell ?_ ?_ _ | omega | (simp <;> omega) | (simp at * <;> omega))
  have HV0 := hide hV0
  clear hV0
  go_enter Try.func21, Try.ntmps21
  go_wp2_with fail
  rw [HV0.out]
  clear HV0
  refine (toIntS_any (h.m.below hbV0) (by omega)).mono ?_
  rintro e w1 ⟨A0, d0, rfl, ho0, hb1⟩
  have hz1 := hb1.size
  have hbW1 : Below w.heap.size w w1 := Below.next_ hbV0 (by omega) hb1
  have hp0 := own_base ho0 (show V0.heap.size ≤ V0.heap.size by omega)
  have PBn := PB0.below hb1
  have ZBn := ZB0.below hb1
  have OBn := OB0.below hb1
  clear ho0 PB0 ZB0 OB0
  obtain ⟨⟨pc0, pc1, pc2, pc3, pc4, pc5⟩, pf0, pf1, pf2, pf3, pf4, pf5⟩ := PBn.six
  obtain ⟨⟨zc0, zc1, zc2, zc3, zc4, zc5⟩, zf0, zf1, zf2, zf3, zf4, zf5⟩ := ZBn.six
  obtain ⟨⟨oc0, oc1, oc2, oc3, oc4, oc5⟩, of0, of1, of2, of3, of4, of5⟩ := OBn.six
  go_wp2_with fail
  obtain ⟨V1, hV1⟩ : ∃ V, w1.setCell ⟨w.heap.size + 1 + 1, 1, none⟩ (.slice A0 nm d0) = V := ⟨_, rfl⟩
  have hbV1 : Below w.heap.size w V1 := by rw [← hV1]; exact hbW1.setCell (p := ⟨w.heap.size + 1 + 1, 1, none⟩) (by show w.heap.size ≤ w.heap.size + 1 + 1; omega) _
  have PB1 : Blk V1 (w.heap.size) [.int .i64 t, .slice M nm cm, .slice B nb cb, .slice P np cp, .slice S ns cs, .slice D nd cd] := by rw [← hV1]; exact PBn.other (by omega)
  have ZB1 : Blk V1 (w.heap.size + 1) [.int .i64 0, .slice none 0 0, .slice none 0 0, .slice none 0 0, .slice none 0 0, .slice none 0 0] := by rw [← hV1]; exact ZBn.other (by omega)
  have OB1 : Blk V1 (w.heap.size + 1 + 1) [.int .i64 t, .slice A0 nm d0, .slice none 0 0, .slice none 0 0, .slice none 0 0, .slice none 0 0] := by rw [← hV1]; exact OBn.set 1 _
  have hsz1 : V1.heap.size = w1.heap.size := by rw [← hV1]; exact World.size_setCell _ _ _
  replace hp0 := own_old (j := 1) hp0 hs0 (.slice A0 nm d0)
  rw [hV1] at hp0
  have HV1 := hide hV1
  clear hV1 PBn ZBn OBn pc0 pc1 pc2 pc3 pc4 pc5 pf0 pf1 pf2 pf3 pf4 pf5 zc0 zc1 zc2 zc3 zc4 zc5 zf0 zf1 zf2 zf3 zf4 zf5 oc0 oc1 oc2 oc3 oc4 oc5 of0 of1 of2 of3 of4 of5
  rw [HV1.out]
  clear HV1
  refine (toBoolS_any (h.b.below hbV1) (by omega)).mono ?_
  rintro e w2 ⟨A1, d1, rfl, ho1, hb2⟩
  have hz2 := hb2.size
  have hbW2 : Below w.heap.size w w2 := Below.next_ hbV1 (by omega) hb2
  replace hp0 := own_below hp0 hb2
  have hp1 := own_base ho1 (show V0.heap.size ≤ V1.heap.size by omega)
  have PBn := PB1.below hb2
  have ZBn := ZB1.below hb2
  have OBn := OB1.below hb2
  clear ho1 PB1 ZB1 OB1
  obtain ⟨⟨pc0, pc1, pc2, pc3, pc4, pc5⟩, pf0, pf1, pf2, pf3, pf4, pf5⟩ := PBn.six
  obtain ⟨⟨zc0, zc1, zc2, zc3, zc4, zc5⟩, zf0, zf1, zf2, zf3, zf4, zf5⟩ := ZBn.six
  obtain ⟨⟨oc0, oc1, oc2, oc3, oc4, oc5⟩, of0, of1, of2, of3, of4, of5⟩ := OBn.six
  go_wp2_with fail
  obtain ⟨V2, hV2⟩ : ∃ V, w2.setCell ⟨w.heap.size + 1 + 1, 2, none⟩ (.slice A1 nb d1) = V := ⟨_, rfl⟩
  have hbV2 : Below w.heap.size w V2 := by rw [← hV2]; exact hbW2.setCell (p := ⟨w.heap.size + 1 + 1, 2, none⟩) (by show w.heap.size ≤ w.heap.size + 1 + 1; omega) _
  have PB2 : Blk V2 (w.heap.size) [.int .i64 t, .slice M nm cm, .slice B nb cb, .slice P np cp, .slice S ns cs, .slice D nd cd] := by rw [← hV2]; exact PBn.other (by omega)
  have ZB2 : Blk V2 (w.heap.size + 1) [.int .i64 0, .slice none 0 0, .slice none 0 0, .slice none 0 0, .slice none 0 0, .slice none 0 0] := by rw [← hV2]; exact ZBn.other (by omega)
  have OB2 : Blk V2 (w.heap.size + 1 + 1) [.int .i64 t, .slice A0 nm d0, .slice A1 nb d1, .slice none 0 0, .slice none 0 0, .slice none 0 0] := by rw [← hV2]; exact OBn.set 2 _
  have hsz2 : V2.heap.size = w2.heap.size := by rw [← hV2]; exact World.size_setCell _ _ _
  replace hp0 := own_old (j := 2) hp0 hs0 (.slice A1 nb d1)
  rw [hV2] at hp0
  replace hp1 := own_old (j := 2) hp1 hs0 (.slice A1 nb d1)
  rw [hV2] at hp1
  have HV2 := hide hV2
  clear hV2 PBn ZBn OBn pc0 pc1 pc2 pc3 pc4 pc5 pf0 pf1 pf2 pf3 pf4 pf5 zc0 zc1 zc2 zc3 zc4 zc5 zf0 zf1 zf2 zf3 zf4 zf5 oc0 oc1 oc2 oc3 oc4 oc5 of0 of1 of2 of3 of4 of5
  rw [HV2.out]
  clear HV2
  refine (toStringS_any (h.p.below hbV2) (by omega)).mono ?_
  rintro e w3 ⟨A2, d2, rfl, ho2, hb3⟩
  have hz3 := hb3.size
  have hbW3 : Below w.heap.size w w3 := Below.next_ hbV2 (by omega) hb3
  replace hp0 := own_below hp0 hb3
  replace hp1 := own_below hp1 hb3
  have hp2 := own_base ho2 (show V0.heap.size ≤ V2.heap.size by omega)
  have PBn := PB2.below hb3
  have ZBn := ZB2.below hb3
  have OBn := OB2.below hb3
  clear ho2 PB2 ZB2 OB2
  obtain ⟨⟨pc0, pc1, pc2, pc3, pc4, pc5⟩, pf0, pf1, pf2, pf3, pf4, pf5⟩ := PBn.six
  obtain ⟨⟨zc0, zc1, zc2, zc3, zc4, zc5⟩, zf0, zf1, zf2, zf3, zf4, zf5⟩ := ZBn.six
  obtain ⟨⟨oc0, oc1, oc2, oc3, oc4, oc5⟩, of0, of1, of2, of3, of4, of5⟩ := OBn.six
  go_wp2_with fail
  obtain ⟨V3, hV3⟩ : ∃ V, w3.setCell ⟨w.heap.size + 1 + 1, 3, none⟩ (.slice A2 np d2) = V := ⟨_, rfl⟩
  have hbV3 : Below w.heap.size w V3 := by rw [← hV3]; exact hbW3.setCell (p := ⟨w.heap.size + 1 + 1, 3, none⟩) (by show w.heap.size ≤ w.heap.size + 1 + 1; omega) _
  have PB3 : Blk V3 (w.heap.size) [.int .i64 t, .slice M nm cm, .slice B nb cb, .slice P np cp, .slice S ns cs, .slice D nd cd] := by rw [← hV3]; exact PBn.other (by omega)
  have ZB3 : Blk V3 (w.heap.size + 1) [.int .i64 0, .slice none 0 0, .slice none 0 0, .slice none 0 0, .slice none 0 0, .slice none 0 0] := by rw [← hV3]; exact ZBn.other (by omega)
  have OB3 : Blk V3 (w.heap.size + 1 + 1) [.int .i64 t, .slice A0 nm d0, .slice A1 nb d1, .slice A2 np d2, .slice none 0 0, .slice none 0 0] := by rw [← hV3]; exact OBn.set 3 _
  have hsz3 : V3.heap.size = w3.heap.size := by rw [← hV3]; exact World.size_setCell _ _ _
  replace hp0 := own_old (j := 3) hp0 hs0 (.slice A2 np d2)
  rw [hV3] at hp0
  replace hp1 := own_old (j := 3) hp1 hs0 (.slice A2 np d2)
  rw [hV3] at hp1
  replace hp2 := own_old (j := 3) hp2 hs0 (.slice A2 np d2)
  rw [hV3] at hp2
  have HV3 := hide hV3
  clear hV3 PBn ZBn OBn pc0 pc1 pc2 pc3 pc4 pc5 pf0 pf1 pf2 pf3 pf4 pf5 zc0 zc1 zc2 zc3 zc4 zc5 zf0 zf1 zf2 zf3 zf4 zf5 oc0 oc1 oc2 oc3 oc4 oc5 of0 of1 of2 of3 of4 of5
  rw [HV3.out]
  clear HV3
  refine (toIntS_any (h.s.below hbV3) (by omega)).mono ?_
  rintro e w4 ⟨A3, d3, rfl, ho3, hb4⟩
  have hz4 := hb4.size
  have hbW4 : Below w.heap.size w w4 := Below.next_ hbV3 (by omega) hb4
  replace hp0 := own_below hp0 hb4
  replace hp1 := own_below hp1 hb4
  replace hp2 := own_below hp2 hb4
  have hp3 := own_base ho3 (show V0.heap.size ≤ V3.heap.size by omega)
  have PBn := PB3.below hb4
  have ZBn := ZB3.below hb4
  have OBn := OB3.below hb4
  clear ho3 PB3 ZB3 OB3
  obtain ⟨⟨pc0, pc1, pc2, pc3, pc4, pc5⟩, pf0, pf1, pf2, pf3, pf4, pf5⟩ := PBn.six
  obtain ⟨⟨zc0, zc1, zc2, zc3, zc4, zc5⟩, zf0, zf1, zf2, zf3, zf4, zf5⟩ := ZBn.six
  obtain ⟨⟨oc0, oc1, oc2, oc3, oc4, oc5⟩, of0, of1, of2, of3, of4, of5⟩ := OBn.six
  go_wp2_with fail
  obtain ⟨V4, hV4⟩ : ∃ V, w4.setCell ⟨w.heap.size + 1 + 1, 4, none⟩ (.slice A3 ns d3) = V := ⟨_, rfl⟩
  have hbV4 : Below w.heap.size w V4 := by rw [← hV4]; exact hbW4.setCell (p := ⟨w.heap.size + 1 + 1, 4, none⟩) (by show w.heap.size ≤ w.heap.size + 1 + 1; omega) _
  have PB4 : Blk V4 (w.heap.size) [.int .i64 t, .slice M nm cm, .slice B nb cb, .slice P np cp, .slice S ns cs, .slice D nd cd] := by rw [← hV4]; exact PBn.other (by omega)
  have ZB4 : Blk V4 (w.heap.size + 1) [.int .i64 0, .slice none 0 0, .slice none 0 0, .slice none 0 0, .slice none 0 0, .slice none 0 0] := by rw [← hV4]; exact ZBn.other (by omega)
  have OB4 : Blk V4 (w.heap.size + 1 + 1) [.int .i64 t, .slice A0 nm d0, .slice A1 nb d1, .slice A2 np d2, .slice A3 ns d3, .slice none 0 0] := by rw [← hV4]; exact OBn.set 4 _
  have hsz4 : V4.heap.size = w4.heap.size := by rw [← hV4]; exact World.size_setCell _ _ _
  replace hp0 := own_old (j := 4) hp0 hs0 (.slice A3 ns d3)
  rw [hV4] at hp0
  replace hp1 := own_old (j := 4) hp1 hs0 (.slice A3 ns d3)
  rw [hV4] at hp1
  replace hp2 := own_old (j := 4) hp2 hs0 (.slice A3 ns d3)
  rw [hV4] at hp2
  replace hp3 := own_old (j := 4) hp3 hs0 (.slice A3 ns d3)
  rw [hV4] at hp3
  have HV4 := hide hV4
  clear hV4 PBn ZBn OBn pc0 pc1 pc2 pc3 pc4 pc5 pf0 pf1 pf2 pf3 pf4 pf5 zc0 zc1 zc2 zc3 zc4 zc5 zf0 zf1 zf2 zf3 zf4 zf5 oc0 oc1 oc2 oc3 oc4 oc5 of0 of1 of2 of3 of4 of5
  rw [HV4.out]
  clear HV4
  refine (toIntSS_any (h.d.below hbV4) (by omega) hB.l).mono ?_
  rintro e w5 ⟨A4, d4, rfl, hb5, rs, ho4, hr⟩
  have hz5 := hb5.size
  have hbW5 : Below w.heap.size w w5 := Below.next_ hbV4 (by omega) hb5
  replace hp0 := own_below hp0 hb5
  replace hp1 := own_below hp1 hb5
  replace hp2 := own_below hp2 hb5
  replace hp3 := own_below hp3 hb5
  have hp4 := own_base ho4 (show V0.heap.size ≤ V4.heap.size by omega)
  have hq := hr.base (show V0.heap.size ≤ V4.heap.size by omega)
  have PBn := PB4.below hb5
  have ZBn := ZB4.below hb5
  have OBn := OB4.below hb5
  clear ho4 hr PB4 ZB4 OB4
  obtain ⟨⟨pc0, pc1, pc2, pc3, pc4, pc5⟩, pf0, pf1, pf2, pf3, pf4, pf5⟩ := PBn.six
  obtain ⟨⟨zc0, zc1, zc2, zc3, zc4, zc5⟩, zf0, zf1, zf2, zf3, zf4, zf5⟩ := ZBn.six
  obtain ⟨⟨oc0, oc1, oc2, oc3, oc4, oc5⟩, of0, of1, of2, of3, of4, of5⟩ := OBn.six
  go_wp2_with fail
  have hz0 : w.heap.size + 1 < V0.heap.size := by omega
  replace hp0 := own_old (j := 5) (own_old (j := 4) (own_old (j := 3) (own_old (j := 2) (own_old (j := 1) (own_old (j := 0) (own_old (j := 5) hp0 hs0 (.slice A4 nd d4)) hz0 (.int .i64 t)) hz0 (.slice A0 nm d0)) hz0 (.slice A1 nb d1)) hz0 (.slice A2 np d2)) hz0 (.slice A3 ns d3)) hz0 (.slice A4 nd d4)
  replace hp1 := own_old (j := 5) (own_old (j := 4) (own_old (j := 3) (own_old (j := 2) (own_old (j := 1) (own_old (j := 0) (own_old (j := 5) hp1 hs0 (.slice A4 nd d4)) hz0 (.int .i64 t)) hz0 (.slice A0 nm d0)) hz0 (.slice A1 nb d1)) hz0 (.slice A2 np d2)) hz0 (.slice A3 ns d3)) hz0 (.slice A4 nd d4)
  replace hp2 := own_old (j := 5) (own_old (j := 4) (own_old (j := 3) (own_old (j := 2) (own_old (j := 1) (own_old (j := 0) (own_old (j := 5) hp2 hs0 (.slice A4 nd d4)) hz0 (.int .i64 t)) hz0 (.slice A0 nm d0)) hz0 (.slice A1 nb d1)) hz0 (.slice A2 np d2)) hz0 (.slice A3 ns d3)) hz0 (.slice A4 nd d4)
  replace hp3 := own_old (j := 5) (own_old (j := 4) (own_old (j := 3) (own_old (j := 2) (own_old (j := 1) (own_old (j := 0) (own_old (j := 5) hp3 hs0 (.slice A4 nd d4)) hz0 (.int .i64 t)) hz0 (.slice A0 nm d0)) hz0 (.slice A1 nb d1)) hz0 (.slice A2 np d2)) hz0 (.slice A3 ns d3)) hz0 (.slice A4 nd d4)
  replace hp4 := own_old (j := 5) (own_old (j := 4) (own_old (j := 3) (own_old (j := 2) (own_old (j := 1) (own_old (j := 0) (own_old (j := 5) hp4 hs0 (.slice A4 nd d4)) hz0 (.int .i64 t)) hz0 (.slice A0 nm d0)) hz0 (.slice A1 nb d1)) hz0 (.slice A2 np d2)) hz0 (.slice A3 ns d3)) hz0 (.slice A4 nd d4)
  replace hq := ((((((hq.old (j := 5) hs0 (.slice A4 nd d4)).old (j := 0) hz0 (.int .i64 t)).old (j := 1) hz0 (.slice A0 nm d0)).old (j := 2) hz0 (.slice A1 nb d1)).old (j := 3) hz0 (.slice A2 np d2)).old (j := 4) hz0 (.slice A3 ns d3)).old (j := 5) hz0 (.slice A4 nd d4)
  have hbF := ((((((hbW5.setCell (p := ⟨w.heap.size + 1 + 1, 5, none⟩) (by show w.heap.size ≤ w.heap.size + 1 + 1; omega) (.slice A4 nd d4)).setCell (p := ⟨w.heap.size + 1, 0, none⟩) (by show w.heap.size ≤ w.heap.size + 1; omega) (.int .i64 t)).setCell (p := ⟨w.heap.size + 1, 1, none⟩) (by show w.heap.size ≤ w.heap.size + 1; omega) (.slice A0 nm d0)).setCell (p := ⟨w.heap.size + 1, 2, none⟩) (by show w.heap.size ≤ w.heap.size + 1; omega) (.slice A1 nb d1)).setCell (p := ⟨w.heap.size + 1, 3, none⟩) (by show w.heap.size ≤ w.heap.size + 1; omega) (.slice A2 np d2)).setCell (p := ⟨w.heap.size + 1, 4, none⟩) (by show w.heap.size ≤ w.heap.size + 1; omega) (.slice A3 ns d3)).setCell (p := ⟨w.heap.size + 1, 5, none⟩) (by show w.heap.size ≤ w.heap.size + 1; omega) (.slice A4 nd d4)
  exact bodyPost_ret (v := reV t A0 A1 A2 A3 A4 nm nb np ns nd d0 d1 d2 d3 d4) (by simp [results, Try.results21, go_sem, *]) rfl ⟨A0, A1, A2, A3, A4, d0, d1, d2, d3, d4, rfl, ⟨Rd.of_own hp0, Rd.of_own hp1, Rd.of_own hp2, Rd.of_own hp3, hq.rd (Rd.of_own hp4)⟩, hbF⟩
end Go.Proofs.Ythjdigiaajdnbaa
