/- Contracts of DocDigest of the program and of the reference. For slices of at most 2^40 elements. -/
import Derived.Test.YthjdigiaajdnbaaDocI
import Derived.Test.YthjdigiaajdnbaaPart
import Derived.Test.YthjdigiaajdnbaaStep
namespace Go.Proofs.Ythjdigiaajdnbaa
open Go.RowKit Go.WideShapes Go.ChangeShapes Go.Deep
set_option linter.unusedSimpArgs false
set_option linter.unusedVariables false
set_option maxRecDepth 1000000
def partsL (M : Int) (ps : List ByteArray) (ss : List Int) : List Int := List.zipWith (partF M) ps ss
/-- the digest of a document -/
def docDig (M t : Int) (ps : List ByteArray) (ss : List Int) : Int := if isDoc t ps ss = true then digestF M (t :: partsL M ps ss) else -1
theorem partsL_at {M : Int} {ps : List ByteArray} {ss : List Int} {k : Nat} {p : ByteArray} {x : Int} (hp : ps[k]? = some p) (hx : ss[k]? = some x) : (partsL M ps ss)[k]? = some (partF M p x) := by
  unfold partsL
  rw [List.getElem?_zipWith, hp, hx]
theorem partsL_len {M : Int} {ps : List ByteArray} {ss : List Int} {n : Nat} (hp : ps.length = n) (hx : ss.length = n) : (partsL M ps ss).length = n := by
  unfold partsL
  simp [hp, hx]
theorem isDoc_all {t : Int} {ps : List ByteArray} {ss : List Int} (h : isDoc t ps ss = true) : (0 ≤ t ∧ t ≤ 999) ∧ (1 ≤ ps.length ∧ ps.length ≤ 6) ∧ ss.length = ps.length ∧ (∀ p ∈ ps, p.size ≤ 40) ∧ ∀ x ∈ ss, 1 ≤ x ∧ x ≤ 1000000000000 := by
  unfold isDoc at h
  simp only [Bool.and_eq_true, List.all_eq_true, decide_eq_true_eq, inR_true] at h
  refine ⟨h.1.1.2, by omega, h.2, h.1.1.1.1, h.1.1.1.2⟩
theorem part_l_I64 {M t : Int} {ps : List ByteArray} {ss : List Int} (ht : I64 t) : ∀ x ∈ t :: partsL M ps ss, I64 x := by
  intro x hx
  rcases List.mem_cons.1 hx with rfl | hx
  · exact ht
  · unfold partsL at hx
    obtain ⟨i, hi⟩ := List.mem_iff_getElem?.1 hx
    rw [List.getElem?_zipWith] at hi
    cases h1 : ps[i]? with
    | none => rw [h1] at hi; simp at hi
    | some p =>
      cases h2 : ss[i]? with
      | none => rw [h1, h2] at hi; simp at hi
      | some s =>
        rw [h1, h2] at hi
        simp at hi
        have := partF_bd M p s
        subst hi
        exact ⟨by omega, by omega⟩
theorem docDig_no {M t : Int} {ps : List ByteArray} {ss : List Int} (h : isDoc t ps ss = false) : docDig M t ps ss = -1 := by unfold docDig; rw [if_neg (by simp [h])]
theorem docDig_yes {M t : Int} {ps : List ByteArray} {ss : List Int} (h : isDoc t ps ss = true) : docDig M t ps ss = digestF M (t :: partsL M ps ss) := by unfold docDig; rw [if_pos h]
set_option maxHeartbeats 4000000 in
theorem implDocDigest_any {P S : Option Addr} {n m c d : Nat} {t M : Int} {ps : List ByteArray} {ss : List Int} {w : World} (h1 : Rd w 1 P n (sts ps)) (h2 : Rd w 1 S m (ints ss)) (hn : n ≤ 1099511627776) (hm : m ≤ 1099511627776) (hM : I64 M) :
    Calls Try.prog 12 #[.int .i64 M, doV t P S n m c d] w fun e w' => e = .returned (.int .i64 (docDig M t ps ss)) ∧ Below w.heap.size w w' := by
  obtain ⟨iInt, hiInt, hzInt0, hzInt1, hzInt2⟩ := info_parts Int_info
  have HP := hide h1.maplen
  have HS := hide h2.maplen
  have HM := hide hM
  clear hM
  cases g : isDoc t ps ss with
  | false =>
    have hv := hide (docDig_no (M := M) g)
    have hg := hide g
    clear g
    obtain ⟨W1, hW_W1⟩ : ∃ W1, w.alloc (.cells #[.int .i64 t, .slice P n c, .slice S m d] 27) = W1 := ⟨_, rfl⟩
    have hc_W10 : W1.cell? ⟨w.heap.size, 0, none⟩ = some (.int .i64 t) := by rw [← hW_W1]; simp
    have hc_W11 : W1.cell? ⟨w.heap.size, 1, none⟩ = some (.slice P n c) := by rw [← hW_W1]; simp
    have hc_W12 : W1.cell? ⟨w.heap.size, 2, none⟩ = some (.slice S m d) := by rw [← hW_W1]; simp
    have hs_W1 : w.heap.size < W1.heap.size := by rw [← hW_W1]; simp
    have hb_W1 : Below w.heap.size w W1 := by rw [← hW_W1]; repeat (first | exact Below.refl _ _ | assumption | refine Below.next_ ?_ ?_ (by assumption) | refine Below.drew ?_ | refine below_drewN ?_ _ | refine Below.alloc ?_ ?_ _ | refine Below.setCell ?_ ?_ _ | omega | (simp <;> omega) | (simp at * <;> omega))
    have HW_W1 := hide hW_W1
    clear hW_W1
    have k1 := h1.below hb_W1
    have k2 := h2.below hb_W1
    go_enter Try.func12, Try.ntmps12
    go_wp2_with fail
    rw [HW_W1.out]
    clear HW_W1
    refine (implIsDocument_any k1 k2 (by omega) (by omega)).mono ?_
    rintro e w1 ⟨rfl, hb1⟩
    rw [hg.out]
    go_wp2_with fail
    go_ret
    exact ⟨ret_i hv.out.symm, by repeat (first | exact Below.refl _ _ | assumption | refine Below.next_ ?_ ?_ (by assumption) | refine Below.drew ?_ | refine below_drewN ?_ _ | refine Below.alloc ?_ ?_ _ | refine Below.setCell ?_ ?_ _ | omega | (dsimp only; omega) | (simp <;> omega) | (simp at * <;> omega))⟩
  | true =>
    have hv := hide (docDig_yes (M := M) g)
    have hg := hide g
    obtain ⟨⟨ht0, ht1⟩, ⟨hn0, hn1⟩, hss, hps, hsx⟩ := isDoc_all g
    clear g
    rw [HP.out, HS.out] at hss
    subst hss
    rw [HP.out] at hn0 hn1
    have HPS := hide hps
    have HSX := hide hsx
    clear hps hsx hn0
    obtain ⟨W1, hW_W1⟩ : ∃ W1, w.alloc (.cells #[.int .i64 t, .slice P m c, .slice S m d] 27) = W1 := ⟨_, rfl⟩
    have hc_W10 : W1.cell? ⟨w.heap.size, 0, none⟩ = some (.int .i64 t) := by rw [← hW_W1]; simp
    have hc_W11 : W1.cell? ⟨w.heap.size, 1, none⟩ = some (.slice P m c) := by rw [← hW_W1]; simp
    have hc_W12 : W1.cell? ⟨w.heap.size, 2, none⟩ = some (.slice S m d) := by rw [← hW_W1]; simp
    have hs_W1 : w.heap.size < W1.heap.size := by rw [← hW_W1]; simp
    have hb_W1 : Below w.heap.size w W1 := by rw [← hW_W1]; repeat (first | exact Below.refl _ _ | assumption | refine Below.next_ ?_ ?_ (by assumption) | refine Below.drew ?_ | refine below_drewN ?_ _ | refine Below.alloc ?_ ?_ _ | refine Below.setCell ?_ ?_ _ | omega | (simp <;> omega) | (simp at * <;> omega))
    have HW_W1 := hide hW_W1
    clear hW_W1
    have k1 := h1.below hb_W1
    have k2 := h2.below hb_W1
    go_enter Try.func12, Try.ntmps12
    go_wp2_with fail
    rw [HW_W1.out]
    clear HW_W1
    refine (implIsDocument_any k1 k2 (by omega) (by omega)).mono ?_
    rintro e w1 ⟨rfl, hb1⟩
    rw [hg.out]
    obtain ⟨r0, r1, r2⟩ := keep3 hb1 hc_W10 hc_W11 hc_W12
    have hs1 := hb1.size
    have ho0 := own_base (World.ownsRow_lit (base := w1.heap.size) (e := 3) (size := 1) w1 #[.int .i64 t] 1 (Nat.le_refl _) (by unfold maxLen; omega) rfl) hs1
    have hb0 := hb1.alloc hs1 (.cells #[.int .i64 t] 3)
    obtain ⟨s0, s1, s2⟩ := keep3 hb0 hc_W10 hc_W11 hc_W12
    go_wp2_with fail
    go_loopw [5, 17] (fun lv i wr => ∃ (k : Nat) (B : Option Addr) (e : Nat), k ≤ m ∧ i = .int .i64 k ∧ lv = .slice B (1 + k) e ∧ wr.ownsRow W1.heap.size 3 1 (.slice B (1 + k) e) (1 + k) (ints (t :: (partsL M ps ss).take k)) ∧ Below W1.heap.size W1 wr) (fun _ i _ => m - (intOf i).toNat)
    case atStart => exact ⟨0, _, _, Nat.zero_le _, rfl, rfl, ho0, hb0⟩
    case round =>
      clear ho0 hb0 r0 r1 r2 s0 s1 s2 hb1 hs1
      obtain ⟨k, B, e, hk, rfl, rfl, ho, hb⟩ := hrel
      have hz := hb.size
      obtain ⟨q0, q1, q2⟩ := keep3 hb hc_W10 hc_W11 hc_W12
      have hk0 : (0 : Int) ≤ (k : Int) := by omega
      by_cases hlt : k < m
      · obtain ⟨pd, p, rfl, hp, hcp⟩ := Rd.st k1 hlt
        obtain ⟨sd, x, rfl, hx, hcx⟩ := Rd.int k2 hlt
        have hkn : (k : Int) < (m : Int) := by omega
        have qp := keep1 hb hcp
        have qx := keep1 hb hcx
        have hsz := HPS.out p (List.mem_of_getElem? hp)
        obtain ⟨hx1, hx2⟩ := HSX.out x (List.mem_of_getElem? hx)
        have hsz2 : p.size ≤ 137438953472 := by omega
        have hxI : I64 x := ⟨by omega, by omega⟩
        have HX := hide (partsL_at (M := M) hp hx)
        clear hp hx
        go_wp2_with fail
        refine (implPartDigest_any hsz2 HM.out hxI).mono ?_
        rintro e w3 ⟨rfl, hb3⟩
        have hs3 := hb3.size
        have hb13 : Below W1.heap.size W1 w3 := Below.next_ hb hz hb3
        have hz13 := hb13.size
        have ho3 := own_below ho hb3
        clear q0 q1 q2 qp qx hcp hcx
        go_wp2_with (at_builtin; refine wpList_app2 _ rfl (.tmp 22) (.tmp 31) 24 rfl 3 iInt (.int .i64 0) 1 8 Try.underlying24 hiInt hzInt0 hzInt1 hzInt2 rfl (by omega) rfl (ho3.alloc _) rfl (Rd.one _ _ _) (ints_one [_]) (by unfold maxLen; omega) (by omega) (Nat.add_assoc 1 k 1) rfl (hb13.alloc hz13 _) (by simp; omega) (Nat.le_refl _) (by simp; omega) ?_; intro A2 c2 w2 ho2 hb2 hg2 hat2)
        go_roundw
        case rel => exact ⟨k + 1, A2, c2, by omega, by go_num, rfl, by rw [take_snoc_ HX.out]; simpa [ints] using ho2, hb2⟩
        case measure => simp [intOf]; omega
      · obtain rfl : k = m := by omega
        have hL := hide (partsL_len (M := M) HP.out HS.out)
        have hkn : ¬ (k : Int) < (k : Int) := by omega
        go_wp2_with fail
        refine (implDigestOf_any (l := t :: partsL M ps ss) (by rw [List.take_of_length_le (by have := hL.out; omega)] at ho; exact Rd.of_own ho) (by omega) (part_l_I64 ⟨by omega, by omega⟩) HM.out).mono ?_
        rintro e w4 ⟨rfl, hb4⟩
        go_wp2_with fail
        go_ret
        exact ⟨ret_i hv.out.symm, by repeat (first | exact Below.refl _ _ | assumption | refine Below.next_ ?_ ?_ (by assumption) | refine Below.drew ?_ | refine below_drewN ?_ _ | refine Below.alloc ?_ ?_ _ | refine Below.setCell ?_ ?_ _ | omega | (dsimp only; omega) | (simp <;> omega) | (simp at * <;> omega))⟩
end Go.Proofs.Ythjdigiaajdnbaa
