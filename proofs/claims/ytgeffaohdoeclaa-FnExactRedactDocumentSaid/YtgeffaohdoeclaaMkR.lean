/- Contracts of the laws' own marking of redacted documents. For rows of at most 2^40 elements. -/
import Derived.Test.YtgeffaohdoeclaaRdt
import Derived.Test.YtgeffaohdoeclaaMarkD
import Derived.Test.YtgeffaohdoeclaaBoolS
namespace Go.Proofs.Ytgeffaohdoeclaa
open Go.RowKit Go.WideShapes Go.ChangeShapes Go.Deep
set_option linter.unusedSimpArgs false
set_option linter.unusedVariables false
set_option maxRecDepth 1000000
def mkSS : Int → List Nat → List (List Int)
  | _, [] => []
  | k, n :: ns => mk k n :: mkSS (k + n) ns
theorem mkSS_len : ∀ (k : Int) (ns : List Nat), (mkSS k ns).length = ns.length := by
  intro k ns
  induction ns generalizing k with
  | nil => rfl
  | cons n ns ih => simp [mkSS, ih]
theorem mkSS_at : ∀ {k : Int} {ns : List Nat} {j n : Nat}, ns[j]? = some n → (mkSS k ns)[j]? = some (mk (k + ((ns.take j).sum : Nat)) n) := by
  intro k ns
  induction ns generalizing k with
  | nil => intro j n h; simp at h
  | cons x ns ih =>
    intro j n h
    cases j with
    | zero => simp at h; subst h; simp [mkSS]
    | succ j =>
      simp at h
      have := ih (k := k + x) h
      simp only [mkSS, List.getElem?_cons_succ, this, List.take_succ_cons, List.sum_cons]
      congr 2
      omega
theorem sum_take_succ {ns : List Nat} {j n : Nat} (h : ns[j]? = some n) : (ns.take (j + 1)).sum = (ns.take j).sum + n := by
  rw [take_snoc_ h]; simp
theorem sum_take_le (ns : List Nat) (j : Nat) : (ns.take j).sum ≤ ns.sum := by
  conv => rhs; rw [← List.take_append_drop j ns]
  rw [List.sum_append]; omega
def lens (rs : List Sr) : List Nat := rs.map fun r => r.2.1
theorem lens_at {rs : List Sr} {j : Nat} {r : Sr} (h : rs[j]? = some r) : (lens rs)[j]? = some r.2.1 := by simp [lens, h]
theorem inn_at {rs : List Sr} {ls : List (List Int)} {j : Nat} {r : Sr} {l : List Int} (h : rs[j]? = some r) (h2 : ls[j]? = some l) : (inn rs ls)[j]? = some ⟨3, r.1, r.2.1, r.2.2, ints l⟩ := by
  unfold inn
  rw [List.getElem?_zipWith, h, h2]
theorem inn_len {rs : List Sr} {ls : List (List Int)} (h : rs.length = ls.length) : (inn rs ls).length = rs.length := by simp [inn, h]
theorem inn_set {rs : List Sr} {ls : List (List Int)} {j : Nat} {r : Sr} (h : rs[j]? = some r) (hl : rs.length = ls.length) (l : List Int) : (inn rs ls).set j ⟨3, r.1, r.2.1, r.2.2, ints l⟩ = inn rs (ls.set j l) := by
  apply List.ext_getElem?
  intro i
  have hj := get_lt h
  rw [List.getElem?_set]
  by_cases hij : j = i
  · subst hij
    rw [if_pos rfl, if_pos (by rw [inn_len hl]; exact hj), inn_at h (by rw [List.getElem?_set_self (by omega)])]
  · rw [if_neg hij]
    unfold inn
    rw [List.getElem?_zipWith, List.getElem?_zipWith, List.getElem?_set_ne hij]
def SameAt (w w' : World) (k : Nat) : Prop := w'.heap[k]? = w.heap[k]?
theorem SameAt.trans {a b c : World} {k : Nat} (h : SameAt a b k) (h2 : SameAt b c k) : SameAt a c k := Eq.trans h2 h
/-- one of the rows was written over -/
theorem Rows_.mark {w w' : World} {b k i : Nat} {fs : List Fld} {f : Fld} {ys : List Value} (h : Rows_ w b k fs) (hk : k < w.heap.size) (hb : b ≤ w.heap.size) (hi : fs[i]? = some f) (ho : w'.ownsRow b f.e 1 (.slice f.A f.n f.c) f.n ys) (hg : w.grownBy w' (blk f.A)) :
    Rows_ w' b k (fs.set i ⟨f.e, f.A, f.n, f.c, ys⟩) ∧ Below b w w' ∧ SameAt w w' k := by
  refine ⟨h.app (w' := w) hk hi (Below.refl _ _) ho hg (.inl rfl), ?_, ?_⟩
  · refine ⟨hg.os, hg.tape, hg.output, hg.size, fun g hgb => ?_⟩
    refine hg.block g (by omega) fun e => ?_
    have := ((h.own i f hi).lt g (by rw [blk_own]; exact e.symm)).1
    omega
  · exact hg.block k hk fun e => h.off i f hi e.symm
set_option maxHeartbeats 4000000 in
theorem markIntSS_any {b kx q n c : Nat} {A : Option Addr} {k : Int} {pre : List Fld} {rs : List Sr} {ds : List (List Int)} {w : World} (hR : Rows_ w b kx (pre ++ inn rs ds)) (hkx : kx < w.heap.size) (hb : b ≤ w.heap.size) (hD : pre[q]? = some ⟨24, A, n, c, srs rs⟩) (hl : rs.length = ds.length) (hk0 : 0 ≤ k) (hk : k ≤ 562949953421312) (hs : (lens rs).sum ≤ 4398046511104) (hn : n ≤ 1099511627776) :
    Calls Try.prog 86 #[.slice A n c, .int .i64 k] w fun e w' => e = .returned (.int .i64 (k + ((lens rs).sum : Nat))) ∧ Rows_ w' b kx (pre ++ inn rs (mkSS k (lens rs))) ∧ Below b w w' ∧ SameAt w w' kx := by
  have hrl : rs.length = n := by
    have := (Rd.of_own (hR.own q _ (by rw [List.getElem?_append_left (get_lt hD)]; exact hD))).1
    simpa [srs] using this
  have HRL := hide hrl
  have HL := hide hl
  have HD := hide hD
  clear hrl hl hD
  go_enter Try.func86, Try.ntmps86
  go_wp2_with fail
  go_loopw [1, 5] (fun kk i wr => ∃ j : Nat, j ≤ n ∧ i = .int .i64 j ∧ kk = .int .i64 (k + (((lens rs).take j).sum : Nat)) ∧ Rows_ wr b kx (pre ++ inn rs ((mkSS k (lens rs)).take j ++ ds.drop j)) ∧ Below b w wr ∧ SameAt w wr kx) (fun _ i _ => n - (intOf i).toNat)
  case atStart => exact ⟨0, Nat.zero_le _, rfl, by simp, by simpa using hR, Below.refl _ _, rfl⟩
  case round =>
    obtain ⟨j, hj, rfl, rfl, hRr, hbr, hkr⟩ := hrel
    have hz := hbr.size
    have hj0 : (0 : Int) ≤ (j : Int) := by omega
    by_cases hlt : j < n
    · have hjn : (j : Int) < (n : Int) := by omega
      have hrj : j < rs.length := by have := HRL.out; omega
      obtain ⟨r, hr⟩ : ∃ r, rs[j]? = some r := ⟨_, List.getElem?_eq_getElem hrj⟩
      have hll : (mkSS k (lens rs)).length = rs.length := by rw [mkSS_len]; simp [lens]
      have hxs : ((mkSS k (lens rs)).take j ++ ds.drop j).length = rs.length := by have := HL.out; simp; omega
      obtain ⟨l, hlj⟩ : ∃ l, ((mkSS k (lens rs)).take j ++ ds.drop j)[j]? = some l := ⟨_, List.getElem?_eq_getElem (by omega)⟩
      have hown := hRr.own (pre.length + j) _ (by rw [List.getElem?_append_right (by omega), Nat.add_sub_cancel_left]; exact inn_at hr hlj)
      obtain ⟨ad, u, rfl, hu, hc⟩ := (Rd.of_own (hRr.own q _ (by rw [List.getElem?_append_left (get_lt HD.out)]; exact HD.out))).at_ hlt
      obtain ⟨r2, hr2, rfl⟩ := map_at hu
      rw [hr] at hr2
      injection hr2 with hr2
      subst hr2
      obtain ⟨RA, rn, rc⟩ := r
      have hc' : wr.cell? (ad.add j) = some (.slice RA rn rc) := hc
      have hle := sum_take_le (lens rs) j
      have hstep := sum_take_succ (lens_at hr)
      have hle2 := sum_take_le (lens rs) (j + 1)
      have hln : rn ≤ 4398046511104 := by have : (lens rs)[j]? = some rn := lens_at hr; have := sum_take_succ this; omega
      have hk1 : (0 : Int) ≤ k + (((lens rs).take j).sum : Nat) := by omega
      have hk2 : k + (((lens rs).take j).sum : Nat) ≤ 1125899906842624 := by omega
      have HR := hide hr
      have HST := hide (show k + (((lens rs).take (j + 1)).sum : Nat) = k + (((lens rs).take j).sum : Nat) + (rn : Int) by rw [hstep]; push_cast; omega)
      have HMK := hide (show ((mkSS k (lens rs)).take j ++ ds.drop j).set j (mk (k + (((lens rs).take j).sum : Nat)) rn) = (mkSS k (lens rs)).take (j + 1) ++ ds.drop (j + 1) by
        have h1 := mkSS_at (k := k) (lens_at hr)
        have h2 : j < ds.length := by have := HL.out; omega
        rw [set_step (by rw [List.length_take]; omega) h2, take_snoc_ h1])
      clear hc hu hr hlj hstep hle hle2
      go_wp2_with fail
      refine (markIntS_any hown hln hk1 hk2).mono ?_
      rintro e w2 ⟨rfl, ho2, hg2⟩
      obtain ⟨m1, m2, m3⟩ := hRr.mark (i := pre.length + j) (by omega) (by omega) (by rw [List.getElem?_append_right (by omega), Nat.add_sub_cancel_left]; exact inn_at HR.out (List.getElem?_eq_getElem (by omega))) ho2 hg2
      rw [List.set_append_right _ _ (by omega), Nat.add_sub_cancel_left] at m1
      have m1' : Rows_ w2 b kx (pre ++ inn rs ((mkSS k (lens rs)).take (j + 1) ++ ds.drop (j + 1))) := by
        rw [← HMK.out, ← inn_set HR.out hxs.symm]
        exact m1
      have M1 := hide m1'
      clear m1 m1' ho2 hg2 hown
      go_wp2_with fail
      go_roundw
      case rel => exact ⟨j + 1, by omega, by go_num, by rw [HST.out], M1.out, hbr.trans m2, hkr.trans m3⟩
      case measure => simp [intOf]; omega
    · obtain rfl : j = n := by omega
      have hjn : ¬ (j : Int) < (j : Int) := by omega
      have hll : (mkSS k (lens rs)).length = rs.length := by rw [mkSS_len]; simp [lens]
      have e1 : (lens rs).take j = lens rs := List.take_of_length_le (by simp [lens]; have := HRL.out; omega)
      rw [List.take_of_length_le (by have := HRL.out; omega), List.drop_of_length_le (by have := HRL.out; have := HL.out; omega), List.append_nil] at hRr
      have E1 := hide e1
      clear e1
      go_wp2_with fail
      go_ret
      exact ⟨ret_i (by rw [E1.out]), hRr, hbr, hkr⟩
set_option maxHeartbeats 2000000 in
theorem heldIntSS_any {n c : Nat} {A : Option Addr} {k : Int} {ns : List Nat} {w : World} (h : RdSS w A n (mkSS k ns)) (hk0 : 0 ≤ k) (hk : k ≤ 562949953421312) (hs : ns.sum ≤ 4398046511104) (hn : n ≤ 1099511627776) :
    Calls Try.prog 90 #[.slice A n c, .int .i64 k] w fun e w' => e = .returned (.int .i64 (k + (ns.sum : Nat))) ∧ Below w.heap.size w w' := by
  have HL := hide (show ns.length = n by rw [← mkSS_len k ns]; exact h.len)
  go_enter Try.func90, Try.ntmps90
  go_wp2_with fail
  go_loopw [1, 5] (fun kk i wr => ∃ j : Nat, j ≤ n ∧ i = .int .i64 j ∧ kk = .int .i64 (k + ((ns.take j).sum : Nat)) ∧ Below w.heap.size w wr) (fun _ i _ => n - (intOf i).toNat)
  case atStart => exact ⟨0, Nat.zero_le _, rfl, by simp, Below.refl _ _⟩
  case round =>
    obtain ⟨j, hj, rfl, rfl, hb⟩ := hrel
    have hz := hb.size
    have hj0 : (0 : Int) ≤ (j : Int) := by omega
    by_cases hlt : j < n
    · have hjn : (j : Int) < (n : Int) := by omega
      have hnj : j < ns.length := by have := HL.out; omega
      obtain ⟨x, hx⟩ : ∃ x, ns[j]? = some x := ⟨_, List.getElem?_eq_getElem hnj⟩
      obtain ⟨ad, B, m, c2, l, rfl, hl, hc, hr⟩ := (h.below hb).at_ hlt
      rw [mkSS_at hx] at hl
      injection hl with hl
      subst hl
      have hm : x = m := by have := hr.len; rwa [mk_length] at this
      subst hm
      have hle := sum_take_le ns j
      have hstep := sum_take_succ hx
      have hle2 := sum_take_le ns (j + 1)
      have hk1 : (0 : Int) ≤ k + ((ns.take j).sum : Nat) := by omega
      have hk2 : k + ((ns.take j).sum : Nat) ≤ 1125899906842624 := by omega
      have hk3 : ¬ k + ((ns.take j).sum : Nat) + (x : Int) < 0 := by omega
      have HST := hide (show k + ((ns.take (j + 1)).sum : Nat) = k + ((ns.take j).sum : Nat) + (x : Int) by rw [hstep]; push_cast; omega)
      have hxle : x ≤ 4398046511104 := by omega
      clear hx hstep hle2
      go_wp2_with fail
      refine (heldIntS_any hr hxle hk1 hk2).mono ?_
      rintro e _ ⟨rfl, q, rfl⟩
      go_wp2_with fail
      go_roundw
      case rel => exact ⟨j + 1, by omega, by go_num, by rw [HST.out], below_drewN hb _⟩
      case measure => simp [intOf]; omega
    · obtain rfl : j = n := by omega
      have hjn : ¬ (j : Int) < (j : Int) := by omega
      have E1 := hide (show ns.take j = ns from List.take_of_length_le (by have := HL.out; omega))
      go_wp2_with fail
      go_ret
      exact ⟨ret_i (by rw [E1.out]), hb⟩
end Go.Proofs.Ytgeffaohdoeclaa
