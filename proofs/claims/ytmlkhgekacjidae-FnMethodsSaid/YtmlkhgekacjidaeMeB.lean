/- Contracts of BestMethod, IsAlive, BreakOf and AreMethods, of the program and of the reference. For slices of at most 2^40 methods. -/
import Derived.Test.YtmlkhgekacjidaeMeS
import Derived.Test.YtmlkhgekacjidaeQui
namespace Go.Proofs.Ytmlkhgekacjidae
open Go.RowKit Go.WideShapes Go.ChangeShapes Go.Deep
set_option linter.unusedSimpArgs false
set_option linter.unusedVariables false
theorem findF_lt {l : List Mt} {id : Int} {k : Nat} (h : findF l id = some k) : k < l.length := by
  unfold findF at h
  rw [List.findIdx?_eq_some_iff_getElem] at h
  exact h.1
def breakF (l : List Mt) (id : Int) : Int := match findF l id with | none => 0 | some k => (l.getD k ⟨0, 0, 0, 0⟩).d
def aliveF (l : List Mt) (id t : Int) : Bool := match findF l id with | none => false | some k => decide ((l.getD k ⟨0, 0, 0, 0⟩).b ≤ t) && decide (t < (l.getD k ⟨0, 0, 0, 0⟩).d)
theorem breakF_none {l : List Mt} {id : Int} (h : findF l id = none) : breakF l id = 0 := by unfold breakF; rw [h]
theorem breakF_some {l : List Mt} {id : Int} {k : Nat} {m : Mt} (h : findF l id = some k) (hm : l[k]? = some m) : breakF l id = m.d := by unfold breakF; rw [h]; simp [hm]
theorem aliveF_none {l : List Mt} {id t : Int} (h : findF l id = none) : aliveF l id t = false := by unfold aliveF; rw [h]
theorem aliveF_some {l : List Mt} {id t : Int} {k : Nat} {m : Mt} (h : findF l id = some k) (hm : l[k]? = some m) : aliveF l id t = (decide (m.b ≤ t) && decide (t < m.d)) := by unfold aliveF; rw [h]; simp [hm]
set_option maxHeartbeats 1000000 in
theorem implBreakOf_any {A : Option Addr} {n c : Nat} {l : List Mt} {id : Int} {w : World} (h : Rd w 4 A n (mts l)) (hn : n ≤ 1099511627776) :
    Calls Try.prog 32 #[.slice A n c, .int .i64 id] w fun e w' => e = .returned (.int .i64 (breakF l id)) ∧ Below w.heap.size w w' := by
  have HL := hide h.mtlen
  cases hf : findF l id with
  | none =>
    have HF := hide (findI_none hf)
    have hfin := hide (breakF_none hf)
    clear hf
    go_enter Try.func32, Try.ntmps32
    go_wp2_with fail
    refine (implFindMethod_any h hn).mono ?_
    rw [HF.out]
    rintro e w1 ⟨rfl, hb⟩
    go_wp2_with fail
    (try go_quiet (fail)); (try go_wp2_with fail)
    go_ret
    exact ⟨ret_i hfin.out.symm, by repeat (first | exact Below.refl _ _ | assumption | refine Below.next_ ?_ ?_ (by assumption) | refine Below.drew ?_ | refine below_drewN ?_ _ | refine Below.alloc ?_ ?_ _ | refine Below.setCell ?_ ?_ _ | omega | (simp <;> omega) | (simp at * <;> omega))⟩
  | some k =>
    have hkl := findF_lt hf
    obtain ⟨ad, m, rfl, hm, hc0, hc1, hc2, hc3⟩ := Rd.mt h (k := k) (by have := HL.out; omega)
    have hkn : (k : Int) < (n : Int) := by have := HL.out; omega
    have hk0 : (0 : Int) ≤ (k : Int) := by omega
    have HF := hide (findI_some hf)
    have hfin := hide (breakF_some hf hm)
    have hA := cell_lt hc0
    clear hf hkl hm
    go_enter Try.func32, Try.ntmps32
    go_wp2_with fail
    refine (implFindMethod_any h hn).mono ?_
    rw [HF.out]
    rintro e w1 ⟨rfl, hb⟩
    have hc0_ := (hb.cell (p := ad.add (k * 4)) hA).trans hc0; have hc1_ := (hb.cell (p := ⟨(ad.add (k * 4)).block, (ad.add (k * 4)).off + 1, none⟩) hA).trans hc1; have hc3_ := (hb.cell (p := ⟨(ad.add (k * 4)).block, (ad.add (k * 4)).off + 3, none⟩) hA).trans hc3
    go_wp2_with fail
    (try go_quiet (fail)); (try go_wp2_with fail)
    go_ret
    exact ⟨ret_i hfin.out.symm, by repeat (first | exact Below.refl _ _ | assumption | refine Below.next_ ?_ ?_ (by assumption) | refine Below.drew ?_ | refine below_drewN ?_ _ | refine Below.alloc ?_ ?_ _ | refine Below.setCell ?_ ?_ _ | omega | (simp <;> omega) | (simp at * <;> omega))⟩
set_option maxHeartbeats 1000000 in
theorem implIsAlive_any {A : Option Addr} {n c : Nat} {l : List Mt} {id t : Int} {w : World} (h : Rd w 4 A n (mts l)) (hn : n ≤ 1099511627776) :
    Calls Try.prog 31 #[.slice A n c, .int .i64 id, .int .i64 t] w fun e w' => e = .returned (.bool (aliveF l id t)) ∧ Below w.heap.size w w' := by
  have HL := hide h.mtlen
  cases hf : findF l id with
  | none =>
    have HF := hide (findI_none hf)
    have hfin := hide (aliveF_none (t := t) hf)
    clear hf
    go_enter Try.func31, Try.ntmps31
    go_wp2_with fail
    refine (implFindMethod_any h hn).mono ?_
    rw [HF.out]
    rintro e w1 ⟨rfl, hb⟩
    go_wp2_with fail
    (try go_quiet (fail)); (try go_wp2_with fail)
    go_ret
    exact ⟨ret_b hfin.out.symm, by repeat (first | exact Below.refl _ _ | assumption | refine Below.next_ ?_ ?_ (by assumption) | refine Below.drew ?_ | refine below_drewN ?_ _ | refine Below.alloc ?_ ?_ _ | refine Below.setCell ?_ ?_ _ | omega | (simp <;> omega) | (simp at * <;> omega))⟩
  | some k =>
    have hkl := findF_lt hf
    obtain ⟨ad, m, rfl, hm, hc0, hc1, hc2, hc3⟩ := Rd.mt h (k := k) (by have := HL.out; omega)
    have hkn : (k : Int) < (n : Int) := by have := HL.out; omega
    have hk0 : (0 : Int) ≤ (k : Int) := by omega
    have HF := hide (findI_some hf)
    have hfin := hide (aliveF_some (t := t) hf hm)
    have hA := cell_lt hc0
    clear hf hkl hm
    go_enter Try.func31, Try.ntmps31
    go_wp2_with fail
    refine (implFindMethod_any h hn).mono ?_
    rw [HF.out]
    rintro e w1 ⟨rfl, hb⟩
    have hc0_ := (hb.cell (p := ad.add (k * 4)) hA).trans hc0; have hc1_ := (hb.cell (p := ⟨(ad.add (k * 4)).block, (ad.add (k * 4)).off + 1, none⟩) hA).trans hc1; have hc3_ := (hb.cell (p := ⟨(ad.add (k * 4)).block, (ad.add (k * 4)).off + 3, none⟩) hA).trans hc3
    by_cases h1 : m.b ≤ t
    · by_cases h2 : t < m.d
      · have hv := hide (show aliveF l id t = true by rw [hfin.out]; simp [h1, h2])
        go_wp2_with fail
        go_ret
        exact ⟨ret_b hv.out.symm, by repeat (first | exact Below.refl _ _ | assumption | refine Below.next_ ?_ ?_ (by assumption) | refine Below.drew ?_ | refine below_drewN ?_ _ | refine Below.alloc ?_ ?_ _ | refine Below.setCell ?_ ?_ _ | omega | (simp <;> omega) | (simp at * <;> omega))⟩
      · have hv := hide (show aliveF l id t = false by rw [hfin.out]; simp [h2])
        go_wp2_with fail
        go_ret
        exact ⟨ret_b (by rw [hv.out]; simpa using h2), by repeat (first | exact Below.refl _ _ | assumption | refine Below.next_ ?_ ?_ (by assumption) | refine Below.drew ?_ | refine below_drewN ?_ _ | refine Below.alloc ?_ ?_ _ | refine Below.setCell ?_ ?_ _ | omega | (simp <;> omega) | (simp at * <;> omega))⟩
    · have hv := hide (show aliveF l id t = false by rw [hfin.out]; simp [h1])
      have h1' : decide (m.b ≤ t) = false := by simpa using h1
      go_wp2_with fail
      go_ret
      exact ⟨ret_b hv.out.symm, by repeat (first | exact Below.refl _ _ | assumption | refine Below.next_ ?_ ?_ (by assumption) | refine Below.drew ?_ | refine below_drewN ?_ _ | refine Below.alloc ?_ ?_ _ | refine Below.setCell ?_ ?_ _ | omega | (simp <;> omega) | (simp at * <;> omega))⟩
def bestStep (l : List Mt) (t : Int) (best : Option Nat) (k : Nat) : Option Nat :=
  match l[k]? with
  | none => best
  | some m => if m.b ≤ t ∧ t < m.c ∧ (match best with | none => true | some j => decide ((l.getD j ⟨0, 0, 0, 0⟩).c < m.c)) = true then some k else best
def bestTo (l : List Mt) (t : Int) (k : Nat) : Option Nat := (List.range k).foldl (bestStep l t) none
def bestF (l : List Mt) (t : Int) : Option Nat := bestTo l t l.length
def bestI (l : List Mt) (t : Int) : Int := match bestF l t with | none => -1 | some j => (l.getD j ⟨0, 0, 0, 0⟩).a
theorem bestTo_succ (l : List Mt) (t : Int) (k : Nat) : bestTo l t (k + 1) = bestStep l t (bestTo l t k) k := by simp [bestTo, List.range_succ]
theorem bestTo_lt (l : List Mt) (t : Int) : ∀ (k j : Nat), bestTo l t k = some j → j < k := by
  intro k
  induction k with
  | zero => intro j h; simp [bestTo] at h
  | succ k ih =>
    intro j h
    rw [bestTo_succ] at h
    unfold bestStep at h
    cases hm : l[k]? with
    | none => rw [hm] at h; have := ih j h; omega
    | some m =>
      rw [hm] at h
      dsimp only at h
      by_cases hc : m.b ≤ t ∧ t < m.c ∧ (match bestTo l t k with | none => true | some j => decide ((l.getD j ⟨0, 0, 0, 0⟩).c < m.c)) = true
      · rw [if_pos hc] at h; injection h with h; omega
      · rw [if_neg hc] at h; have := ih j h; omega
theorem bestTo_yes0 {l : List Mt} {t : Int} {k : Nat} {m : Mt} (hm : l[k]? = some m) (hb : bestTo l t k = none) (h1 : m.b ≤ t) (h2 : t < m.c) : bestTo l t (k + 1) = some k := by
  rw [bestTo_succ, hb]; unfold bestStep; rw [hm]; simp [h1, h2]
theorem bestTo_yes1 {l : List Mt} {t : Int} {k j : Nat} {m x : Mt} (hm : l[k]? = some m) (hb : bestTo l t k = some j) (hx : l[j]? = some x) (h1 : m.b ≤ t) (h2 : t < m.c) (h3 : x.c < m.c) : bestTo l t (k + 1) = some k := by
  rw [bestTo_succ, hb]; unfold bestStep; rw [hm]; simp [h1, h2, hx, h3]
theorem bestTo_no0 {l : List Mt} {t : Int} {k : Nat} {m : Mt} {b : Option Nat} (hm : l[k]? = some m) (hb : bestTo l t k = b) (h : ¬ (m.b ≤ t ∧ t < m.c)) : bestTo l t (k + 1) = b := by
  rw [bestTo_succ, hb]; unfold bestStep; rw [hm]; simp only; rw [if_neg (fun h' => h ⟨h'.1, h'.2.1⟩)]
theorem bestTo_no1 {l : List Mt} {t : Int} {k j : Nat} {m x : Mt} (hm : l[k]? = some m) (hb : bestTo l t k = some j) (hx : l[j]? = some x) (h3 : ¬ x.c < m.c) : bestTo l t (k + 1) = some j := by
  rw [bestTo_succ, hb]; unfold bestStep; rw [hm]; simp [hx, h3]
def obI (b : Option Nat) : Int := match b with | none => -1 | some j => (j : Int)
set_option maxHeartbeats 4000000 in
theorem implBestMethod_any {A : Option Addr} {n c : Nat} {l : List Mt} {t : Int} {w : World} (h : Rd w 4 A n (mts l)) (hn : n ≤ 1099511627776) :
    Calls Try.prog 35 #[.slice A n c, .int .i64 t] w fun e w' => e = .returned (.int .i64 (bestI l t)) ∧ Below w.heap.size w w' := by
  have HL := hide h.mtlen
  go_enter Try.func35, Try.ntmps35
  go_wp2
  go_loopw [5, 10] (fun bv i wr => ∃ (k : Nat) (b : Option Nat), k ≤ n ∧ i = .int .i64 k ∧ bv = .int .i64 (obI b) ∧ Hid (bestTo l t k = b) ∧ Below w.heap.size w wr) (fun _ i _ => n - (intOf i).toNat)
  case atStart => exact ⟨0, none, Nat.zero_le _, rfl, rfl, rfl, Below.refl _ _⟩
  case round =>
    obtain ⟨k, b, hk, rfl, rfl, hbt, hb⟩ := hrel
    have hz := hb.size
    by_cases hlt : k < n
    · obtain ⟨ad, m, rfl, hm, hc0, hc1, hc2, hc3⟩ := Rd.mt (h.below hb) hlt
      have hkn : (k : Int) < (n : Int) := by omega
      have hk0 : (0 : Int) ≤ (k : Int) := by omega
      have HM := hide hm
      clear hm
      by_cases h1 : m.b ≤ t
      · by_cases h2 : t < m.c
        · cases b with
          | none =>
            have hst := hide (bestTo_yes0 HM.out hbt.out h1 h2)
            have ho : obI none = -1 := rfl
            rw [ho]
            go_wp2
            go_quiet (fail)
            go_wp2
            go_roundw
            case rel => exact ⟨k + 1, some k, by omega, by go_num, rfl, hst, by repeat (first | exact Below.refl _ _ | assumption | refine Below.next_ ?_ ?_ (by assumption) | refine Below.drew ?_ | refine below_drewN ?_ _ | refine Below.alloc ?_ ?_ _ | refine Below.setCell ?_ ?_ _ | omega | (simp <;> omega) | (simp at * <;> omega))⟩
            case measure => simp [intOf]; omega
          | some j =>
            have hjk := bestTo_lt _ _ _ _ hbt.out
            obtain ⟨ad', x, e_, hx, hd0, hd1, hd2, hd3⟩ := Rd.mt (h.below hb) (k := j) (by omega)
            obtain rfl : ad = ad' := by injection e_
            clear e_
            have hjn : (j : Int) < (n : Int) := by omega
            have hj0 : (0 : Int) ≤ (j : Int) := by omega
            have hj1 : ¬ (j : Int) < 0 := by omega
            have ho : obI (some j) = (j : Int) := rfl
            rw [ho]
            have hdA : ∀ o, (wr.alloc o).cell? ⟨(ad.add (j * 4)).block, (ad.add (j * 4)).off + 2, none⟩ = some (.int .i64 x.c) := fun o => (World.cell?_alloc_lt _ _ ⟨(ad.add (j * 4)).block, (ad.add (j * 4)).off + 2, none⟩ (cell_lt hd2)).trans hd2
            by_cases h3 : x.c < m.c
            · have hst := hide (bestTo_yes1 HM.out hbt.out hx h1 h2 h3)
              clear hx
              go_wp2
              go_quiet (fail)
              go_wp2
              go_roundw
              case rel => exact ⟨k + 1, some k, by omega, by go_num, rfl, hst, by repeat (first | exact Below.refl _ _ | assumption | refine Below.next_ ?_ ?_ (by assumption) | refine Below.drew ?_ | refine below_drewN ?_ _ | refine Below.alloc ?_ ?_ _ | refine Below.setCell ?_ ?_ _ | omega | (simp <;> omega) | (simp at * <;> omega))⟩
              case measure => simp [intOf]; omega
            · have hst := hide (bestTo_no1 HM.out hbt.out hx h3)
              have h3' : decide (x.c < m.c) = false := by simpa using h3
              clear hx
              go_wp2
              go_quiet (fail)
              go_wp2
              go_roundw
              case rel => exact ⟨k + 1, some j, by omega, by go_num, rfl, hst, by repeat (first | exact Below.refl _ _ | assumption | refine Below.next_ ?_ ?_ (by assumption) | refine Below.drew ?_ | refine below_drewN ?_ _ | refine Below.alloc ?_ ?_ _ | refine Below.setCell ?_ ?_ _ | omega | (simp <;> omega) | (simp at * <;> omega))⟩
              case measure => simp [intOf]; omega
        · have hst := hide (bestTo_no0 HM.out hbt.out (fun h => h2 h.2))
          have h2' : decide (t < m.c) = false := by simpa using h2
          go_wp2
          go_quiet (fail)
          go_wp2
          go_roundw
          case rel => exact ⟨k + 1, b, by omega, by go_num, rfl, hst, by repeat (first | exact Below.refl _ _ | assumption | refine Below.next_ ?_ ?_ (by assumption) | refine Below.drew ?_ | refine below_drewN ?_ _ | refine Below.alloc ?_ ?_ _ | refine Below.setCell ?_ ?_ _ | omega | (simp <;> omega) | (simp at * <;> omega))⟩
          case measure => simp [intOf]; omega
      · have hst := hide (bestTo_no0 HM.out hbt.out (fun h => h1 h.1))
        have h1' : decide (m.b ≤ t) = false := by simpa using h1
        go_wp2
        go_quiet (fail)
        go_wp2
        go_roundw
        case rel => exact ⟨k + 1, b, by omega, by go_num, rfl, hst, by repeat (first | exact Below.refl _ _ | assumption | refine Below.next_ ?_ ?_ (by assumption) | refine Below.drew ?_ | refine below_drewN ?_ _ | refine Below.alloc ?_ ?_ _ | refine Below.setCell ?_ ?_ _ | omega | (simp <;> omega) | (simp at * <;> omega))⟩
        case measure => simp [intOf]; omega
    · have hbl := hbt.out
      have hkl : k = l.length := by have := HL.out; omega
      rw [hkl] at hbl
      have HB := hide (show bestF l t = b from hbl)
      clear hbl hkl
      cases b with
      | none =>
        have hfin := hide (show bestI l t = -1 by unfold bestI; rw [HB.out])
        have ho : obI none = -1 := rfl
        rw [ho]
        go_wp2
        go_ret
        exact ⟨ret_i hfin.out.symm, by repeat (first | exact Below.refl _ _ | assumption | refine Below.next_ ?_ ?_ (by assumption) | refine Below.drew ?_ | refine below_drewN ?_ _ | refine Below.alloc ?_ ?_ _ | refine Below.setCell ?_ ?_ _ | omega | (simp <;> omega) | (simp at * <;> omega))⟩
      | some j =>
        have hjk := bestTo_lt _ _ _ _ hbt.out
        obtain ⟨ad, x, rfl, hx, hd0, hd1, hd2, hd3⟩ := Rd.mt (h.below hb) (k := j) (by omega)
        have hfin := hide (show bestI l t = x.a by unfold bestI; rw [HB.out]; simp [hx])
        clear hx
        have hjn : (j : Int) < (n : Int) := by omega
        have hj0 : (0 : Int) ≤ (j : Int) := by omega
        have hj1 : ¬ (j : Int) < 0 := by omega
        have ho : obI (some j) = (j : Int) := rfl
        rw [ho]
        go_wp2
        go_ret
        exact ⟨ret_i hfin.out.symm, by repeat (first | exact Below.refl _ _ | assumption | refine Below.next_ ?_ ?_ (by assumption) | refine Below.drew ?_ | refine below_drewN ?_ _ | refine Below.alloc ?_ ?_ _ | refine Below.setCell ?_ ?_ _ | omega | (simp <;> omega) | (simp at * <;> omega))⟩
def okAt (l : List Mt) (i : Nat) : Bool := match l[i]? with | none => true | some m => isMe m.a m.b m.c m.d && (decide (i = 0) || decide ((l.getD (i - 1) ⟨0, 0, 0, 0⟩).a < m.a))
def areF (l : List Mt) : Bool := (List.range l.length).all (okAt l) && decide (l.length ≤ 8)
theorem areF_bad {l : List Mt} {k : Nat} (hk : k < l.length) (h : okAt l k = false) : areF l = false := by
  unfold areF
  rw [Bool.and_eq_false_iff]
  left
  rw [List.all_eq_false]
  exact ⟨k, by simpa using hk, by simp [h]⟩
theorem areF_end {l : List Mt} (h : ∀ j, j < l.length → okAt l j = true) : areF l = decide (l.length ≤ 8) := by
  unfold areF
  rw [show (List.range l.length).all (okAt l) = true by rw [List.all_eq_true]; intro j hj; exact h j (by simpa using hj)]
  simp
theorem okAt_0 {l : List Mt} {m : Mt} (hm : l[0]? = some m) (h : isMe m.a m.b m.c m.d = true) : okAt l 0 = true := by unfold okAt; rw [hm]; simp [h]
theorem okAt_me {l : List Mt} {k : Nat} {m : Mt} (hm : l[k]? = some m) (h : isMe m.a m.b m.c m.d = false) : okAt l k = false := by unfold okAt; rw [hm]; simp [h]
theorem okAt_s {l : List Mt} {k : Nat} {m x : Mt} (hm : l[k + 1]? = some m) (hx : l[k]? = some x) (h : isMe m.a m.b m.c m.d = true) : okAt l (k + 1) = decide (x.a < m.a) := by unfold okAt; rw [hm]; simp [h, hx]
set_option maxHeartbeats 4000000 in
theorem specAreMethods_any {A : Option Addr} {n c : Nat} {l : List Mt} {w : World} (h : Rd w 4 A n (mts l)) (hn : n ≤ 1099511627776) :
    Calls Try.prog 30 #[.slice A n c] w fun e w' => e = .returned (.bool (areF l)) ∧ Below w.heap.size w w' := by
  have HL := hide h.mtlen
  go_enter Try.func30, Try.ntmps30
  go_wp2
  go_loopw [3] (fun i wr => ∃ k : Nat, k ≤ n ∧ i = .int .i64 k ∧ Hid (∀ j, j < k → okAt l j = true) ∧ Below w.heap.size w wr) (fun i _ => n - (intOf i).toNat)
  case atStart => exact ⟨0, Nat.zero_le _, rfl, (fun j hj => absurd hj (Nat.not_lt_zero _)), Below.refl _ _⟩
  case round =>
    obtain ⟨k, hk, rfl, hok, hb⟩ := hrel
    have hz := hb.size
    by_cases hlt : k < n
    · obtain ⟨ad, m, rfl, hm, hc0, hc1, hc2, hc3⟩ := Rd.mt (h.below hb) hlt
      have hkn : (k : Int) < (n : Int) := by omega
      have hk0 : (0 : Int) ≤ (k : Int) := by omega
      have hA := cell_lt hc0
      have HM := hide hm
      clear hm
      have hb_ := hb
      cases hme : isMe m.a m.b m.c m.d with
      | false =>
        have hfin := hide (areF_bad (by have := HL.out; omega) (okAt_me HM.out hme))
        go_wp2
        have ha0_ := after_cell (w0 := wr) (a := (ad.add (k * 4))) (v := .int .i64 m.a) (by first | assumption | exact (World.cell?_alloc_lt _ _ _ (cell_lt (by assumption))).trans (by assumption) | simp [*])
        have ha1_ := after_cell (w0 := wr) (a := ⟨(ad.add (k * 4)).block, (ad.add (k * 4)).off + 1, none⟩) (v := .int .i64 m.b) (by first | assumption | exact (World.cell?_alloc_lt _ _ _ (cell_lt (by assumption))).trans (by assumption) | simp [*])
        have ha2_ := after_cell (w0 := wr) (a := ⟨(ad.add (k * 4)).block, (ad.add (k * 4)).off + 2, none⟩) (v := .int .i64 m.c) (by first | assumption | exact (World.cell?_alloc_lt _ _ _ (cell_lt (by assumption))).trans (by assumption) | simp [*])
        have ha3_ := after_cell (w0 := wr) (a := ⟨(ad.add (k * 4)).block, (ad.add (k * 4)).off + 3, none⟩) (v := .int .i64 m.d) (by first | assumption | exact (World.cell?_alloc_lt _ _ _ (cell_lt (by assumption))).trans (by assumption) | simp [*])
        refine wp_region_after (by kernel_rfl) (by kernel_rfl) ?_
        repeat (go_big_quiet_step ((go_at_call 100; refine Calls.after (specIsMethod_any m.a m.b m.c m.d _))))
        refine wpQuiet_nil ?_
        rintro _ ⟨⟨w1, hb1⟩, rfl⟩
        go_wp2
        go_ret
        exact ⟨ret_b hfin.out.symm, by repeat (first | exact Below.refl _ _ | assumption | refine Below.next_ ?_ ?_ (by assumption) | refine Below.drew ?_ | refine below_drewN ?_ _ | refine Below.alloc ?_ ?_ _ | refine Below.setCell ?_ ?_ _ | omega | (simp <;> omega) | (simp at * <;> omega))⟩
      | true =>
        cases k with
        | zero =>
          have hst := hide (okAt_0 HM.out hme)
          have z_ : ad.add 0 = ad := rfl
          simp only [Nat.zero_mul, z_] at hc0 hc1 hc2 hc3
          clear z_
          go_wp2
          have ha0_ := after_cell (w0 := wr) (a := ad) (v := .int .i64 m.a) (by first | assumption | exact (World.cell?_alloc_lt _ _ _ (cell_lt (by assumption))).trans (by assumption) | simp [*])
          have ha1_ := after_cell (w0 := wr) (a := ⟨ad.block, ad.off + 1, none⟩) (v := .int .i64 m.b) (by first | assumption | exact (World.cell?_alloc_lt _ _ _ (cell_lt (by assumption))).trans (by assumption) | simp [*])
          have ha2_ := after_cell (w0 := wr) (a := ⟨ad.block, ad.off + 2, none⟩) (v := .int .i64 m.c) (by first | assumption | exact (World.cell?_alloc_lt _ _ _ (cell_lt (by assumption))).trans (by assumption) | simp [*])
          have ha3_ := after_cell (w0 := wr) (a := ⟨ad.block, ad.off + 3, none⟩) (v := .int .i64 m.d) (by first | assumption | exact (World.cell?_alloc_lt _ _ _ (cell_lt (by assumption))).trans (by assumption) | simp [*])
          refine wp_region_after (by kernel_rfl) (by kernel_rfl) ?_
          repeat (go_big_quiet_step ((go_at_call 100; refine Calls.after (specIsMethod_any m.a m.b m.c m.d _))))
          refine wpQuiet_nil ?_
          rintro _ ⟨⟨w1, hb1⟩, rfl⟩
          go_wp2
          go_roundw
          case rel => exact ⟨1, by omega, by go_num, (fun j hj => by obtain rfl : j = 0 := by omega
                                                                     exact hst.out), by repeat (first | exact Below.refl _ _ | assumption | refine Below.next_ ?_ ?_ (by assumption) | refine Below.drew ?_ | refine below_drewN ?_ _ | refine Below.alloc ?_ ?_ _ | refine Below.setCell ?_ ?_ _ | omega | (simp <;> omega) | (simp at * <;> omega))⟩
          case measure => simp [intOf]; omega
        | succ j =>
          obtain ⟨ad', x, e_, hx, hd0, hd1, hd2, hd3⟩ := Rd.mt (h.below hb) (k := j) (by omega)
          obtain rfl : ad = ad' := by injection e_
          clear e_
          have hB := cell_lt hd0
          have hok1 := hide (okAt_s HM.out hx hme)
          clear hx
          by_cases hxa : x.a < m.a
          · have hst := hide (hok1.out.trans (decide_eq_true hxa))
            go_wp2
            have ha0_ := after_cell (w0 := wr) (a := (ad.add ((j + 1) * 4))) (v := .int .i64 m.a) (by first | assumption | exact (World.cell?_alloc_lt _ _ _ (cell_lt (by assumption))).trans (by assumption) | simp [*])
            have ha1_ := after_cell (w0 := wr) (a := ⟨(ad.add ((j + 1) * 4)).block, (ad.add ((j + 1) * 4)).off + 1, none⟩) (v := .int .i64 m.b) (by first | assumption | exact (World.cell?_alloc_lt _ _ _ (cell_lt (by assumption))).trans (by assumption) | simp [*])
            have ha2_ := after_cell (w0 := wr) (a := ⟨(ad.add ((j + 1) * 4)).block, (ad.add ((j + 1) * 4)).off + 2, none⟩) (v := .int .i64 m.c) (by first | assumption | exact (World.cell?_alloc_lt _ _ _ (cell_lt (by assumption))).trans (by assumption) | simp [*])
            have ha3_ := after_cell (w0 := wr) (a := ⟨(ad.add ((j + 1) * 4)).block, (ad.add ((j + 1) * 4)).off + 3, none⟩) (v := .int .i64 m.d) (by first | assumption | exact (World.cell?_alloc_lt _ _ _ (cell_lt (by assumption))).trans (by assumption) | simp [*])
            have ha4_ := after_cell (w0 := wr) (a := (ad.add (j * 4))) (v := .int .i64 x.a) (by first | assumption | exact (World.cell?_alloc_lt _ _ _ (cell_lt (by assumption))).trans (by assumption) | simp [*])
            refine wp_region_after (by kernel_rfl) (by kernel_rfl) ?_
            repeat (go_big_quiet_step ((go_at_call 100; refine Calls.after (specIsMethod_any m.a m.b m.c m.d _))))
            refine wpQuiet_nil ?_
            rintro _ ⟨⟨w1, hb1⟩, rfl⟩
            go_wp2
            go_roundw
            case rel => exact ⟨j + 1 + 1, by omega, by go_num, (fun i hi => by
              rcases Nat.lt_or_ge i (j + 1) with h1 | h1
              · exact hok.out i h1
              · obtain rfl : i = j + 1 := by omega
                exact hst.out), by repeat (first | exact Below.refl _ _ | assumption | refine Below.next_ ?_ ?_ (by assumption) | refine Below.drew ?_ | refine below_drewN ?_ _ | refine Below.alloc ?_ ?_ _ | refine Below.setCell ?_ ?_ _ | omega | (simp <;> omega) | (simp at * <;> omega))⟩
            case measure => simp [intOf]; omega
          · have hst := hide (hok1.out.trans (decide_eq_false hxa))
            have hfin := hide (areF_bad (by have := HL.out; omega) hst.out)
            have hxa' : decide (m.a ≤ x.a) = true := by simp; omega
            go_wp2
            have ha0_ := after_cell (w0 := wr) (a := (ad.add ((j + 1) * 4))) (v := .int .i64 m.a) (by first | assumption | exact (World.cell?_alloc_lt _ _ _ (cell_lt (by assumption))).trans (by assumption) | simp [*])
            have ha1_ := after_cell (w0 := wr) (a := ⟨(ad.add ((j + 1) * 4)).block, (ad.add ((j + 1) * 4)).off + 1, none⟩) (v := .int .i64 m.b) (by first | assumption | exact (World.cell?_alloc_lt _ _ _ (cell_lt (by assumption))).trans (by assumption) | simp [*])
            have ha2_ := after_cell (w0 := wr) (a := ⟨(ad.add ((j + 1) * 4)).block, (ad.add ((j + 1) * 4)).off + 2, none⟩) (v := .int .i64 m.c) (by first | assumption | exact (World.cell?_alloc_lt _ _ _ (cell_lt (by assumption))).trans (by assumption) | simp [*])
            have ha3_ := after_cell (w0 := wr) (a := ⟨(ad.add ((j + 1) * 4)).block, (ad.add ((j + 1) * 4)).off + 3, none⟩) (v := .int .i64 m.d) (by first | assumption | exact (World.cell?_alloc_lt _ _ _ (cell_lt (by assumption))).trans (by assumption) | simp [*])
            have ha4_ := after_cell (w0 := wr) (a := (ad.add (j * 4))) (v := .int .i64 x.a) (by first | assumption | exact (World.cell?_alloc_lt _ _ _ (cell_lt (by assumption))).trans (by assumption) | simp [*])
            refine wp_region_after (by kernel_rfl) (by kernel_rfl) ?_
            repeat (go_big_quiet_step ((go_at_call 100; refine Calls.after (specIsMethod_any m.a m.b m.c m.d _))))
            refine wpQuiet_nil ?_
            rintro _ ⟨⟨w1, hb1⟩, rfl⟩
            go_wp2
            go_ret
            exact ⟨ret_b hfin.out.symm, by repeat (first | exact Below.refl _ _ | assumption | refine Below.next_ ?_ ?_ (by assumption) | refine Below.drew ?_ | refine below_drewN ?_ _ | refine Below.alloc ?_ ?_ _ | refine Below.setCell ?_ ?_ _ | omega | (simp <;> omega) | (simp at * <;> omega))⟩
    · have hlen := HL.out
      have hkn : k = n := by omega
      have hfin := hide (areF_end (l := l) (fun j hj => hok.out j (by omega)))
      go_wp2
      go_ret
      exact ⟨ret_b (by rw [hfin.out]; have := HL.out; simp; omega), by repeat (first | exact Below.refl _ _ | assumption | refine Below.next_ ?_ ?_ (by assumption) | refine Below.drew ?_ | refine below_drewN ?_ _ | refine Below.alloc ?_ ?_ _ | refine Below.setCell ?_ ?_ _ | omega | (simp <;> omega) | (simp at * <;> omega))⟩
set_option maxHeartbeats 4000000 in
theorem implAreMethods_any {A : Option Addr} {n c : Nat} {l : List Mt} {w : World} (h : Rd w 4 A n (mts l)) (hn : n ≤ 1099511627776) :
    Calls Try.prog 36 #[.slice A n c] w fun e w' => e = .returned (.bool (areF l)) ∧ Below w.heap.size w w' := by
  have HL := hide h.mtlen
  go_enter Try.func36, Try.ntmps36
  go_wp2
  go_loopw [7] (fun i wr => ∃ k : Nat, k ≤ n ∧ i = .int .i64 k ∧ Hid (∀ j, j < k → okAt l j = true) ∧ Below w.heap.size w wr) (fun i _ => n - (intOf i).toNat)
  case atStart => exact ⟨0, Nat.zero_le _, rfl, (fun j hj => absurd hj (Nat.not_lt_zero _)), Below.refl _ _⟩
  case round =>
    obtain ⟨k, hk, rfl, hok, hb⟩ := hrel
    have hz := hb.size
    by_cases hlt : k < n
    · obtain ⟨ad, m, rfl, hm, hc0, hc1, hc2, hc3⟩ := Rd.mt (h.below hb) hlt
      have hkn : (k : Int) < (n : Int) := by omega
      have hk0 : (0 : Int) ≤ (k : Int) := by omega
      have hA := cell_lt hc0
      have HM := hide hm
      clear hm
      have hb_ := hb.alloc hz (.cells #[.int .i64 m.a, .int .i64 m.b, .int .i64 m.c, .int .i64 m.d] 47)
      cases hme : isMe m.a m.b m.c m.d with
      | false =>
        have hfin := hide (areF_bad (by have := HL.out; omega) (okAt_me HM.out hme))
        go_wp2
        have ha0_ := after_cell (w0 := (wr.alloc (.cells #[.int .i64 m.a, .int .i64 m.b, .int .i64 m.c, .int .i64 m.d] 47))) (a := ⟨wr.heap.size, 0, none⟩) (v := .int .i64 m.a) (by first | assumption | exact (World.cell?_alloc_lt _ _ _ (cell_lt (by assumption))).trans (by assumption) | simp [*])
        have ha1_ := after_cell (w0 := (wr.alloc (.cells #[.int .i64 m.a, .int .i64 m.b, .int .i64 m.c, .int .i64 m.d] 47))) (a := ⟨wr.heap.size, 1, none⟩) (v := .int .i64 m.b) (by first | assumption | exact (World.cell?_alloc_lt _ _ _ (cell_lt (by assumption))).trans (by assumption) | simp [*])
        have ha2_ := after_cell (w0 := (wr.alloc (.cells #[.int .i64 m.a, .int .i64 m.b, .int .i64 m.c, .int .i64 m.d] 47))) (a := ⟨wr.heap.size, 2, none⟩) (v := .int .i64 m.c) (by first | assumption | exact (World.cell?_alloc_lt _ _ _ (cell_lt (by assumption))).trans (by assumption) | simp [*])
        have ha3_ := after_cell (w0 := (wr.alloc (.cells #[.int .i64 m.a, .int .i64 m.b, .int .i64 m.c, .int .i64 m.d] 47))) (a := ⟨wr.heap.size, 3, none⟩) (v := .int .i64 m.d) (by first | assumption | exact (World.cell?_alloc_lt _ _ _ (cell_lt (by assumption))).trans (by assumption) | simp [*])
        refine wp_region_after (by kernel_rfl) (by kernel_rfl) ?_
        repeat (go_big_quiet_step ((go_at_call 101; refine Calls.after (implIsMethod_any m.a m.b m.c m.d _))))
        refine wpQuiet_nil ?_
        rintro _ ⟨⟨w1, hb1⟩, rfl⟩
        go_wp2
        go_ret
        exact ⟨ret_b hfin.out.symm, by repeat (first | exact Below.refl _ _ | assumption | refine Below.next_ ?_ ?_ (by assumption) | refine Below.drew ?_ | refine below_drewN ?_ _ | refine Below.alloc ?_ ?_ _ | refine Below.setCell ?_ ?_ _ | omega | (simp <;> omega) | (simp at * <;> omega))⟩
      | true =>
        cases k with
        | zero =>
          have hst := hide (okAt_0 HM.out hme)
          have z_ : ad.add 0 = ad := rfl
          simp only [Nat.zero_mul, z_] at hc0 hc1 hc2 hc3
          clear z_
          go_wp2
          have ha0_ := after_cell (w0 := (wr.alloc (.cells #[.int .i64 m.a, .int .i64 m.b, .int .i64 m.c, .int .i64 m.d] 47))) (a := ⟨wr.heap.size, 0, none⟩) (v := .int .i64 m.a) (by first | assumption | exact (World.cell?_alloc_lt _ _ _ (cell_lt (by assumption))).trans (by assumption) | simp [*])
          have ha1_ := after_cell (w0 := (wr.alloc (.cells #[.int .i64 m.a, .int .i64 m.b, .int .i64 m.c, .int .i64 m.d] 47))) (a := ⟨wr.heap.size, 1, none⟩) (v := .int .i64 m.b) (by first | assumption | exact (World.cell?_alloc_lt _ _ _ (cell_lt (by assumption))).trans (by assumption) | simp [*])
          have ha2_ := after_cell (w0 := (wr.alloc (.cells #[.int .i64 m.a, .int .i64 m.b, .int .i64 m.c, .int .i64 m.d] 47))) (a := ⟨wr.heap.size, 2, none⟩) (v := .int .i64 m.c) (by first | assumption | exact (World.cell?_alloc_lt _ _ _ (cell_lt (by assumption))).trans (by assumption) | simp [*])
          have ha3_ := after_cell (w0 := (wr.alloc (.cells #[.int .i64 m.a, .int .i64 m.b, .int .i64 m.c, .int .i64 m.d] 47))) (a := ⟨wr.heap.size, 3, none⟩) (v := .int .i64 m.d) (by first | assumption | exact (World.cell?_alloc_lt _ _ _ (cell_lt (by assumption))).trans (by assumption) | simp [*])
          refine wp_region_after (by kernel_rfl) (by kernel_rfl) ?_
          repeat (go_big_quiet_step ((go_at_call 101; refine Calls.after (implIsMethod_any m.a m.b m.c m.d _))))
          refine wpQuiet_nil ?_
          rintro _ ⟨⟨w1, hb1⟩, rfl⟩
          go_wp2
          go_roundw
          case rel => exact ⟨1, by omega, by go_num, (fun j hj => by obtain rfl : j = 0 := by omega
                                                                     exact hst.out), by repeat (first | exact Below.refl _ _ | assumption | refine Below.next_ ?_ ?_ (by assumption) | refine Below.drew ?_ | refine below_drewN ?_ _ | refine Below.alloc ?_ ?_ _ | refine Below.setCell ?_ ?_ _ | omega | (simp <;> omega) | (simp at * <;> omega))⟩
          case measure => simp [intOf]; omega
        | succ j =>
          obtain ⟨ad', x, e_, hx, hd0, hd1, hd2, hd3⟩ := Rd.mt (h.below hb) (k := j) (by omega)
          obtain rfl : ad = ad' := by injection e_
          clear e_
          have hB := cell_lt hd0
          have hok1 := hide (okAt_s HM.out hx hme)
          clear hx
          by_cases hxa : x.a < m.a
          · have hst := hide (hok1.out.trans (decide_eq_true hxa))
            go_wp2
            have ha0_ := after_cell (w0 := (wr.alloc (.cells #[.int .i64 m.a, .int .i64 m.b, .int .i64 m.c, .int .i64 m.d] 47))) (a := ⟨wr.heap.size, 0, none⟩) (v := .int .i64 m.a) (by first | assumption | exact (World.cell?_alloc_lt _ _ _ (cell_lt (by assumption))).trans (by assumption) | simp [*])
            have ha1_ := after_cell (w0 := (wr.alloc (.cells #[.int .i64 m.a, .int .i64 m.b, .int .i64 m.c, .int .i64 m.d] 47))) (a := ⟨wr.heap.size, 1, none⟩) (v := .int .i64 m.b) (by first | assumption | exact (World.cell?_alloc_lt _ _ _ (cell_lt (by assumption))).trans (by assumption) | simp [*])
            have ha2_ := after_cell (w0 := (wr.alloc (.cells #[.int .i64 m.a, .int .i64 m.b, .int .i64 m.c, .int .i64 m.d] 47))) (a := ⟨wr.heap.size, 2, none⟩) (v := .int .i64 m.c) (by first | assumption | exact (World.cell?_alloc_lt _ _ _ (cell_lt (by assumption))).trans (by assumption) | simp [*])
            have ha3_ := after_cell (w0 := (wr.alloc (.cells #[.int .i64 m.a, .int .i64 m.b, .int .i64 m.c, .int .i64 m.d] 47))) (a := ⟨wr.heap.size, 3, none⟩) (v := .int .i64 m.d) (by first | assumption | exact (World.cell?_alloc_lt _ _ _ (cell_lt (by assumption))).trans (by assumption) | simp [*])
            have ha4_ := after_cell (w0 := (wr.alloc (.cells #[.int .i64 m.a, .int .i64 m.b, .int .i64 m.c, .int .i64 m.d] 47))) (a := (ad.add (j * 4))) (v := .int .i64 x.a) (by first | assumption | exact (World.cell?_alloc_lt _ _ _ (cell_lt (by assumption))).trans (by assumption) | simp [*])
            refine wp_region_after (by kernel_rfl) (by kernel_rfl) ?_
            repeat (go_big_quiet_step ((go_at_call 101; refine Calls.after (implIsMethod_any m.a m.b m.c m.d _))))
            refine wpQuiet_nil ?_
            rintro _ ⟨⟨w1, hb1⟩, rfl⟩
            go_wp2
            go_roundw
            case rel => exact ⟨j + 1 + 1, by omega, by go_num, (fun i hi => by
              rcases Nat.lt_or_ge i (j + 1) with h1 | h1
              · exact hok.out i h1
              · obtain rfl : i = j + 1 := by omega
                exact hst.out), by repeat (first | exact Below.refl _ _ | assumption | refine Below.next_ ?_ ?_ (by assumption) | refine Below.drew ?_ | refine below_drewN ?_ _ | refine Below.alloc ?_ ?_ _ | refine Below.setCell ?_ ?_ _ | omega | (simp <;> omega) | (simp at * <;> omega))⟩
            case measure => simp [intOf]; omega
          · have hst := hide (hok1.out.trans (decide_eq_false hxa))
            have hfin := hide (areF_bad (by have := HL.out; omega) hst.out)
            have hxa' : decide (m.a ≤ x.a) = true := by simp; omega
            go_wp2
            have ha0_ := after_cell (w0 := (wr.alloc (.cells #[.int .i64 m.a, .int .i64 m.b, .int .i64 m.c, .int .i64 m.d] 47))) (a := ⟨wr.heap.size, 0, none⟩) (v := .int .i64 m.a) (by first | assumption | exact (World.cell?_alloc_lt _ _ _ (cell_lt (by assumption))).trans (by assumption) | simp [*])
            have ha1_ := after_cell (w0 := (wr.alloc (.cells #[.int .i64 m.a, .int .i64 m.b, .int .i64 m.c, .int .i64 m.d] 47))) (a := ⟨wr.heap.size, 1, none⟩) (v := .int .i64 m.b) (by first | assumption | exact (World.cell?_alloc_lt _ _ _ (cell_lt (by assumption))).trans (by assumption) | simp [*])
            have ha2_ := after_cell (w0 := (wr.alloc (.cells #[.int .i64 m.a, .int .i64 m.b, .int .i64 m.c, .int .i64 m.d] 47))) (a := ⟨wr.heap.size, 2, none⟩) (v := .int .i64 m.c) (by first | assumption | exact (World.cell?_alloc_lt _ _ _ (cell_lt (by assumption))).trans (by assumption) | simp [*])
            have ha3_ := after_cell (w0 := (wr.alloc (.cells #[.int .i64 m.a, .int .i64 m.b, .int .i64 m.c, .int .i64 m.d] 47))) (a := ⟨wr.heap.size, 3, none⟩) (v := .int .i64 m.d) (by first | assumption | exact (World.cell?_alloc_lt _ _ _ (cell_lt (by assumption))).trans (by assumption) | simp [*])
            have ha4_ := after_cell (w0 := (wr.alloc (.cells #[.int .i64 m.a, .int .i64 m.b, .int .i64 m.c, .int .i64 m.d] 47))) (a := (ad.add (j * 4))) (v := .int .i64 x.a) (by first | assumption | exact (World.cell?_alloc_lt _ _ _ (cell_lt (by assumption))).trans (by assumption) | simp [*])
            refine wp_region_after (by kernel_rfl) (by kernel_rfl) ?_
            repeat (go_big_quiet_step ((go_at_call 101; refine Calls.after (implIsMethod_any m.a m.b m.c m.d _))))
            refine wpQuiet_nil ?_
            rintro _ ⟨⟨w1, hb1⟩, rfl⟩
            go_wp2
            go_ret
            exact ⟨ret_b hfin.out.symm, by repeat (first | exact Below.refl _ _ | assumption | refine Below.next_ ?_ ?_ (by assumption) | refine Below.drew ?_ | refine below_drewN ?_ _ | refine Below.alloc ?_ ?_ _ | refine Below.setCell ?_ ?_ _ | omega | (simp <;> omega) | (simp at * <;> omega))⟩
    · have hlen := HL.out
      have hkn : k = n := by omega
      have hfin := hide (areF_end (l := l) (fun j hj => hok.out j (by omega)))
      go_wp2
      go_ret
      exact ⟨ret_b (by rw [hfin.out]; have := HL.out; simp; omega), by repeat (first | exact Below.refl _ _ | assumption | refine Below.next_ ?_ ?_ (by assumption) | refine Below.drew ?_ | refine below_drewN ?_ _ | refine Below.alloc ?_ ?_ _ | refine Below.setCell ?_ ?_ _ | omega | (simp <;> omega) | (simp at * <;> omega))⟩
end Go.Proofs.Ytmlkhgekacjidae
