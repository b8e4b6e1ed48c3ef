/- Contracts of FindMethod, of the program and of the reference. For slices of at most 2^40 methods. -/
import Derived.Test.YtmlkhgekacjidaeStr
import Derived.Test.YtmlkhgekacjidaeMeth
namespace Go.Proofs.Ytmlkhgekacjidae
open Go.RowKit Go.WideShapes Go.ChangeShapes Go.Deep
set_option linter.unusedSimpArgs false
set_option linter.unusedVariables false
/-- where the first method with this number stands, or none -/
def findF (l : List Mt) (id : Int) : Option Nat := l.findIdx? (fun m => decide (m.a = id))
def findI (l : List Mt) (id : Int) : Int := match findF l id with | none => -1 | some k => (k : Int)
theorem findI_hit {l : List Mt} {id : Int} {k : Nat} {m : Mt} (h : ∀ (j : Nat) (m' : Mt), j < k → l[j]? = some m' → m'.a ≠ id) (hk : l[k]? = some m) (hm : m.a = id) : findF l id = some k := by
  unfold findF
  rw [List.findIdx?_eq_some_iff_getElem]
  have hl := get_lt hk
  rw [List.getElem?_eq_getElem hl] at hk
  injection hk with hk
  refine ⟨hl, by rw [hk]; simpa using hm, fun j hj => ?_⟩
  simpa using h j _ hj (List.getElem?_eq_getElem (by omega))
theorem findI_miss {l : List Mt} {id : Int} (h : ∀ (j : Nat) (m' : Mt), l[j]? = some m' → m'.a ≠ id) : findF l id = none := by
  unfold findF
  rw [List.findIdx?_eq_none_iff]
  intro m hm
  obtain ⟨j, hj⟩ := List.mem_iff_getElem?.1 hm
  simpa using h j m hj
/-- no method ahead of k has this number -/
def NoneTo (l : List Mt) (id : Int) (k : Nat) : Prop := ∀ (j : Nat) (m' : Mt), j < k → l[j]? = some m' → m'.a ≠ id
theorem NoneTo.step {l : List Mt} {id : Int} {k : Nat} {m : Mt} (h : NoneTo l id k) (hk : l[k]? = some m) (hm : m.a ≠ id) : NoneTo l id (k + 1) := by
  intro j m' hj hj'
  rcases Nat.lt_or_ge j k with h1 | h1
  · exact h j m' h1 hj'
  · obtain rfl : j = k := by omega
    rw [hk] at hj'
    injection hj' with e
    exact e ▸ hm
theorem NoneTo.all {l : List Mt} {id : Int} {k : Nat} (h : NoneTo l id k) (hk : l.length ≤ k) : findF l id = none :=
  findI_miss fun j m' hj => h j m' (by have := get_lt hj; omega) hj
theorem findI_some {l : List Mt} {id : Int} {k : Nat} (h : findF l id = some k) : findI l id = k := by unfold findI; rw [h]
theorem findI_none {l : List Mt} {id : Int} (h : findF l id = none) : findI l id = -1 := by unfold findI; rw [h]
set_option maxHeartbeats 400000 in
theorem implFindMethod_any {A : Option Addr} {n c : Nat} {l : List Mt} {id : Int} {w : World} (h : Rd w 4 A n (mts l)) (hn : n ≤ 1099511627776) :
    Calls Try.prog 33 #[.slice A n c, .int .i64 id] w fun e w' => e = .returned (.int .i64 (findI l id)) ∧ Below w.heap.size w w' := by
  have HL := hide h.mtlen
  go_enter Try.func33, Try.ntmps33
  go_wp2
  go_loopw [9] (fun i wr => ∃ k : Nat, k ≤ n ∧ i = .int .i64 k ∧ Hid (NoneTo l id k) ∧ Below w.heap.size w wr) (fun i _ => n - (intOf i).toNat)
  case atStart => exact ⟨0, Nat.zero_le _, rfl, (fun j m' hj => absurd hj (Nat.not_lt_zero _)), Below.refl _ _⟩
  case round =>
    obtain ⟨k, hk, rfl, hno, hb⟩ := hrel
    by_cases hlt : k < n
    · obtain ⟨ad, m, rfl, hm, hc0, hc1, hc2, hc3⟩ := Rd.mt (h.below hb) hlt
      have HM := hide hm
      clear hm
      by_cases hid : m.a = id
      · have hfin := hide (findI_some (findI_hit hno.out HM.out hid))
        have hq : (m.a == id) = true := by simpa using hid
        clear hid
        go_wp2
        go_ret
        exact ⟨ret_i hfin.out.symm, hb.alloc hb.size _⟩
      · have hq : (m.a == id) = false := by simpa using hid
        have hstep := hide (hno.out.step HM.out hid)
        clear hid
        go_wp2
        go_roundw
        case rel => exact ⟨k + 1, by omega, by go_num, hstep, hb.alloc hb.size _⟩
        case measure => simp [intOf]; omega
    · have hfin := hide (findI_none (hno.out.all (by have := HL.out; omega)))
      go_wp2
      go_ret
      exact ⟨ret_i hfin.out.symm, hb⟩
end Go.Proofs.Ytmlkhgekacjidae
