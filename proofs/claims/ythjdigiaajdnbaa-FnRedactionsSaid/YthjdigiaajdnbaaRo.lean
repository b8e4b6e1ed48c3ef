/- What IsRedactionOf says, in plain words. No condition. -/
import Derived.Test.YthjdigiaajdnbaaRdl
namespace Go.Proofs.Ythjdigiaajdnbaa
open Go.RowKit Go.WideShapes Go.ChangeShapes Go.Deep
set_option linter.unusedSimpArgs false
set_option linter.unusedVariables false
set_option maxRecDepth 1000000
def hidL (bs : List Bool) (k : Nat) : List Int := (List.range k).filterMap fun i => if bs.getD i true = true then none else some (i : Int)
theorem hidL_zero (bs : List Bool) : hidL bs 0 = [] := rfl
theorem hidL_t {bs : List Bool} {k : Nat} (h : bs[k]? = some true) : hidL bs (k + 1) = hidL bs k := by
  simp [hidL, List.range_succ, List.filterMap_append, List.getD_eq_getElem?_getD, h]
theorem hidL_f {bs : List Bool} {k : Nat} (h : bs[k]? = some false) : hidL bs (k + 1) = hidL bs k ++ [(k : Int)] := by
  simp [hidL, List.range_succ, List.filterMap_append, List.getD_eq_getElem?_getD, h]
/-- IsRedactionOf -/
def roF (r : RedD) (td : Int) (pd : List ByteArray) (sd : List Int) : Bool := isDoc td pd sd && decide (redX r.ms td pd sd (hidL r.bs r.bs.length) = r)
theorem roF_no {r : RedD} {td : Int} {pd : List ByteArray} {sd : List Int} (h : isDoc td pd sd = false) : roF r td pd sd = false := by unfold roF; rw [h]; rfl
theorem roF_yes {r X : RedD} {td : Int} {pd : List ByteArray} {sd : List Int} {k : Nat} (h : isDoc td pd sd = true) (hk : r.bs.length = k) (hX : redX r.ms td pd sd (hidL r.bs k) = X) : roF r td pd sd = decide (X = r) := by unfold roF; rw [h, hk, hX]; rfl
theorem redX_ok {ms hd : List Int} {t : Int} {ps : List ByteArray} {ss : List Int} (h : isDoc t ps ss = true) : (redX ms t ps ss hd).ms = ms ∧ (redX ms t ps ss hd).bs.length = ps.length ∧ (redX ms t ps ss hd).ps.length = ps.length ∧ (redX ms t ps ss hd).ss.length = ps.length ∧ (redX ms t ps ss hd).ds.length = ps.length := by
  unfold redX
  rw [if_pos h]
  refine ⟨rfl, ?_, ?_, ?_, ?_⟩
  · simp [rB]
  · simp [rP]
  · simp [rS]
  · simp [rD]
theorem redX_len {ms hd : List Int} {t : Int} {ps : List ByteArray} {ss : List Int} : (redX ms t ps ss hd).bs.length = (redX ms t ps ss hd).ps.length ∧ (redX ms t ps ss hd).ds.length = (redX ms t ps ss hd).ps.length := by
  unfold redX
  split
  · exact ⟨by simp [rB, rP], by simp [rD, rP]⟩
  · exact ⟨rfl, rfl⟩
theorem tk2 {bs bs2 : List Bool} {ds ds2 : List (List Int)} {k : Nat} {b : Bool} {d : List Int} (h : bs.take k = bs2.take k ∧ ds.take k = ds2.take k) (h1 : bs[k]? = some b) (h2 : bs2[k]? = some b) (h5 : ds[k]? = some d) (h6 : ds2[k]? = some d) :
    bs.take (k + 1) = bs2.take (k + 1) ∧ ds.take (k + 1) = ds2.take (k + 1) := ⟨take_step h1 h2 h.1, take_step h5 h6 h.2⟩
end Go.Proofs.Ythjdigiaajdnbaa
