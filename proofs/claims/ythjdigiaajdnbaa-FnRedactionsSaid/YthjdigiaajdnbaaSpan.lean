/- Contracts of the functions on one or two spans of time: IsSpan and its kin, of the program and of the reference. No condition. -/
import Derived.Test.YthjdigiaajdnbaaInt
import Derived.Deep.RegionHeld3
namespace Go.Proofs.Ythjdigiaajdnbaa
open Go.RowKit Go.WideShapes Go.ChangeShapes Go.Deep
set_option linter.unusedSimpArgs false
set_option linter.unusedVariables false

def isT (t : Int) : Bool := inR t 0 10000
def isSp (f t : Int) : Bool := isT f && isT t && decide (f ≤ t)
abbrev spV (f t : Int) : Value := .agg #[.int .i64 f, .int .i64 t]

theorem isSp_true {f t : Int} : isSp f t = true ↔ 0 ≤ f ∧ f ≤ t ∧ t ≤ 10000 := by simp [isSp, isT, inR]; omega
theorem isSp_false {f t : Int} : isSp f t = false ↔ ¬ (0 ≤ f ∧ f ≤ t ∧ t ≤ 10000) := by rw [← isSp_true]; simp
def insd (af at_ bf bt : Int) : Bool := isSp af at_ && isSp bf bt && decide (bf ≤ af) && decide (at_ ≤ bt)
/-- what MakeSpan returns: whether, and the span -/
def mkOk (f t : Int) : Bool := decide (max f 0 ≤ min t 10000)
def mkF (f t : Int) : Int := if mkOk f t = true then max f 0 else 0
def mkT (f t : Int) : Int := if mkOk f t = true then min t 10000 else 0
def mtOk (af at_ bf bt : Int) : Bool := isSp af at_ && isSp bf bt && mkOk (max af bf) (min at_ bt)
def mtF (af at_ bf bt : Int) : Int := if mtOk af at_ bf bt = true then max af bf else 0
def mtT (af at_ bf bt : Int) : Int := if mtOk af at_ bf bt = true then min at_ bt else 0
theorem ret_sp {f t f' t' : Int} {b b' : Bool} (h : f = f' ∧ t = t' ∧ b = b') : Ending.returned (.tuple #[spV f t, .bool b]) = .returned (.tuple #[spV f' t', .bool b']) := by obtain ⟨rfl, rfl, rfl⟩ := h; rfl
end Go.Proofs.Ythjdigiaajdnbaa
