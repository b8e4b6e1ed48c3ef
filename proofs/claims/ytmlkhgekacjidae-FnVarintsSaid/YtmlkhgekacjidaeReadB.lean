/- Contracts of ReadBytes of the program and of the reference. For slices of at most 2^40 bytes. -/
import Derived.Test.YtmlkhgekacjidaeReadI
import Derived.Test.YtmlkhgekacjidaePlU
import Derived.Test.YtmlkhgekacjidaeUv
import Derived.Test.YtmlkhgekacjidaeOwnB
namespace Go.Proofs.Ytmlkhgekacjidae
open Go.RowKit Go.WideShapes Go.ChangeShapes Go.Deep
set_option linter.unusedSimpArgs false
set_option linter.unusedVariables false
set_option maxRecDepth 100000
/-- what ReadBytes returns -/
def rdB (l : List Int) (at_ most : Int) : List Int × Int × Bool :=
  let r := rdU l at_
  if r.2.2 = false ∨ most < r.1 ∨ (l.length : Int) - r.2.1 < r.1 then ([], 0, false) else ((l.drop r.2.1.toNat).take r.1.toNat, r.2.1 + r.1, true)
theorem rdB_no {l : List Int} {at_ most a b : Int} {c : Bool} (h : rdU l at_ = (a, b, c)) (hn : c = false ∨ most < a ∨ (l.length : Int) - b < a) : rdB l at_ most = ([], 0, false) := by
  unfold rdB; rw [h]; simp only; rw [if_pos hn]
theorem rdB_ok {l : List Int} {at_ most : Int} {a b : Nat} (h : rdU l at_ = ((a : Int), (b : Int), true)) (h1 : (a : Int) ≤ most) (h2 : a + b ≤ l.length) : rdB l at_ most = ((l.drop b).take a, (b : Int) + a, true) := by
  unfold rdB; rw [h]; simp only; rw [if_neg (by simp; omega)]; simp
theorem Rd.sub {w : World} {ad : Addr} {n : Nat} {l : List Int} (h : Rd w 1 (some ad) n (u8s l)) {i m : Nat} (hm : i + m ≤ n) : Rd w 1 (some (ad.add i)) m (u8s ((l.drop i).take m)) := by
  have hl := h.maplen
  refine ⟨by simp [u8s]; omega, fun h0 => ⟨_, rfl, fun j u hu => ?_⟩⟩
  obtain ⟨ad', e, hc⟩ := h.2 (by omega)
  injection e with e
  subst e
  have hj : j < m := by have := get_lt hu; simp [u8s] at this; omega
  have e2 : (u8s l)[i + j]? = some u := by
    rw [u8s, List.getElem?_map] at hu ⊢
    rw [List.getElem?_take_of_lt hj, List.getElem?_drop] at hu
    exact hu
  have e3 : (ad.add i).add j = ad.add (i + j) := by
    unfold Addr.add
    by_cases h1 : i = 0 <;> by_cases h2 : j = 0 <;> simp [h1, h2, Nat.add_assoc]
  rw [e3]
  exact hc (i + j) u e2
theorem own_capB {w : World} {b : Nat} {e : TypeId} {s n c : Nat} {A : Option Addr} {xs : List Value} (h : w.ownsRow b e s (.slice A n c) n xs) : n ≤ c := by
  rcases h.2 with ⟨h1, h2⟩ | ⟨g, cap, cur, hv, _, _, hn, _⟩
  · subst h2; exact Nat.zero_le _
  · injection hv with _ _ hc; omega
theorem rdB_len (l : List Int) (at_ most : Int) : (rdB l at_ most).1.length ≤ l.length := by
  unfold rdB
  dsimp only
  split
  · simp
  · simp; omega
theorem ret_trs {r : List Int × Int × Bool} {l : List Int} {a b : Int} {c : Bool} (h : r = (l, a, c)) {A : Option Addr} {m d : Nat} {a' : Int} {c' : Bool} (ha : a' = a) (hc : c' = c) (_ : b = b) : Ending.returned (.tuple #[.slice A m d, .int .i64 a', .bool c']) = .returned (.tuple #[.slice A m d, .int .i64 r.2.1, .bool r.2.2]) := by
  subst ha hc; rw [h]
end Go.Proofs.Ytmlkhgekacjidae
