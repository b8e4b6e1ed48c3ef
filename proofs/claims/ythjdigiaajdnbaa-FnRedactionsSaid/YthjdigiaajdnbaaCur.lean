/- The cursor of the draws: what a function that draws leaves of it, and of all else. For codes of at most 2^20 bytes. -/
import Derived.Test.YthjdigiaajdnbaaQui
import Derived.Test.YthjdigiaajdnbaaStep
import Derived.Test.YthjdigiaajdnbaaOwnB
import Derived.Test.YthjdigiaajdnbaaInt
import Derived.Laws.BitsAllLaws
import Derived.Laws.BitsLemmas
namespace Go.Proofs.Ythjdigiaajdnbaa
open Go.RowKit Go.WideShapes Go.ChangeShapes Go.Deep
set_option linter.unusedSimpArgs false
set_option linter.unusedVariables false
set_option maxRecDepth 100000
/-- a cursor lies in block p of w -/
def Cur (w : World) (p : Nat) : Prop := ∃ A n c l i h, w.cell? ⟨p, 0, none⟩ = some (.slice A n c) ∧ w.cell? ⟨p, 1, none⟩ = some (.int .i64 i) ∧ w.cell? ⟨p, 2, none⟩ = some (.int .i64 h) ∧
  w.frozen? ⟨p, 1, none⟩ = false ∧ w.frozen? ⟨p, 2, none⟩ = false ∧ Rd w 1 A n (u8s l) ∧ (0 < n → ∀ a, A = some a → a.block < p) ∧ n ≤ 1048576 ∧ 0 ≤ i ∧ i ≤ (n : Int) ∧ I64 h ∧ ∀ x ∈ l, 0 ≤ x ∧ x ≤ 255
theorem Cur.lt {w : World} {p : Nat} (h : Cur w p) : p < w.heap.size := by
  obtain ⟨A, n, c, l, i, h, h0, _⟩ := h
  exact cell_lt h0
theorem Cur.belowB {w w' : World} {p B : Nat} (h : Cur w p) (hb : Below B w w') (hp : p < B) : Cur w' p := by
  obtain ⟨A, n, c, l, i, h, h0, h1, h2, f1, f2, hr, ha, hn, hi0, hi1, hh, hB⟩ := h
  refine ⟨A, n, c, l, i, h, (hb.cell (p := ⟨p, 0, none⟩) hp).trans h0, (hb.cell (p := ⟨p, 1, none⟩) hp).trans h1, (hb.cell (p := ⟨p, 2, none⟩) hp).trans h2, (hb.frozen (p := ⟨p, 1, none⟩) hp).trans f1, (hb.frozen (p := ⟨p, 2, none⟩) hp).trans f2, ?_, ha, hn, hi0, hi1, hh, hB⟩
  refine ⟨hr.1, fun h0 => ?_⟩
  obtain ⟨ad, e, hc⟩ := hr.2 h0
  exact ⟨ad, e, fun j u hu => (hb.cell (p := ad.add j) (by rw [block_of_add]; exact Nat.lt_trans (ha h0 ad e) hp)).trans (hc j u hu)⟩
theorem Cur.below {w w' : World} {p : Nat} (h : Cur w p) (hb : Below w.heap.size w w') : Cur w' p := h.belowB hb h.lt
theorem grown_cell {w w' : World} {p : Nat} (hg : w.grownBy w' (some p)) {a : Addr} (h : a.block < w.heap.size) (hp : a.block ≠ p) : w'.cell? a = w.cell? a := by
  unfold World.cell?
  rw [hg.block a.block h (fun e => hp (by injection e))]
theorem grown_frozen {w w' : World} {p : Nat} (hg : w.grownBy w' (some p)) {a : Addr} (h : a.block < w.heap.size) (hp : a.block ≠ p) : w'.frozen? a = w.frozen? a := by
  unfold World.frozen?
  rw [hg.block a.block h (fun e => hp (by injection e))]
theorem Rd.cur {w w' : World} {s n : Nat} {A : Option Addr} {xs : List Value} {p : Nat} (h : Rd w s A n xs) (hg : w.grownBy w' (some p)) (ha : 0 < n → ∀ a, A = some a → a.block ≠ p) : Rd w' s A n xs :=
  ⟨h.1, fun hn => by
    obtain ⟨ad, e, hc⟩ := h.2 hn
    exact ⟨ad, e, fun j u hu => (grown_cell hg (cell_lt (hc j u hu)) (by rw [block_of_add]; exact ha hn ad e)).trans (hc j u hu)⟩⟩
theorem own_cur {w w' : World} {b : Nat} {e : TypeId} {s n : Nat} {v : Value} {xs : List Value} {p : Nat} (h : w.ownsRow b e s v n xs) (hg : w.grownBy w' (some p)) (hp : p < b) : w'.ownsRow b e s v n xs := by
  refine h.kept hg ?_
  cases hv : v.ownBlock with
  | none => exact .inl rfl
  | some k =>
    refine .inr fun he => ?_
    have h1 := (h.lt k hv).1
    injection he with he
    omega
theorem Below.cur {W w w' : World} {B p : Nat} (h : Below B W w) (hg : w.grownBy w' (some p)) (hB : B ≤ w.heap.size) (hp : B ≤ p) : Below B W w' := h.grown hg hB (fun k hk => by injection hk with hk; omega)
theorem and255 (a : Int) : 0 ≤ bits .and .i64 a 255 ∧ bits .and .i64 a 255 ≤ 255 := by
  have h : bits .and .i64 a 255 = IntKind.i64.wrap (((BitVec.ofInt 64 a &&& BitVec.ofInt 64 255).toNat : Nat) : Int) := rfl
  have hx : (BitVec.ofInt 64 a &&& BitVec.ofInt 64 255).toNat ≤ 255 := by
    rw [BitVec.toNat_and]
    refine Nat.le_trans Nat.and_le_right ?_
    decide
  rw [h, IntKind.wrap_i64]
  omega
/-- what a function that draws with the cursor p leaves: the cursor; and nothing that was there has turned but it -/
def Drawn (w w' : World) (p : Nat) : Prop := Cur w' p ∧ w.grownBy w' (some p)
theorem Drawn.next {a b c : World} {p : Nat} (h : Drawn a b p) (k : Drawn b c p) : Drawn a c p := ⟨k.1, grown_trans_ h.2 k.2⟩
theorem Drawn.below {a b c : World} {p : Nat} (h : Drawn a b p) (k : Below b.heap.size b c) : Drawn a c p := ⟨h.1.below k, grown_below h.2 k⟩
theorem grown_belowB {a b c : World} {row : Option Nat} (h : a.grownBy b row) (k : Below a.heap.size b c) : a.grownBy c row :=
  ⟨k.os.trans h.os, k.tape.trans h.tape, k.output.trans h.output, Nat.le_trans h.size k.size, fun i hi hn => (k.block i hi).trans (h.block i hi hn)⟩
theorem Drawn.belowB {a b c : World} {p : Nat} (h : Drawn a b p) (hp : p < a.heap.size) (k : Below a.heap.size b c) : Drawn a c p := ⟨h.1.belowB k hp, grown_belowB h.2 k⟩
theorem Drawn.of {a b c : World} {p : Nat} (h : Below a.heap.size a b) (k : Drawn b c p) : Drawn a c p := ⟨k.1, grown_trans_ (below_grown h) k.2⟩
end Go.Proofs.Ythjdigiaajdnbaa
