/- Words on memory that every proof of this seat shares: a slice that reads as a list ('Rd'), rows of the call's own, and the last step of a row. No condition. -/
import Derived.WalkKit
import Derived.ProofKit
import Derived.OpenShut
import Derived.Below
import Derived.Laws.OwnMore
import Derived.Laws.Rows
import Derived.Laws.AppendOwnNone
import Derived.Deep.AppendLies
import Derived.Deep.Draws
import Derived.Deep.Slices
import Derived.Deep.Fields
import Derived.Deep.QuietTactic
import Derived.Deep.RegionWith
import Derived.BigQuiet
import Derived.Maps.AppendAt
import Derived.RegionTactic
import Derived.OwnWalk
import Derived.ChangeSame
import Derived.SliceStrings
import Derived.Carry
import Derived.Laws.MakeOwn
import Derived.WalkSmall
import Derived.Laws.BytesArg
import Derived.Laws.IdiomStrings
import Derived.Lib.ConvBytes
namespace Go.Proofs.Ythjdigiaajdnbaa
open Go.RowKit Go.WideShapes Go.ChangeShapes Go.Deep
set_option linter.unusedSimpArgs false
set_option linter.unusedVariables false

theorem ret_i {a b : Int} (h : a = b) : Ending.returned (.int .i64 a) = .returned (.int .i64 b) := by rw [h]
theorem ret_b {a b : Bool} (h : a = b) : Ending.returned (.bool a) = .returned (.bool b) := by rw [h]
@[simp] theorem lt_two (a : Nat) : a < a + 1 + 1 := by omega
@[simp] theorem lt_three (a : Nat) : a < a + 1 + 1 + 1 := by omega
@[simp] theorem lt_four (a : Nat) : a < a + 1 + 1 + 1 + 1 := by omega
@[simp] theorem lt_five (a : Nat) : a < a + 1 + 1 + 1 + 1 + 1 := by omega
@[simp] theorem ne_two (a : Nat) : ¬ a + 1 + 1 = a := by omega
@[simp] theorem ne_two' (a : Nat) : ¬ a = a + 1 + 1 := by omega
@[simp] theorem ne_three (a : Nat) : ¬ a + 1 + 1 + 1 = a := by omega
@[simp] theorem ne_three' (a : Nat) : ¬ a = a + 1 + 1 + 1 := by omega
@[simp] theorem ne_four (a : Nat) : ¬ a + 1 + 1 + 1 + 1 = a := by omega
@[simp] theorem ne_four' (a : Nat) : ¬ a = a + 1 + 1 + 1 + 1 := by omega
def I64 (x : Int) : Prop := -9223372036854775808 ≤ x ∧ x ≤ 9223372036854775807
theorem lay {p q : Prop} (h : p) (k : p → q) : q := k h
theorem hide {p : Prop} (h : p) : Hid p := h

theorem below_drewN {B : Nat} {a w : World} (h : Below B a w) (n : Nat) : Below B a (w.drewN n) := ⟨h.os, h.tape, h.output, h.size, h.block⟩

theorem Below.next_ {B : Nat} {w0 w w' : World} (h : Below B w0 w) (hB : B ≤ w.heap.size) (h' : Below w.heap.size w w') : Below B w0 w' := h.trans (h'.mono hB)

theorem bcell {W w1 : World} (hb : Below W.heap.size W w1) : (∀ b o, b < W.heap.size → w1.cell? ⟨b, o, none⟩ = W.cell? ⟨b, o, none⟩) ∧ (∀ b o, b < W.heap.size → w1.frozen? ⟨b, o, none⟩ = W.frozen? ⟨b, o, none⟩) :=
  ⟨fun b o h => hb.cell (p := ⟨b, o, none⟩) h, fun b o h => hb.frozen (p := ⟨b, o, none⟩) h⟩

/-! ### A slice that reads as a list of cells -/

theorem block_of_add (a : Addr) (n : Nat) : (a.add n).block = a.block := by unfold Addr.add; split <;> rfl
theorem add_of_add (a : Addr) (i j : Nat) : (a.add i).add j = a.add (i + j) := by
  unfold Addr.add
  by_cases hi : i = 0 <;> by_cases hj : j = 0 <;> simp [hi, hj, Nat.add_assoc]

theorem cell_lt {w : World} {a : Addr} {u : Value} (h : w.cell? a = some u) : a.block < w.heap.size := by
  rcases Nat.lt_or_ge a.block w.heap.size with h' | h'
  · exact h'
  · unfold World.cell? at h
    rw [Array.getElem?_eq_none h'] at h
    cases h

/-- the slice '.slice A n c' holds n elements of s cells each: xs -/
def Rd (w : World) (s : Nat) (A : Option Addr) (n : Nat) (xs : List Value) : Prop :=
  xs.length = n * s ∧ (0 < n → ∃ ad, A = some ad ∧ ∀ j u, xs[j]? = some u → w.cell? (ad.add j) = some u)

section
variable {w w' : World} {s n : Nat} {A : Option Addr} {xs : List Value}
theorem Rd.nil (w : World) (s : Nat) (A : Option Addr) : Rd w s A 0 [] := ⟨by simp, fun h => absurd h (by omega)⟩
theorem Rd.at_ {k : Nat} (h : Rd w 1 A n xs) (hk : k < n) : ∃ ad u, A = some ad ∧ xs[k]? = some u ∧ w.cell? (ad.add k) = some u := by
  obtain ⟨ad, e, hc⟩ := h.2 (by omega)
  have hl : k < xs.length := by have := h.1; omega
  exact ⟨ad, xs[k], e, List.getElem?_eq_getElem hl, hc k _ (List.getElem?_eq_getElem hl)⟩
theorem Rd.keep (h : Rd w s A n xs) (hk : ∀ p : Addr, p.block < w.heap.size → w'.cell? p = w.cell? p) : Rd w' s A n xs :=
  ⟨h.1, fun hn => by
    obtain ⟨ad, e, hc⟩ := h.2 hn
    exact ⟨ad, e, fun j u hu => (hk _ (cell_lt (hc j u hu))).trans (hc j u hu)⟩⟩
theorem Rd.below (h : Rd w s A n xs) (hb : Below w.heap.size w w') : Rd w' s A n xs := h.keep fun _ hp => hb.cell hp
theorem Rd.of_own {base : Nat} {e : TypeId} {c : Nat} (h : w.ownsRow base e s (.slice A n c) n xs) : Rd w s A n xs := by
  refine ⟨h.1, fun hn => ?_⟩
  obtain ⟨g, cap, hv, _, hlt⟩ := h.form hn
  have hA : A = some ⟨g, 0, none⟩ := by injection hv
  subst hA
  exact ⟨_, rfl, h.cells (g := g) rfl⟩
end

/-- the block of a slice's address -/
def blk (A : Option Addr) : Option Nat := A.map (·.block)
theorem blk_own (A : Option Addr) (n c : Nat) : (Value.slice A n c).ownBlock = blk A := by cases A <;> rfl


/-! ### Append: onto a row of the call's own, whatever the source -/
section
variable {P : Program} (w : World)

theorem run_append_of_nil (base : Nat) (t ty e : TypeId) (i : TypeInfo) (size : Nat) (ht : P.underlying t = some (.slice e)) (hi : P.info? e = some i)
    (v : Value) (n : Nat) (xs : List Value) (hown : w.ownsRow base e size v n xs) (c : Nat) : (Builtin.append_ #[t, t] ty #[v, .slice none 0 c]).run P w = .ok v w := by
  rcases hown.2 with ⟨rfl, rfl⟩ | ⟨g, cap, cur, rfl, _, _, hnc, _⟩
  · simp [Builtin.append_, run_underlying ht, sizeOf, typeInfo, hi, Builtin.lenOf, Builtin.firstCells]
  · simp [Builtin.append_, run_underlying ht, sizeOf, typeInfo, hi, Builtin.lenOf, Builtin.firstCells, hnc, storeCells]

theorem own_form {w : World} {base : Nat} {e : TypeId} {s n : Nat} {v : Value} {xs : List Value} (h : w.ownsRow base e s v n xs) : ∃ A c, v = .slice A n c := by
  rcases h.2 with ⟨rfl, rfl⟩ | ⟨g, cap, cur, rfl, _⟩
  · exact ⟨none, 0, rfl⟩
  · exact ⟨_, _, rfl⟩

theorem run_append_any (base : Nat) (t ty e : TypeId) (i : TypeInfo) (z : Value) (size bytes : Nat) (ht : P.underlying t = some (.slice e)) (hi : P.info? e = some i) (hz : i.zero = some z)
    (hsize : i.size = size) (hby : i.bytes = bytes) (hzs : z.cells.size = size) (hsz : 0 < size)
    (v : Value) (n : Nat) (xs : List Value) (hown : w.ownsRow base e size v n xs)
    (A : Option Addr) (m c : Nat) (news : List Value) (hr : Rd w size A m news) (h1 : ∀ u ∈ news, u.oneCell' = true)
    (h63 : n + m ≤ maxLen) (hbytes : (n + m) * bytes ≤ 140737488355328) (hbase : base ≤ w.heap.size) :
    ∃ v' w', (Builtin.append_ #[t, t] ty #[v, .slice A m c]).run P w = .ok v' w' ∧ w'.ownsRow base e size v' (n + m) (xs ++ news) ∧ w.grownBy w' v.ownBlock ∧
      (v'.ownBlock = v.ownBlock ∨ v'.ownBlock = some w.heap.size) := by
  rcases A with _ | ad
  · have hm : m = 0 := by
      rcases Nat.eq_zero_or_pos m with h0 | h0
      · exact h0
      · obtain ⟨ad, h, _⟩ := hr.2 h0
        cases h
    subst hm
    have hn : news = [] := List.eq_nil_of_length_eq_zero (by simpa using hr.1)
    subst hn
    exact ⟨v, w, run_append_of_nil w base t ty e i size ht hi v n xs hown c, by simpa using hown, World.grownBy.refl w _, .inl rfl⟩
  · have hcells : ∀ j u, news[j]? = some u → w.cell? (ad.add j) = some u := by
      intro j u hu
      rcases Nat.eq_zero_or_pos m with h0 | h0
      · subst h0
        have hn : news = [] := List.eq_nil_of_length_eq_zero (by simpa using hr.1)
        subst hn
        simp at hu
      · obtain ⟨ad', h, hc⟩ := hr.2 h0
        injection h with h
        subst h
        exact hc j u hu
    obtain ⟨v', w', hrun, h2, h3, _, h5⟩ := run_append_own_at (P := P) w base t ty e i z size bytes ht hi hz hsize hby hzs hsz v n xs hown ad m c news hr.1 hcells h1 h63 hbytes hbase
    exact ⟨v', w', hrun, h2, h3, h5⟩

/-- 'append(s, x...)': s a row of the call's own ('base' on), x whatever reads as 'news'. What lies below B has not turned. -/
theorem wpList_app {ops : Array Oper} {rest : List Oper} {o : Oper} {a : Act} {Q : Exit → Act → World → Prop} (hgd : o.guard = none) (s x : Operand) (t : TypeId)
    (ho : o.op = .call { callee := .builtin .append, args := #[s, x], argTypes := #[t, t] })
    (e : TypeId) (i : TypeInfo) (z : Value) (size bytes : Nat) (ht : P.underlying t = some (.slice e)) (hi : P.info? e = some i) (hz : i.zero = some z)
    (hsize : i.size = size) (hby : i.bytes = bytes) (hzs : z.cells.size = size) (hsz : 0 < size)
    {base n c : Nat} {A : Option Addr} {xs : List Value} (hs : a.eval s = .slice A n c) (hown : w.ownsRow base e size (.slice A n c) n xs)
    {A2 : Option Addr} {m c2 : Nat} {news : List Value} (hx : a.eval x = .slice A2 m c2) (hr : Rd w size A2 m news) (h1 : ∀ u ∈ news, u.oneCell' = true)
    (h63 : n + m ≤ maxLen) (hbytes : (n + m) * bytes ≤ 140737488355328)
    {B : Nat} {w0 : World} (hb : Below B w0 w) (hB : B ≤ w.heap.size) (hBb : B ≤ base) (hbase : base ≤ w.heap.size)
    (h : ∀ A' c' w', w'.ownsRow base e size (.slice A' (n + m) c') (n + m) (xs ++ news) → Below B w0 w' → w.grownBy w' (blk A) → (blk A' = blk A ∨ blk A' = some w.heap.size) →
      wpList P ops Q rest (a.put o.dst (.slice A' (n + m) c')) w') : wpList P ops Q (o :: rest) a w :=
  wpList_plain hgd fun _ hK => by
    obtain ⟨v', w', hrun, h2, h3, h4⟩ := run_append_any (P := P) w base t o.type e i z size bytes ht hi hz hsize hby hzs hsz _ n xs hown A2 m c2 news hr h1 h63 hbytes hbase
    obtain ⟨A', c', rfl⟩ := own_form h2
    unfold Oper.wp execOp
    simp only [ho, resolve, invoke, builtin, Sem.run_bind, Sem.run_pure, Result.andThen_ok, List.map_toArray, List.map_cons, List.map_nil, hs, hx, hrun]
    rw [blk_own, blk_own] at h4
    rw [blk_own] at h3
    refine hK _ _ (h A' c' w' h2 (hb.grown h3 hB ?_) h3 h4)
    intro k hk
    exact Nat.le_trans hBb (hown.lt k (by rw [blk_own]; exact hk)).1

/-- 'append(s, x...)': s a row of the call's own ('base' on), x whatever reads as 'news'. What lies below B has not turned. -/
theorem wpList_app2 {ops : Array Oper} {rest : List Oper} {o : Oper} {a : Act} {Q : Exit → Act → World → Prop} (hgd : o.guard = none) (s x : Operand) (t : TypeId)
    (ho : o.op = .call { callee := .builtin .append, args := #[s, x], argTypes := #[t, t] })
    (e : TypeId) (i : TypeInfo) (z : Value) (size bytes : Nat) (ht : P.underlying t = some (.slice e)) (hi : P.info? e = some i) (hz : i.zero = some z)
    (hsize : i.size = size) (hby : i.bytes = bytes) (hzs : z.cells.size = size) (hsz : 0 < size)
    {base n c : Nat} {A : Option Addr} {xs : List Value} (hs : a.eval s = .slice A n c) (hown : w.ownsRow base e size (.slice A n c) n xs)
    {A2 : Option Addr} {m c2 : Nat} {news : List Value} (hx : a.eval x = .slice A2 m c2) (hr : Rd w size A2 m news) (h1 : ∀ u ∈ news, u.oneCell' = true)
    (h63 : n + m ≤ maxLen) (hbytes : (n + m) * bytes ≤ 140737488355328)
    {N : Nat} (hN : n + m = N) {ys : List Value} (hys : xs ++ news = ys) {B : Nat} {w0 : World} (hb : Below B w0 w) (hB : B ≤ w.heap.size) (hBb : B ≤ base) (hbase : base ≤ w.heap.size)
    (h : ∀ A' c' w', w'.ownsRow base e size (.slice A' N c') N ys → Below B w0 w' → w.grownBy w' (blk A) → (blk A' = blk A ∨ blk A' = some w.heap.size) →
      wpList P ops Q rest (a.put o.dst (.slice A' N c')) w') : wpList P ops Q (o :: rest) a w :=
  by
  subst hN hys
  exact wpList_app w hgd s x t ho e i z size bytes ht hi hz hsize hby hzs hsz hs hown hx hr h1 h63 hbytes hb hB hBb hbase h
end

/-- an owned row, element j of it: where it lies, that it is not frozen, and what a store leaves -/
theorem own_at {w : World} {base : Nat} {e : TypeId} {n c : Nat} {A : Option Addr} {xs : List Value} (h : w.ownsRow base e 1 (.slice A n c) n xs) {j : Nat} (hj : j < n) :
    ∃ g u, A = some ⟨g, 0, none⟩ ∧ base ≤ g ∧ xs[j]? = some u ∧ w.cell? ⟨g, j, none⟩ = some u ∧ w.frozen? ⟨g, j, none⟩ = false := by
  obtain ⟨g, cap, hv, hb, hlt⟩ := h.form (by omega)
  have hl : xs.length = n := by simpa using h.1
  have hA : A = some ⟨g, 0, none⟩ ∧ c = cap := by injection hv with h1 h2 h3; exact ⟨h1, h3⟩
  obtain ⟨rfl, rfl⟩ := hA
  have hu : xs[j]? = some (xs[j]'(by omega)) := List.getElem?_eq_getElem (by omega)
  refine ⟨g, _, rfl, hb, hu, ?_, h.frozenAt j⟩
  rw [h.cellAt j (by omega), hu]
theorem own_at_ {w : World} {base : Nat} {e : TypeId} {n c g : Nat} {xs : List Value} (h : w.ownsRow base e 1 (.slice (some ⟨g, 0, none⟩) n c) n xs) {j : Nat} (hj : j < n) :
    ∃ u, xs[j]? = some u ∧ w.cell? ⟨g, j, none⟩ = some u ∧ w.frozen? ⟨g, j, none⟩ = false := by
  obtain ⟨g', u, hA, _, hu, hc, hf⟩ := own_at h hj
  have hA' : g = g' := by injection hA with hA; injection hA
  subst hA'
  exact ⟨u, hu, hc, hf⟩
theorem own_set {w : World} {base : Nat} {e : TypeId} {s n c g : Nat} {xs : List Value} (h : w.ownsRow base e s (.slice (some ⟨g, 0, none⟩) n c) n xs) (j : Nat) (u : Value) :
    (w.setCell ⟨g, j, none⟩ u).ownsRow base e s (.slice (some ⟨g, 0, none⟩) n c) n (xs.set j u) ∧ w.grownBy (w.setCell ⟨g, j, none⟩ u) (some g) := h.stored j u
theorem grown_trans_ {a b c : World} {row : Option Nat} (h : a.grownBy b row) (k : b.grownBy c row) : a.grownBy c row :=
  ⟨k.os.trans h.os, k.tape.trans h.tape, k.output.trans h.output, Nat.le_trans h.size k.size, fun i hi hn => (k.block i (Nat.lt_of_lt_of_le hi h.size) hn).trans (h.block i hi hn)⟩
theorem grown_drewN {a w : World} {row : Option Nat} (h : a.grownBy w row) (n : Nat) : a.grownBy (w.drewN n) row := ⟨h.os, h.tape, h.output, h.size, h.block⟩
theorem own_drewN {w : World} {base : Nat} {e : TypeId} {s n : Nat} {v : Value} {xs : List Value} (h : w.ownsRow base e s v n xs) (k : Nat) : (w.drewN k).ownsRow base e s v n xs := h
theorem Rd.drewN {w : World} {s n : Nat} {A : Option Addr} {xs : List Value} (h : Rd w s A n xs) (k : Nat) : Rd (w.drewN k) s A n xs := h

theorem own_below {w w' : World} {base : Nat} {e : TypeId} {s n : Nat} {v : Value} {xs : List Value} (h : w.ownsRow base e s v n xs) (hb : Below w.heap.size w w') : w'.ownsRow base e s v n xs := by
  refine h.kept (row := none) ⟨hb.os, hb.tape, hb.output, hb.size, fun k hk _ => hb.block k hk⟩ ?_
  cases v.ownBlock <;> simp
theorem grown_below {a b c : World} {row : Option Nat} (h : a.grownBy b row) (k : Below b.heap.size b c) : a.grownBy c row :=
  ⟨k.os.trans h.os, k.tape.trans h.tape, k.output.trans h.output, Nat.le_trans h.size k.size, fun i hi hn => (k.block i (Nat.lt_of_lt_of_le hi h.size)).trans (h.block i hi hn)⟩
theorem below_grown {a b : World} {row : Option Nat} (h : Below a.heap.size a b) : a.grownBy b row := ⟨h.os, h.tape, h.output, h.size, fun k hk _ => h.block k hk⟩
/-- a row that was laid after x was there is kept where only x's block is written -/
theorem kept_new {w0 w w' : World} {br bx : Nat} {er ex : TypeId} {sr sx nr nx cx : Nat} {vr : Value} {Ax : Option Addr} {xr xx : List Value} (hr : w.ownsRow br er sr vr nr xr)
    (hx : w0.ownsRow bx ex sx (.slice Ax nx cx) nx xx) (hz : w0.heap.size ≤ br) (hg : w.grownBy w' (blk Ax)) : w'.ownsRow br er sr vr nr xr := by
  refine hr.kept hg ?_
  cases hv : vr.ownBlock with
  | none => exact .inl rfl
  | some k =>
    refine .inr fun he => ?_
    have h1 := (hr.lt k hv).1
    have h2 := (hx.lt k (by rw [blk_own]; exact he.symm)).2
    omega
/-- a row that was there before x was laid is kept where only x's block is written -/
theorem kept_old {w0 w w' : World} {br bx : Nat} {er ex : TypeId} {sr sx nr nx cx : Nat} {vr : Value} {Ax : Option Addr} {xr xr0 xx : List Value} (hr : w.ownsRow br er sr vr nr xr) (hr0 : w0.ownsRow br er sr vr nr xr0)
    (hx : w.ownsRow bx ex sx (.slice Ax nx cx) nx xx) (hz : w0.heap.size ≤ bx) (hg : w.grownBy w' (blk Ax)) : w'.ownsRow br er sr vr nr xr := by
  refine hr.kept hg ?_
  cases hv : vr.ownBlock with
  | none => exact .inl rfl
  | some k =>
    refine .inr fun he => ?_
    have h1 := (hr0.lt k hv).2
    have h2 := (hx.lt k (by rw [blk_own]; exact he.symm)).1
    omega
theorem below_mark {W w w' : World} {bx : Nat} {ex : TypeId} {sx nx cx : Nat} {Ax : Option Addr} {xx : List Value} (hb : Below W.heap.size W w) (hx : w.ownsRow bx ex sx (.slice Ax nx cx) nx xx) (hz : W.heap.size ≤ bx) (hg : w.grownBy w' (blk Ax)) : Below W.heap.size W w' :=
  hb.grown hg hb.size fun k hk => Nat.le_trans hz (hx.lt k (by rw [blk_own]; exact hk)).1
theorem Rd.one (w : World) (x : Value) (t : TypeId) : Rd (w.alloc (.cells #[x] t)) 1 (some ⟨w.heap.size, 0, none⟩) 1 [x] :=
  ⟨rfl, fun _ => ⟨_, rfl, cell_one_new _ _ _⟩⟩

/-! ### Lists -/
theorem take_step {α : Type} {l m : List α} {k : Nat} {x : α} (h1 : l[k]? = some x) (h2 : m[k]? = some x) (h : l.take k = m.take k) : l.take (k + 1) = m.take (k + 1) := by
  rw [List.take_add_one, List.take_add_one, h1, h2, h]
theorem eq_of_takes {α : Type} {l m : List α} {n : Nat} (h1 : l.length = n) (h2 : m.length = n) (h : l.take n = m.take n) : l = m := by
  rwa [List.take_of_length_le (by omega), List.take_of_length_le (by omega)] at h
theorem ne_of_at {α : Type} {l m : List α} {k : Nat} {x y : α} (h1 : l[k]? = some x) (h2 : m[k]? = some y) (h : x ≠ y) : l ≠ m := by
  rintro rfl
  rw [h1] at h2
  exact h (by injection h2)
theorem take_snoc_ {α : Type} {l : List α} {k : Nat} {x : α} (h : l[k]? = some x) : l.take (k + 1) = l.take k ++ [x] := by
  rw [List.take_add_one, h]; rfl
theorem get_lt {α : Type} {l : List α} {k : Nat} {x : α} (h : l[k]? = some x) : k < l.length := (List.getElem?_eq_some_iff.1 h).1

theorem set_at {α : Type} {p r : List α} {x : α} {j : Nat} (h : p.length = j) : (p ++ r).set j x = p ++ (r.set 0 x) := by
  subst h
  rw [List.set_append_right _ _ (Nat.le_refl _), Nat.sub_self]
theorem set_step {α : Type} {p l : List α} {x : α} {j : Nat} (h : p.length = j) (hj : j < l.length) : (p ++ l.drop j).set j x = (p ++ [x]) ++ l.drop (j + 1) := by
  rw [set_at h, List.drop_eq_getElem_cons hj, List.set_cons_zero]
  simp
/-- the numbers k, k + 1, .. -/
def mk (k : Int) (n : Nat) : List Int := (List.range n).map fun j : Nat => k + (j : Int)
theorem mk_length (k : Int) (n : Nat) : (mk k n).length = n := by simp [mk]
theorem mk_succ (k : Int) (n : Nat) : mk k (n + 1) = mk k n ++ [k + (n : Int)] := by simp [mk, List.range_succ]
theorem mk_at (k : Int) {n j : Nat} (h : j < n) : (mk k n)[j]? = some (k + (j : Int)) := by simp [mk, h]

def mk8 (k : Int) (n : Nat) : List Int := (List.range n).map fun j : Nat => (k + (j : Int)) % 256
theorem mk8_length (k : Int) (n : Nat) : (mk8 k n).length = n := by simp [mk8]
theorem mk8_succ (k : Int) (n : Nat) : mk8 k (n + 1) = mk8 k n ++ [(k + (n : Int)) % 256] := by simp [mk8, List.range_succ]
theorem mk8_at (k : Int) {n j : Nat} (h : j < n) : (mk8 k n)[j]? = some ((k + (j : Int)) % 256) := by simp [mk8, h]
def mkB (k : Int) (n : Nat) : List Bool := (List.range n).map fun j : Nat => decide ((k + (j : Int)) % 3 = 0)
theorem mkB_length (k : Int) (n : Nat) : (mkB k n).length = n := by simp [mkB]
theorem mkB_succ (k : Int) (n : Nat) : mkB k (n + 1) = mkB k n ++ [decide ((k + (n : Int)) % 3 = 0)] := by simp [mkB, List.range_succ]
theorem mkB_at (k : Int) {n j : Nat} (h : j < n) : (mkB k n)[j]? = some (decide ((k + (j : Int)) % 3 = 0)) := by simp [mkB, h]

/-! ### Integers -/
def ints (l : List Int) : List Value := l.map (Value.int .i64)
def u8s (l : List Int) : List Value := l.map (Value.int .u8)
def bls (l : List Bool) : List Value := l.map Value.bool
def sts (l : List ByteArray) : List Value := l.map Value.string
theorem map_at {α : Type} {f : α → Value} {l : List α} {k : Nat} {u : Value} (h : (l.map f)[k]? = some u) : ∃ x, l[k]? = some x ∧ u = f x := by
  simp only [List.getElem?_map, Option.map_eq_some_iff] at h
  obtain ⟨x, hx, rfl⟩ := h
  exact ⟨x, hx, rfl⟩
theorem Rd.map_ {α : Type} {f : α → Value} {w : World} {A : Option Addr} {n : Nat} {l : List α} (h : Rd w 1 A n (l.map f)) {k : Nat} (hk : k < n) : ∃ ad x, A = some ad ∧ l[k]? = some x ∧ w.cell? (ad.add k) = some (f x) := by
  obtain ⟨ad, u, rfl, hu, hc⟩ := h.at_ hk
  obtain ⟨x, hx, rfl⟩ := map_at hu
  exact ⟨ad, x, rfl, hx, hc⟩
theorem Rd.maplen {α : Type} {f : α → Value} {w : World} {A : Option Addr} {n : Nat} {l : List α} (h : Rd w 1 A n (l.map f)) : l.length = n := by
  have := h.1
  simpa using this
theorem ints_length (l : List Int) : (ints l).length = l.length := by simp [ints]
theorem u8s_length (l : List Int) : (u8s l).length = l.length := by simp [u8s]
theorem bls_length (l : List Bool) : (bls l).length = l.length := by simp [bls]
theorem sts_length (l : List ByteArray) : (sts l).length = l.length := by simp [sts]
theorem ints_snoc (l : List Int) (x : Int) : ints (l ++ [x]) = ints l ++ [.int .i64 x] := by simp [ints]
theorem u8s_snoc (l : List Int) (x : Int) : u8s (l ++ [x]) = u8s l ++ [.int .u8 x] := by simp [u8s]
theorem bls_snoc (l : List Bool) (x : Bool) : bls (l ++ [x]) = bls l ++ [.bool x] := by simp [bls]
theorem sts_snoc (l : List ByteArray) (x : ByteArray) : sts (l ++ [x]) = sts l ++ [.string x] := by simp [sts]
theorem ints_one (l : List Int) : ∀ u ∈ ints l, u.oneCell' = true := ints_oneCell .i64 l
theorem u8s_one (l : List Int) : ∀ u ∈ u8s l, u.oneCell' = true := ints_oneCell .u8 l
theorem bls_one (l : List Bool) : ∀ u ∈ bls l, u.oneCell' = true := by intro u hu; obtain ⟨x, _, rfl⟩ := List.mem_map.1 hu; rfl
theorem sts_one (l : List ByteArray) : ∀ u ∈ sts l, u.oneCell' = true := by intro u hu; obtain ⟨x, _, rfl⟩ := List.mem_map.1 hu; rfl
theorem Rd.int {w : World} {A : Option Addr} {n : Nat} {l : List Int} (h : Rd w 1 A n (ints l)) {k : Nat} (hk : k < n) : ∃ ad x, A = some ad ∧ l[k]? = some x ∧ w.cell? (ad.add k) = some (.int .i64 x) := Rd.map_ h hk
theorem Rd.u8 {w : World} {A : Option Addr} {n : Nat} {l : List Int} (h : Rd w 1 A n (u8s l)) {k : Nat} (hk : k < n) : ∃ ad x, A = some ad ∧ l[k]? = some x ∧ w.cell? (ad.add k) = some (.int .u8 x) := Rd.map_ h hk
theorem Rd.bl {w : World} {A : Option Addr} {n : Nat} {l : List Bool} (h : Rd w 1 A n (bls l)) {k : Nat} (hk : k < n) : ∃ ad x, A = some ad ∧ l[k]? = some x ∧ w.cell? (ad.add k) = some (.bool x) := Rd.map_ h hk
theorem Rd.st {w : World} {A : Option Addr} {n : Nat} {l : List ByteArray} (h : Rd w 1 A n (sts l)) {k : Nat} (hk : k < n) : ∃ ad x, A = some ad ∧ l[k]? = some x ∧ w.cell? (ad.add k) = some (.string x) := Rd.map_ h hk
theorem Rd.len {w : World} {A : Option Addr} {n : Nat} {l : List Int} (h : Rd w 1 A n (ints l)) : l.length = n := h.maplen
/-! ### Strings and bytes -/
theorem ret_s {a b : ByteArray} (h : a = b) : Ending.returned (.string a) = .returned (.string b) := by rw [h]
theorem cons_bytes (b : UInt8) (l : List UInt8) : (⟨#[b]⟩ : ByteArray) ++ ⟨l.toArray⟩ = ⟨(b :: l).toArray⟩ := by
  apply ByteArray.ext
  simp [ByteArray.data_append]
theorem val_s {a b : ByteArray} (h : a = b) : Value.string a = .string b := by rw [h]
/-- 'string([]byte{c})' -/
theorem conv_one {P : Program} (src dst e : TypeId) (hs : P.underlying src = some (.slice e)) (he : P.underlying e = some (.int .u8)) (hd : P.underlying dst = some .string) (W : World) (z : Int) :
    (convert src dst (.slice (some ⟨W.heap.size, 0, none⟩) 1 1)).run P (W.alloc (.cells #[.int .u8 z] e)) = .ok (.string ⟨#[UInt8.ofNat z.toNat]⟩) (W.alloc (.cells #[.int .u8 z] e)) := by
  have h := run_convert_bytes_arg (P := P) (W.alloc (.cells #[.int .u8 z] e)) src e hs he W.heap.size 0 1 1 [z] rfl (by
    intro i hi
    obtain rfl : i = 0 := by omega
    simp) dst hd
  rw [h]
  rfl
/-- 'string(b)', b whatever reads as bytes -/
theorem conv_rd {P : Program} (src dst e : TypeId) (hs : P.underlying src = some (.slice e)) (he : P.underlying e = some (.int .u8)) (hd : P.underlying dst = some .string) (W : World) {A : Option Addr} {n c : Nat} {l : List Int} (h : Rd W 1 A n (u8s l)) :
    (convert src dst (.slice A n c)).run P W = .ok (.string (strOfNums l)) W := by
  have hl : l.length = n := h.maplen
  rcases Nat.eq_zero_or_pos n with h0 | h0
  · subst h0
    have : l = [] := List.eq_nil_of_length_eq_zero hl
    subst this
    rw [run_convert_bytes_string W src dst e A 0 c hs he hd]
    cases A with
    | none => simp [Conv.bytesToString, strOfNums]; rfl
    | some a =>
      have h2 := run_loadCells_list (P := P) W a [] (fun j v hj => by simp at hj)
      simp only [List.length_nil] at h2
      rw [run_bytesToString W a 0 c [] h2]
      simp [strOfNums]; rfl
  · obtain ⟨ad, rfl, hc⟩ := h.2 h0
    subst hl
    rw [run_convert_bytes_string W src dst e (some ad) l.length c hs he hd]
    have h2 := run_loadCells_list (P := P) W ad (l.map (Value.int .u8)) hc
    simp only [List.length_map] at h2
    rw [run_bytesToString W ad l.length c _ h2, foldl_push_bytes]
    simp [strOfNums, ByteArray.empty, ByteArray.emptyWithCapacity]
    rfl

/-! ### The row's last step where 'Below' is known of the world -/
section
variable {H : Type} {enc : TypeId × Value → H} {P : Program}
theorem trodAll_stays (hl : laidOutB P = true) {W W' : World} (hb : Below W.heap.size W W') {sp : Nat → Bool} : ∀ (ts : List TypeId) (vs : List Value) (ds : List (DataW H)) (ps : List MemPlace),
    (ts.all fun t => P.readableRec t && decide (t < P.types.size)) = true → (∀ x ∈ ps, x.block < W.heap.size) → (∀ x ∈ ps, sp x.block = true) →
    DataW.TrodAll enc P W 0 (fun _ => true) true ts vs ds ps → DataW.TrodAll enc P W' 0 sp true ts vs ds ps := by
  intro ts
  induction ts with
  | nil =>
    intro vs ds ps _ _ _ h
    obtain ⟨rfl, rfl, rfl⟩ := trodAll_nil h
    exact trodAll_mk0
  | cons t ts ih =>
    intro vs ds ps hr hlt hsp h
    obtain ⟨v, vs', d, ds', p, q, rfl, rfl, rfl, h0, r0⟩ := trodAll_cons h
    simp only [List.all_cons, Bool.and_eq_true, decide_eq_true_eq] at hr
    refine trodAll_cons_mk (WideElems.Trod_stays hl hr.1.1 hr.1.2 h0 (fun x hx => hb.same (hlt x (by simp [hx]))) (fun x hx => hsp x (by simp [hx]))) ?_
    exact ih vs' ds' q hr.2 (fun x hx => hlt x (by simp [hx])) (fun x hx => hsp x (by simp [hx])) r0
theorem post_of_below {f : Func} {s : ChangeSpec} {apart fresh handsOn again : Bool} {W W' : World} {args : Array Value} {v : Value} {ds gs : List (DataW H)} {before pa pv : List MemPlace}
    (hW : DataW.Whole enc P f.params.toList s.vars apart W args.toList ds gs before)
    (hres : ∀ (b : Nat) (sp : Nat → Bool) (hd : Bool), DataW.TrodAll enc P W' b sp hd f.resultTypes.toList (v.resultList f.resultTypes.size) (s.fn H (ds ++ gs)).results [])
    (hargs : ∀ sp : Nat → Bool, (∀ p ∈ before, sp p.block = true) → DataW.TrodAll enc P W' 0 sp true f.params.toList args.toList (s.fn H (ds ++ gs)).args pa)
    (hvars : ∀ sp : Nat → Bool, (∀ p ∈ before, sp p.block = true) → DataW.TrodVars enc P W' sp s.vars (s.fn H (ds ++ gs)).vars pv)
    (hps : before = pa ++ pv) (hb : Below W.heap.size W W')
    (hok : ∀ (j : Nat) (t : TypeId) (r : Value), f.resultTypes[j]? = some t → (v.resultList f.resultTypes.size)[j]? = some r → Value.okWide P W' .any 0 t r) :
    s.post enc P f apart fresh handsOn again W args v W' := by
  have hlt : ∀ p ∈ before, p.block < W.heap.size := fun p hp => hW.lt p hp
  have hold : ∀ p ∈ before, (fun b => decide (b < W.heap.size)) p.block = true := fun p hp => by simpa using hlt p hp
  refine ⟨ds, gs, before, [], pa, pv, hW, hres _ _ _, hargs _ hold, hvars _ hold, World.keptBut_mono (fun p hp => ⟨hp, ?_⟩) (hb.frame (· ∈ before)), fun _ => ?_⟩
  · rw [hps, List.mem_append] at hp
    exact Or.inr hp
  · obtain ⟨_, _, _, _, _, hz, hn⟩ := hW
    refine ⟨hok, _, _, ([] ++ pa) ++ pv, ⟨[] ++ pa, pv, trodAll_append (hargs _ (fun _ _ => rfl)) (hres _ _ _), hvars _ (fun _ _ => rfl), rfl, ?_, ?_⟩, ?_⟩
    · intro b off hp
      have hin : MemPlace.cell b off ∈ before := by rw [hps]; simpa using hp
      rw [hb.frozen (hlt _ hin)]
      exact hz b off hin
    · intro ha
      have := hn ha
      rw [hps] at this
      simpa using this
    · intro p hp _
      rw [hps]
      simpa using hp
end

end Go.Proofs.Ythjdigiaajdnbaa
