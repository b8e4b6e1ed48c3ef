/- Slices of structs, cell by cell: plain lemmas on lists and on rows of the call's own. No condition. -/
import Derived.Test.YtgeffaohdoeclaaBase
namespace Go.Proofs.Ytgeffaohdoeclaa
open Go.RowKit Go.WideShapes Go.ChangeShapes Go.Deep
set_option linter.unusedSimpArgs false
set_option linter.unusedVariables false

section
variable {α : Type} {f : α → List Value} {s : Nat}
theorem flat_len (hf : ∀ x, (f x).length = s) (l : List α) : (l.flatMap f).length = l.length * s := by
  induction l with
  | nil => simp
  | cons x l ih => rw [List.flatMap_cons, List.length_append, hf, ih, List.length_cons, Nat.succ_mul]; omega
theorem flat_at (hf : ∀ x, (f x).length = s) : ∀ (l : List α) (k j : Nat) (x : α), l[k]? = some x → j < s → (l.flatMap f)[k * s + j]? = (f x)[j]? := by
  intro l
  induction l with
  | nil => intro k j x h; simp at h
  | cons y l ih =>
    intro k j x h hj
    rw [List.flatMap_cons]
    cases k with
    | zero =>
      simp at h
      subst h
      rw [List.getElem?_append_left (by rw [hf]; omega)]
      congr 1
      omega
    | succ k =>
      rw [List.getElem?_append_right (by rw [hf, Nat.succ_mul]; omega), hf]
      have e : (k + 1) * s + j - s = k * s + j := by rw [Nat.succ_mul]; omega
      rw [e]
      exact ih k j x (by simpa using h) hj
theorem flat_take (hf : ∀ x, (f x).length = s) : ∀ (k : Nat) (l : List α), (l.take k).flatMap f = (l.flatMap f).take (k * s) := by
  intro k
  induction k with
  | zero => intro l; simp
  | succ k ih =>
    intro l
    cases l with
    | nil => simp
    | cons x l =>
      have e : (k + 1) * s - s = k * s := by rw [Nat.succ_mul]; omega
      have e2 : (f x).length ≤ (k + 1) * s := by rw [hf, Nat.succ_mul]; omega
      rw [List.take_succ_cons, List.flatMap_cons, List.flatMap_cons, ih, List.take_append, List.take_of_length_le e2, hf, e]
theorem Rd.of_flat {w : World} {ad : Addr} {n : Nat} {l : List α} (hf : ∀ x, (f x).length = s) (hs : 0 < s) (hl : l.length = n) (h : ∀ k x, l[k]? = some x → ∀ j u, (f x)[j]? = some u → w.cell? (ad.add (k * s + j)) = some u) : Rd w s (some ad) n (l.flatMap f) := by
  refine ⟨by rw [flat_len hf, hl], fun _ => ⟨ad, rfl, fun j u hu => ?_⟩⟩
  have hj : j < l.length * s := by have := get_lt hu; rw [flat_len hf] at this; exact this
  have hk : j / s < l.length := (Nat.div_lt_iff_lt_mul hs).2 hj
  have he : j / s * s + j % s = j := Nat.div_add_mod' j s
  have hx : l[j / s]? = some (l[j / s]'hk) := List.getElem?_eq_getElem hk
  have h2 := flat_at hf l (j / s) (j % s) _ hx (Nat.mod_lt _ hs)
  rw [he, hu] at h2
  have h3 := h _ _ hx _ _ h2.symm
  rw [he] at h3
  exact h3
/-- element k of a slice of structs: its address and its cells -/
theorem Rd.flat {w : World} {A : Option Addr} {n : Nat} {l : List α} (hf : ∀ x, (f x).length = s) (hs : 0 < s) (h : Rd w s A n (l.flatMap f)) : l.length = n ∧ ∀ k, k < n → ∃ ad x, A = some ad ∧ l[k]? = some x ∧ ∀ j u, (f x)[j]? = some u → w.cell? (ad.add (k * s + j)) = some u := by
  have hl : l.length = n := by
    have := h.1
    rw [flat_len hf] at this
    exact Nat.eq_of_mul_eq_mul_right hs this
  refine ⟨hl, fun k hk => ?_⟩
  obtain ⟨ad, e, hc⟩ := h.2 (by omega)
  refine ⟨ad, l[k]'(by omega), e, List.getElem?_eq_getElem (by omega), fun j u hu => ?_⟩
  have hj : j < s := by have := get_lt hu; rw [hf] at this; exact this
  exact hc _ u ((flat_at hf l k j _ (List.getElem?_eq_getElem (by omega)) hj).trans hu)
end

theorem add_field (ad : Addr) (k s j : Nat) (h : 0 < j) : ad.add (k * s + j) = ⟨(ad.add (k * s)).block, (ad.add (k * s)).off + j, none⟩ := by
  rw [← add_of_add]
  show (if j = 0 then _ else _) = _
  rw [if_neg (by omega)]
theorem cell_field {w : World} {ad : Addr} {k s j : Nat} {u : Value} (h : w.cell? (ad.add (k * s + j)) = some u) (hj : 0 < j) : w.cell? ⟨(ad.add (k * s)).block, (ad.add (k * s)).off + j, none⟩ = some u := by
  rw [← add_field ad k s j hj]; exact h
/-- an owned row of structs: the cells of element j -/
theorem own_cell {w : World} {base : Nat} {e : TypeId} {s n c g : Nat} {xs : List Value} (h : w.ownsRow base e s (.slice (some ⟨g, 0, none⟩) n c) n xs) {j : Nat} (hj : j < n * s) :
    ∃ u, w.cell? ⟨g, j, none⟩ = some u ∧ w.frozen? ⟨g, j, none⟩ = false := by
  have hl := h.1
  have hu : xs[j]? = some (xs[j]'(by omega)) := List.getElem?_eq_getElem (by omega)
  exact ⟨_, (h.cellAt j (by omega)).trans hu, h.frozenAt j⟩
theorem set4 {p l : List Value} {a b c d : Value} {j : Nat} (h : p.length = j) (hj : j + 4 ≤ l.length) : ((((p ++ l.drop j).set j a).set (j + 1) b).set (j + 2) c).set (j + 3) d = (p ++ [a, b, c, d]) ++ l.drop (j + 4) := by
  rw [set_step h (by omega), set_step (by simp [h]) (by omega), set_step (by simp [h]) (by omega), set_step (by simp [h]) (by omega)]
  simp
theorem set2 {p l : List Value} {a b : Value} {j : Nat} (h : p.length = j) (hj : j + 2 ≤ l.length) : ((p ++ l.drop j).set j a).set (j + 1) b = (p ++ [a, b]) ++ l.drop (j + 2) := by
  rw [set_step h (by omega), set_step (by simp [h]) (by omega)]
  simp
theorem flat_snoc {α : Type} (f : α → List Value) (l : List α) (x : α) : (l ++ [x]).flatMap f = l.flatMap f ++ f x := by simp
/-! ### a method: four numbers -/
structure Mt where
  a : Int
  b : Int
  c : Int
  d : Int
deriving DecidableEq
def mtc (m : Mt) : List Value := [.int .i64 m.a, .int .i64 m.b, .int .i64 m.c, .int .i64 m.d]
theorem mtc_len (m : Mt) : (mtc m).length = 4 := rfl
def mts (l : List Mt) : List Value := l.flatMap mtc
theorem Rd.mt {w : World} {A : Option Addr} {n : Nat} {l : List Mt} (h : Rd w 4 A n (mts l)) {k : Nat} (hk : k < n) : ∃ ad m, A = some ad ∧ l[k]? = some m ∧ w.cell? (ad.add (k * 4)) = some (.int .i64 m.a) ∧ w.cell? ⟨(ad.add (k * 4)).block, (ad.add (k * 4)).off + 1, none⟩ = some (.int .i64 m.b) ∧ w.cell? ⟨(ad.add (k * 4)).block, (ad.add (k * 4)).off + 2, none⟩ = some (.int .i64 m.c) ∧ w.cell? ⟨(ad.add (k * 4)).block, (ad.add (k * 4)).off + 3, none⟩ = some (.int .i64 m.d) := by
  obtain ⟨_, h⟩ := Rd.flat mtc_len (by omega) h
  obtain ⟨ad, m, e, hm, hc⟩ := h k hk
  exact ⟨ad, m, e, hm, hc 0 _ rfl, cell_field (hc 1 _ rfl) (by omega), cell_field (hc 2 _ rfl) (by omega), cell_field (hc 3 _ rfl) (by omega)⟩
theorem Rd.mtlen {w : World} {A : Option Addr} {n : Nat} {l : List Mt} (h : Rd w 4 A n (mts l)) : l.length = n := (Rd.flat mtc_len (by omega) h).1

theorem own_mt {w : World} {base g n d j : Nat} {e : TypeId} {l : List Mt} {zs : List Value} {x : Mt} (ho : w.ownsRow base e 4 (.slice (some ⟨g, 0, none⟩) n d) n (mts (l.take j) ++ zs.drop (j * 4))) (hx : l[j]? = some x) (hz : zs.length = n * 4) (hj : j < n) :
    ((((w.setCell ⟨g, j * 4, none⟩ (.int .i64 x.a)).setCell ⟨g, j * 4 + 1, none⟩ (.int .i64 x.b)).setCell ⟨g, j * 4 + 2, none⟩ (.int .i64 x.c)).setCell ⟨g, j * 4 + 3, none⟩ (.int .i64 x.d)).ownsRow base e 4 (.slice (some ⟨g, 0, none⟩) n d) n (mts (l.take (j + 1)) ++ zs.drop ((j + 1) * 4)) := by
  have s0 := (own_set ho (j * 4) (.int .i64 x.a)).1
  have s1 := (own_set s0 (j * 4 + 1) (.int .i64 x.b)).1
  have s2 := (own_set s1 (j * 4 + 2) (.int .i64 x.c)).1
  have s3 := (own_set s2 (j * 4 + 3) (.int .i64 x.d)).1
  have hl := get_lt hx
  rw [set4 (by rw [mts, flat_len mtc_len, List.length_take]; omega) (by omega)] at s3
  have e : (j + 1) * 4 = j * 4 + 4 := by omega
  have e2 : mts (l.take (j + 1)) = mts (l.take j) ++ [.int .i64 x.a, .int .i64 x.b, .int .i64 x.c, .int .i64 x.d] := by rw [take_snoc_ hx, mts, flat_snoc]; rfl
  rw [e, e2]
  exact s3
/-! ### a span: two numbers -/
structure Sp where
  f : Int
  t : Int
deriving DecidableEq
def spc (m : Sp) : List Value := [.int .i64 m.f, .int .i64 m.t]
theorem spc_len (m : Sp) : (spc m).length = 2 := rfl
def sps (l : List Sp) : List Value := l.flatMap spc
theorem Rd.sp {w : World} {A : Option Addr} {n : Nat} {l : List Sp} (h : Rd w 2 A n (sps l)) {k : Nat} (hk : k < n) : ∃ ad m, A = some ad ∧ l[k]? = some m ∧ w.cell? (ad.add (k * 2)) = some (.int .i64 m.f) ∧ w.cell? ⟨(ad.add (k * 2)).block, (ad.add (k * 2)).off + 1, none⟩ = some (.int .i64 m.t) := by
  obtain ⟨_, h⟩ := Rd.flat spc_len (by omega) h
  obtain ⟨ad, m, e, hm, hc⟩ := h k hk
  exact ⟨ad, m, e, hm, hc 0 _ rfl, cell_field (hc 1 _ rfl) (by omega)⟩
theorem Rd.splen {w : World} {A : Option Addr} {n : Nat} {l : List Sp} (h : Rd w 2 A n (sps l)) : l.length = n := (Rd.flat spc_len (by omega) h).1
theorem own_sp {w : World} {base g n d j : Nat} {e : TypeId} {l : List Sp} {zs : List Value} {x : Sp} (ho : w.ownsRow base e 2 (.slice (some ⟨g, 0, none⟩) n d) n (sps (l.take j) ++ zs.drop (j * 2))) (hx : l[j]? = some x) (hz : zs.length = n * 2) (hj : j < n) :
    ((w.setCell ⟨g, j * 2, none⟩ (.int .i64 x.f)).setCell ⟨g, j * 2 + 1, none⟩ (.int .i64 x.t)).ownsRow base e 2 (.slice (some ⟨g, 0, none⟩) n d) n (sps (l.take (j + 1)) ++ zs.drop ((j + 1) * 2)) := by
  have s0 := (own_set ho (j * 2) (.int .i64 x.f)).1
  have s1 := (own_set s0 (j * 2 + 1) (.int .i64 x.t)).1
  have hl := get_lt hx
  rw [set2 (by rw [sps, flat_len spc_len, List.length_take]; omega) (by omega)] at s1
  have e : (j + 1) * 2 = j * 2 + 2 := by omega
  have e2 : sps (l.take (j + 1)) = sps (l.take j) ++ [.int .i64 x.f, .int .i64 x.t] := by rw [take_snoc_ hx, sps, flat_snoc]; rfl
  rw [e, e2]
  exact s1
end Go.Proofs.Ytgeffaohdoeclaa
