/- What RedactDocument says, in plain words. No condition. -/
import Derived.Test.YthjdigiaajdnbaaRecX
import Derived.Test.YthjdigiaajdnbaaDocI
import Derived.Test.YthjdigiaajdnbaaPart
import Derived.Test.YthjdigiaajdnbaaIdx
import Derived.Test.YthjdigiaajdnbaaBoolS
import Derived.Test.YthjdigiaajdnbaaRedT
import Derived.Test.YthjdigiaajdnbaaDocD
import Derived.Test.YthjdigiaajdnbaaMarkD
namespace Go.Proofs.Ythjdigiaajdnbaa
open Go.RowKit Go.WideShapes Go.ChangeShapes Go.Deep
set_option linter.unusedSimpArgs false
set_option linter.unusedVariables false
set_option maxRecDepth 1000000
def hid (hide : List Int) (i : Nat) : Bool := hasF hide (i : Int)
def rB (hide : List Int) (k : Nat) : List Bool := (List.range k).map fun i => !(hid hide i)
def rP (hide : List Int) (ps : List ByteArray) (k : Nat) : List ByteArray := (List.range k).map fun i => if hid hide i = true then ByteArray.empty else ps.getD i ByteArray.empty
def rS (hide : List Int) (ss : List Int) (k : Nat) : List Int := (List.range k).map fun i => if hid hide i = true then 0 else ss.getD i 0
def rD (hide ms : List Int) (ps : List ByteArray) (ss : List Int) (k : Nat) : List (List Int) := (List.range k).map fun i => if hid hide i = true then ms.map (fun m => partF m (ps.getD i ByteArray.empty) (ss.getD i 0)) else []
theorem rB_succ (hide : List Int) (k : Nat) : rB hide (k + 1) = rB hide k ++ [!(hid hide k)] := by simp [rB, List.range_succ]
theorem rP_succ (hide : List Int) (ps : List ByteArray) (k : Nat) : rP hide ps (k + 1) = rP hide ps k ++ [if hid hide k = true then ByteArray.empty else ps.getD k ByteArray.empty] := by simp [rP, List.range_succ]
theorem rS_succ (hide : List Int) (ss : List Int) (k : Nat) : rS hide ss (k + 1) = rS hide ss k ++ [if hid hide k = true then 0 else ss.getD k 0] := by simp [rS, List.range_succ]
theorem rD_succ (hide ms : List Int) (ps : List ByteArray) (ss : List Int) (k : Nat) : rD hide ms ps ss (k + 1) = rD hide ms ps ss k ++ [if hid hide k = true then ms.map (fun m => partF m (ps.getD k ByteArray.empty) (ss.getD k 0)) else []] := by simp [rD, List.range_succ]
theorem rD_len (hide ms : List Int) (ps : List ByteArray) (ss : List Int) (k : Nat) : (rD hide ms ps ss k).length = k := by simp [rD]
def redX (ms : List Int) (t : Int) (ps : List ByteArray) (ss hide : List Int) : RedD := if isDoc t ps ss = true then ⟨t, ms, rB hide ps.length, rP hide ps ps.length, rS hide ss ps.length, rD hide ms ps ss ps.length⟩ else ⟨0, [], [], [], [], []⟩
def inn (rs : List Sr) (ls : List (List Int)) : List Fld := List.zipWith (fun r l => ⟨3, r.1, r.2.1, r.2.2, ints l⟩) rs ls
theorem inn_snoc {rs : List Sr} {ls : List (List Int)} (h : rs.length = ls.length) (r : Sr) (l : List Int) : inn (rs ++ [r]) (ls ++ [l]) = inn rs ls ++ [⟨3, r.1, r.2.1, r.2.2, ints l⟩] := by
  unfold inn
  rw [List.zipWith_append h]
  rfl
/-- what RedactDocument hands back -/
def RrOut (w w' : World) (e : Ending) (ok : Bool) (X : RedD) : Prop :=
  ∃ M B P S D nm nb np ns nd cm cb cp cs cd rs k, e = .returned (.tuple #[reV X.t M B P S D nm nb np ns nd cm cb cp cs cd, .bool ok]) ∧ rs.length = X.ds.length ∧
    Rows_ w' w.heap.size k ([⟨3, M, nm, cm, ints X.ms⟩, ⟨4, B, nb, cb, bls X.bs⟩, ⟨9, P, np, cp, sts X.ps⟩, ⟨3, S, ns, cs, ints X.ss⟩, ⟨24, D, nd, cd, srs rs⟩] ++ inn rs X.ds) ∧ Below w.heap.size w w'
theorem Rd.drewR {w : World} {s n : Nat} {A : Option Addr} {xs : List Value} (h : Rd w s A n xs) : Rd w.drew s A n xs := h
theorem Rows_.rek {w : World} {b k k2 : Nat} {fs : List Fld} (h : Rows_ w b k fs) (hk : w.heap.size ≤ k2) : Rows_ w b k2 fs :=
  ⟨h.own, fun i f hi he => by have := ((h.own i f hi).lt k2 (by rw [blk_own]; exact he)).2; omega, h.ap⟩
theorem Rows_.base {w : World} {b b2 k : Nat} {fs : List Fld} (h : Rows_ w b k fs) (hb : b2 ≤ b) : Rows_ w b2 k fs := ⟨fun i f hi => own_base (h.own i f hi) hb, h.off, h.ap⟩
theorem Rows_.nils (w : World) (b k : Nat) (es : List TypeId) : Rows_ w b k (es.map Fld.nil) := by
  have key : ∀ (i : Nat) (f : Fld), (es.map Fld.nil)[i]? = some f → ∃ e, f = Fld.nil e := by
    intro i f h
    simp only [List.getElem?_map, Option.map_eq_some_iff] at h
    obtain ⟨e, _, rfl⟩ := h
    exact ⟨e, rfl⟩
  refine ⟨?_, ?_, ?_⟩
  · intro i f h
    obtain ⟨e, rfl⟩ := key i f h
    exact World.ownsRow_nil _ _ _ _
  · intro i f h he
    obtain ⟨e, rfl⟩ := key i f h
    cases he
  · intro i j f g _ h _ q hq
    obtain ⟨e, rfl⟩ := key i f h
    cases hq
theorem Rows_.cons_nils {w : World} {b k : Nat} {f : Fld} (es : List TypeId) (h : Rows_ w b k [f]) : Rows_ w b k (f :: es.map Fld.nil) := by
  have hn := Rows_.nils w b k es
  refine ⟨?_, ?_, ?_⟩
  · intro i g hg
    cases i with
    | zero => simp at hg; exact h.own 0 g (by simp [hg])
    | succ i => exact hn.own i g (by simpa using hg)
  · intro i g hg
    cases i with
    | zero => simp at hg; exact h.off 0 g (by simp [hg])
    | succ i => exact hn.off i g (by simpa using hg)
  · intro i j f1 g1 hij h1 h2 q hq he
    have nil_ : ∀ (i : Nat) (f1 : Fld), (es.map Fld.nil)[i]? = some f1 → blk f1.A = none := by
      intro i f1 h1
      simp only [List.getElem?_map, Option.map_eq_some_iff] at h1
      obtain ⟨e, _, rfl⟩ := h1
      rfl
    cases i with
    | zero =>
      cases j with
      | zero => omega
      | succ j => rw [nil_ j g1 (by simpa using h2)] at he; cases he
    | succ i => rw [nil_ i f1 (by simpa using h1)] at hq; cases hq
/-- the variable filled in -/
theorem RecX.fill {b : Nat} {W1 w : World} {bx : Nat} {t : Int} {M : Option Addr} {nm cM : Nat} {ms : List Int} {u0 u1 u2 u3 u4 u5 : Value} (hB : Blk w bx [u0, u1, u2, u3, u4, u5]) (hR : Rows_ w b bx [⟨3, M, nm, cM, ints ms⟩]) (hb : b ≤ bx) (hbel : Below b W1 w) :
    RecX b W1 ((((((w.setCell ⟨bx, 0, none⟩ (.int .i64 t)).setCell ⟨bx, 1, none⟩ (.slice M nm cM)).setCell ⟨bx, 2, none⟩ (.slice none 0 0)).setCell ⟨bx, 3, none⟩ (.slice none 0 0)).setCell ⟨bx, 4, none⟩ (.slice none 0 0)).setCell ⟨bx, 5, none⟩ (.slice none 0 0)) bx t [⟨3, M, nm, cM, ints ms⟩, ⟨4, none, 0, 0, []⟩, ⟨9, none, 0, 0, []⟩, ⟨3, none, 0, 0, []⟩, ⟨24, none, 0, 0, []⟩] [] := by
  have hs : bx < w.heap.size := hB.lt
  refine ⟨by simp [World.size_setCell]; exact hs, hb, ?_, ?_, ?_⟩
  · have := ((((((hB.set 0 (.int .i64 t)).set 1 (.slice M nm cM)).set 2 (.slice none 0 0)).set 3 (.slice none 0 0)).set 4 (.slice none 0 0)).set 5 (.slice none 0 0))
    exact this
  · rw [List.append_nil]
    have := (Rows_.cons_nils [4, 9, 3, 24] hR)
    exact (((((this.set (j := 0) (.int .i64 t)).set (j := 1) (.slice M nm cM)).set (j := 2) (.slice none 0 0)).set (j := 3) (.slice none 0 0)).set (j := 4) (.slice none 0 0)).set (j := 5) (.slice none 0 0)
  · have c := fun (x : World) (hx : Below b W1 x) (j : Nat) (v : Value) => hx.setCell (p := ⟨bx, j, none⟩) hb v
    exact c _ (c _ (c _ (c _ (c _ (c _ hbel 0 _) 1 _) 2 _) 3 _) 4 _) 5 _
end Go.Proofs.Ythjdigiaajdnbaa
