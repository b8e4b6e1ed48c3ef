/- Contracts of the laws' own marking of redacted documents, whole. For rows of at most 2^40 elements. -/
import Derived.Test.YthjdigiaajdnbaaMkR
import Derived.Test.YthjdigiaajdnbaaRedE
namespace Go.Proofs.Ythjdigiaajdnbaa
open Go.RowKit Go.WideShapes Go.ChangeShapes Go.Deep
set_option linter.unusedSimpArgs false
set_option linter.unusedVariables false
set_option maxRecDepth 1000000
/-- the rows as the readings of a redacted document -/
theorem Rows_.rdr {w : World} {b kx : Nat} {M B P S D : Option Addr} {nm nb np ns nd cm cb cp cs cd : Nat} {ms : List Int} {bs : List Bool} {ps : List ByteArray} {ss : List Int} {rs : List Sr} {ds : List (List Int)} (h : Rows_ w b kx ([⟨3, M, nm, cm, ints ms⟩, ⟨4, B, nb, cb, bls bs⟩, ⟨9, P, np, cp, sts ps⟩, ⟨3, S, ns, cs, ints ss⟩, ⟨24, D, nd, cd, srs rs⟩] ++ inn rs ds)) (hl : rs.length = ds.length) : RdR w M B P S D nm nb np ns nd ms bs ps ss ds :=
  ⟨Rd.of_own (h.own 0 _ rfl), Rd.of_own (h.own 1 _ rfl), Rd.of_own (h.own 2 _ rfl), Rd.of_own (h.own 3 _ rfl), rs, Rd.of_own (h.own 4 _ rfl), hl, fun j r l hr hl2 => Rd.of_own (h.own (5 + j) _ (by rw [List.getElem?_append_right (by simp)]; simp only [List.length_cons, List.length_nil]; rw [show 5 + j - (0 + 1 + 1 + 1 + 1 + 1) = j by omega]; exact inn_at hr hl2))⟩
end Go.Proofs.Ythjdigiaajdnbaa
