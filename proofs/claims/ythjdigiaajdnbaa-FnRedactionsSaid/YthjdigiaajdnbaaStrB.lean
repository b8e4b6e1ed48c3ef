/- The bytes of a string, and the world behind a conversion of a string to bytes. No condition. -/
import Derived.Test.YthjdigiaajdnbaaBase
namespace Go.Proofs.Ythjdigiaajdnbaa
open Go.RowKit Go.WideShapes Go.ChangeShapes Go.Deep
set_option linter.unusedSimpArgs false
set_option linter.unusedVariables false
/-- the bytes of a string -/
def bytesL (s : ByteArray) : List Int := s.data.toList.map fun b => (b.toNat : Int)
theorem bytesL_length (s : ByteArray) : (bytesL s).length = s.size := by unfold bytesL; rw [List.length_map, Array.length_toList]; rfl
theorem bytesL_bd (s : ByteArray) : ∀ x ∈ bytesL s, 0 ≤ x ∧ x ≤ 255 := by
  intro x hx
  obtain ⟨b, _, rfl⟩ := List.mem_map.1 hx
  have := b.toNat_lt
  omega
theorem Rd.bytes (w : World) (e : TypeId) (s : ByteArray) : Rd (Lib.bytesWorld w e s) 1 (some ⟨w.heap.size, 0, none⟩) s.size (u8s (bytesL s)) := by
  refine ⟨by rw [u8s_length, bytesL_length, Nat.mul_one], fun _ => ⟨_, rfl, fun j u hu => ?_⟩⟩
  simp only [u8s, bytesL, List.map_map, List.getElem?_map, Option.map_eq_some_iff] at hu
  obtain ⟨b, hb, rfl⟩ := hu
  have hj : j < s.size := by
    have := get_lt hb
    rw [Array.length_toList] at this
    exact this
  rw [Addr.add_lit, Nat.zero_add, Lib.bytesWorld_cell w e s j hj, List.getD, hb]
  rfl
theorem below_bytes (w : World) (e : TypeId) (s : ByteArray) : Below w.heap.size w (Lib.bytesWorld w e s) :=
  ⟨rfl, rfl, rfl, by rw [Lib.bytesWorld_size]; omega, fun k hk => Lib.bytesWorld_at_old w e s k hk⟩

end Go.Proofs.Ythjdigiaajdnbaa
