/- Contracts of Hash, KeyedHash and DigestOf, of the program and of the reference. For lists of at most 2^40 integers. -/
import Derived.Test.YthjdigiaajdnbaaIntS
import Derived.Test.YthjdigiaajdnbaaInt
namespace Go.Proofs.Ythjdigiaajdnbaa
open Go.RowKit Go.WideShapes Go.ChangeShapes Go.Deep
set_option linter.unusedSimpArgs false
set_option linter.unusedVariables false
def hashF (l : List Int) : Int := l.foldl (fun h v => (h * 1000003 + modI v 2147483647 + 13) % 2147483647) 11
theorem hashF_snoc (l : List Int) (x : Int) : hashF (l ++ [x]) = (hashF l * 1000003 + modI x 2147483647 + 13) % 2147483647 := by simp [hashF]
theorem hashF_step {l : List Int} {k : Nat} {x : Int} (h : l[k]? = some x) : hashF (l.take (k + 1)) = (hashF (l.take k) * 1000003 + modI x 2147483647 + 13) % 2147483647 := by
  rw [take_snoc_ h, hashF_snoc]
theorem hashF_bd (l : List Int) : 0 ≤ hashF l ∧ hashF l ≤ 2147483646 := by
  rcases List.eq_nil_or_concat l with rfl | ⟨m, x, rfl⟩
  · simp [hashF]
  · rw [List.concat_eq_append, hashF_snoc]; omega
theorem modM_bd (x : Int) : 0 ≤ modI x 2147483647 ∧ modI x 2147483647 ≤ 2147483646 := by
  rw [modI_of (by omega) (by omega)]; omega
set_option maxHeartbeats 400000 in
theorem specHash_any {A : Option Addr} {n c : Nat} {l : List Int} {w : World} (h : Rd w 1 A n (ints l)) (hn : n ≤ 1099511627776) (hI : ∀ x ∈ l, I64 x) :
    Calls Try.prog 74 #[.slice A n c] w fun e w' => e = .returned (.int .i64 (hashF l)) ∧ ∃ q, w' = w.drewN q := by
  have HL := hide h.len
  go_enter Try.func74, Try.ntmps74
  go_wp2
  go_loopw [3, 4] (fun hh i wr => ∃ k q : Nat, k ≤ n ∧ i = .int .i64 k ∧ hh = .int .i64 (hashF (l.take k)) ∧ wr = w.drewN q) (fun _ i _ => n - (intOf i).toNat)
  case atStart => exact ⟨0, 0, Nat.zero_le _, rfl, rfl, rfl⟩
  case round =>
    obtain ⟨k, q, hk, rfl, rfl, rfl⟩ := hrel
    by_cases hlt : k < n
    · obtain ⟨ad, x, rfl, hx, hcx⟩ := Rd.int h hlt
      obtain ⟨hx1, hx2⟩ := hI x (List.mem_of_getElem? hx)
      obtain ⟨b1, b2⟩ := hashF_bd (l.take k)
      obtain ⟨m1, m2⟩ := modM_bd x
      have hs := hide (hashF_step hx)
      clear hx
      go_wp2_with (go_at_call 80; refine (specMod_any _ _ _ hx1 hx2).mono ?_; rintro e w' ⟨rfl, rfl⟩)
      go_roundw
      case rel => exact ⟨k + 1, q, by omega, by go_num, by rw [hs.out], rfl⟩
      case measure => simp [intOf]; omega
    · have hfin := hide (show hashF (l.take k) = hashF l by
        have := HL.out
        rw [List.take_of_length_le (by omega)])
      go_wp2
      go_ret
      exact ⟨ret_i hfin.out, q, rfl⟩
set_option maxHeartbeats 400000 in
theorem implHash_any {A : Option Addr} {n c : Nat} {l : List Int} {w : World} (h : Rd w 1 A n (ints l)) (hn : n ≤ 1099511627776) (hI : ∀ x ∈ l, I64 x) :
    Calls Try.prog 69 #[.slice A n c] w fun e w' => e = .returned (.int .i64 (hashF l)) ∧ ∃ q, w' = w.drewN q := by
  have HL := hide h.len
  go_enter Try.func69, Try.ntmps69
  go_wp2
  go_loopw [3, 8] (fun hh i wr => ∃ k q : Nat, k ≤ n ∧ i = .int .i64 k ∧ hh = .int .i64 (hashF (l.take k)) ∧ wr = w.drewN q) (fun _ i _ => n - (intOf i).toNat)
  case atStart => exact ⟨0, 0, Nat.zero_le _, rfl, rfl, rfl⟩
  case round =>
    obtain ⟨k, q, hk, rfl, rfl, rfl⟩ := hrel
    by_cases hlt : k < n
    · obtain ⟨ad, x, rfl, hx, hcx⟩ := Rd.int h hlt
      obtain ⟨hx1, hx2⟩ := hI x (List.mem_of_getElem? hx)
      obtain ⟨b1, b2⟩ := hashF_bd (l.take k)
      obtain ⟨m1, m2⟩ := modM_bd x
      have hs := hide (hashF_step hx)
      clear hx
      go_wp2_with (go_at_call 75; refine (implMod_any _ _ _ hx1 hx2).mono ?_; rintro e w' ⟨rfl, rfl⟩)
      go_roundw
      case rel => exact ⟨k + 1, q, by omega, by go_num, by rw [hs.out], rfl⟩
      case measure => simp [intOf]; omega
    · have hfin := hide (show hashF (l.take k) = hashF l by
        have := HL.out
        rw [List.take_of_length_le (by omega)])
      go_wp2
      go_ret
      exact ⟨ret_i hfin.out, q, rfl⟩
end Go.Proofs.Ythjdigiaajdnbaa
