/- Contracts of the functions that draw: l1New, l1Byte, l1Below, l1Once, l1Int, l1Str, l1Bytes. For codes of at most 2^20 bytes. -/
import Derived.Test.YthjdigiaajdnbaaCur
import Derived.Test.YthjdigiaajdnbaaByteS
import Derived.Test.YthjdigiaajdnbaaIntS
import Derived.Test.YthjdigiaajdnbaaStringS
import Derived.BigQuiet
namespace Go.Proofs.Ythjdigiaajdnbaa
open Go.RowKit Go.WideShapes Go.ChangeShapes Go.Deep
set_option linter.unusedSimpArgs false
set_option linter.unusedVariables false
set_option maxRecDepth 1000000
theorem i64_of (a : Int) : I64 (IntKind.i64.wrap a) := by rw [IntKind.wrap_i64]; unfold I64; omega
theorem i64_of' (a : Int) : I64 (wrap64 a) := by unfold I64 wrap64; omega
theorem grown_set {w : World} {p j : Nat} (u : Value) : w.grownBy (w.setCell ⟨p, j, none⟩ u) (some p) := by
  refine ⟨rfl, rfl, rfl, ?_, ?_⟩
  · rw [World.size_setCell]; exact Nat.le_refl _
  · intro i hi hne
    simp only [World.setCell, Array.getElem?_modify]
    rw [if_neg (by intro h; exact hne (by rw [h]))]
theorem Cur.set1 {W : World} {p n c k : Nat} {A : Option Addr} {l : List Int} {H j : Int} (g0 : W.cell? ⟨p, 0, none⟩ = some (.slice A n c)) (g1 : W.cell? ⟨p, 1, none⟩ = some (.int .i64 k)) (g2 : W.cell? ⟨p, 2, none⟩ = some (.int .i64 H))
    (e1 : W.frozen? ⟨p, 1, none⟩ = false) (e2 : W.frozen? ⟨p, 2, none⟩ = false) (hr : Rd W 1 A n (u8s l)) (ha : 0 < n → ∀ a, A = some a → a.block < p) (hn : n ≤ 1048576) (hj0 : 0 ≤ j) (hj1 : j ≤ (n : Int)) (hH : I64 H) (hB : ∀ x ∈ l, 0 ≤ x ∧ x ≤ 255) :
    Cur (W.setCell ⟨p, 1, none⟩ (.int .i64 j)) p :=
  ⟨A, n, c, l, j, H, (World.cell?_setCell_other _ _ _ _ (by simp)).trans g0, World.cell?_setCell_same _ _ _ g1, (World.cell?_setCell_other _ _ _ _ (by simp)).trans g2, by simpa using e1, by simpa using e2, hr.cur (grown_set _) (fun h a e => Nat.ne_of_lt (ha h a e)), ha, hn, hj0, hj1, hH, hB⟩
theorem snoc_all {α : Type} {Q : α → Prop} {l : List α} {x : α} (h : ∀ y ∈ l, Q y) (hx : Q x) : ∀ y ∈ l ++ [x], Q y := by
  intro y hy
  rcases List.mem_append.1 hy with h' | h'
  · exact h y h'
  · simp at h'; exact h' ▸ hx
theorem Rd.blk_lt {w : World} {n : Nat} {A : Option Addr} {l : List Int} (h : Rd w 1 A n (u8s l)) : 0 < n → ∀ a, A = some a → a.block < w.heap.size := by
  intro hn a e
  obtain ⟨ad, x, e2, _, hc⟩ := Rd.u8 h hn
  rw [e] at e2
  injection e2 with e2
  subst e2
  have := cell_lt hc
  rwa [block_of_add] at this
abbrev curV (p : Nat) : Value := .pointer (some ⟨p, 0, none⟩)
set_option maxHeartbeats 4000000 in
theorem l1Byte_any {p : Nat} {w : World} (hC : Cur w p) :
    Calls Try.prog 65 #[curV p] w fun e w' => ∃ x, e = .returned (.int .i64 x) ∧ 0 ≤ x ∧ x ≤ 255 ∧ Drawn w w' p := by
  obtain ⟨A, n, c, l, i, h, h0, h1, h2, f1, f2, hr, ha, hn, hi0, hi1, hh, hB⟩ := hC
  obtain ⟨k, rfl⟩ := Int.eq_ofNat_of_zero_le hi0
  have HA := hide ha
  have HB := hide hB
  clear ha hB hh hi0
  go_enter Try.func65, Try.ntmps65
  go_wp2_with fail
  generalize hE : World.setCell w ⟨p, 2, none⟩ _ = W2
  have g0 : W2.cell? ⟨p, 0, none⟩ = some (.slice A n c) := by rw [← hE]; exact (World.cell?_setCell_other _ _ _ _ (by simp)).trans h0
  have g1 : W2.cell? ⟨p, 1, none⟩ = some (.int .i64 k) := by rw [← hE]; exact (World.cell?_setCell_other _ _ _ _ (by simp)).trans h1
  obtain ⟨H, g2, hH⟩ : ∃ H, W2.cell? ⟨p, 2, none⟩ = some (.int .i64 H) ∧ I64 H := ⟨_, by rw [← hE]; exact World.cell?_setCell_same _ _ _ h2, by first | exact i64_of _ | exact i64_of' _⟩
  have e1 : W2.frozen? ⟨p, 1, none⟩ = false := by rw [← hE]; simpa using f1
  have e2 : W2.frozen? ⟨p, 2, none⟩ = false := by rw [← hE]; simpa using f2
  have hg : w.grownBy W2 (some p) := by rw [← hE]; exact grown_set _
  have hr2 := hr.cur hg (fun h a e => Nat.ne_of_lt (HA.out h a e))
  have HG := hide hg
  have HH := hide hH
  clear hE h0 h1 h2 f1 f2 hr hg hH
  go_quiet (fail)
  go_wp2_with fail
  have hn' : (n : Int) ≤ 1048576 := by omega
  by_cases hlt : k < n
  · obtain ⟨ad, x, rfl, hx, hcx⟩ := Rd.u8 hr2 hlt
    have hkn : (k : Int) < (n : Int) := by omega
    have hk0 : (0 : Int) ≤ (k : Int) := by omega
    clear hi1
    go_quiet (fail)
    go_wp2_with fail
    go_quiet (fail)
    go_wp2_with fail
    go_ret
    refine ⟨_, rfl, (and255 _).1, (and255 _).2, ?_, ?_⟩
    · refine Cur.set1 (W := W2.drewN _) g0 g1 g2 e1 e2 hr2 HA.out hn (by omega) (by omega) HH.out HB.out
    · exact grown_trans_ HG.out (grown_trans_ (grown_drewN (World.grownBy.refl _ _) _) (grown_set _))
  · have hkn : ¬ (k : Int) < (n : Int) := by omega
    go_quiet (fail)
    go_wp2_with fail
    go_ret
    exact ⟨_, rfl, (and255 _).1, (and255 _).2, ⟨_, n, c, l, _, H, g0, g1, g2, e1, e2, hr2, HA.out, hn, by omega, hi1, HH.out, HB.out⟩, grown_drewN HG.out _⟩
theorem tmod_bd {x n : Int} (h0 : 0 ≤ x) (h1 : 0 < n) : 0 ≤ x % n ∧ x % n < n := by
  exact ⟨Int.emod_nonneg _ (by omega), Int.emod_lt_of_pos _ h1⟩
/-- a number drawn below n -/
def Bel (n x : Int) : Prop := (n ≤ 0 → x = 0) ∧ (0 < n → 0 ≤ x ∧ x < n)
set_option maxHeartbeats 4000000 in
theorem l1Below_any {p : Nat} {n : Int} {w : World} (hC : Cur w p) (hn : n ≤ 9223372036854775807) :
    Calls Try.prog 32 #[curV p, .int .i64 n] w fun e w' => ∃ x, e = .returned (.int .i64 x) ∧ Bel n x ∧ I64 x ∧ Drawn w w' p := by
  by_cases h0 : n ≤ 0
  · go_enter Try.func32, Try.ntmps32
    go_wp2_with fail
    go_ret
    exact ⟨0, rfl, ⟨fun _ => rfl, fun h => absurd h (by omega)⟩, ⟨by omega, by omega⟩, hC, World.grownBy.refl _ _⟩
  · have hz : n ≠ 0 := by omega
    by_cases h1 : n ≤ 256
    · go_enter Try.func32, Try.ntmps32
      go_wp2_with fail
      refine (l1Byte_any hC).mono ?_
      rintro e w1 ⟨x, rfl, hx0, hx1, hd⟩
      go_wp2_with fail
      go_ret
      have hb := tmod_bd hx0 (show 0 < n by omega)
      exact ⟨x % n, rfl, ⟨fun h => absurd h (by omega), fun _ => hb⟩, ⟨by omega, by omega⟩, hd⟩
    · go_enter Try.func32, Try.ntmps32
      go_wp2_with fail
      refine (l1Byte_any hC).mono ?_
      rintro e w1 ⟨x, rfl, hx0, hx1, hd⟩
      go_wp2_with fail
      refine (l1Byte_any hd.1).mono ?_
      rintro e w2 ⟨y, rfl, hy0, hy1, hd2⟩
      go_wp2_with fail
      refine (l1Byte_any hd2.1).mono ?_
      rintro e w3 ⟨z, rfl, hz0, hz1, hd3⟩
      go_wp2_with fail
      go_ret
      have hb := tmod_bd (show 0 ≤ x * 65536 + y * 256 + z by omega) (show 0 < n by omega)
      exact ⟨(x * 65536 + y * 256 + z) % n, rfl, ⟨fun h => absurd h (by omega), fun _ => hb⟩, ⟨by omega, by omega⟩, (hd.next hd2).next hd3⟩
set_option maxHeartbeats 1000000 in
theorem l1Once_any {p : Nat} {n : Int} {w : World} (hC : Cur w p) (hn : n ≤ 9223372036854775807) :
    Calls Try.prog 76 #[curV p, .int .i64 n] w fun e w' => ∃ b, e = .returned (.bool b) ∧ Drawn w w' p := by
  go_enter Try.func76, Try.ntmps76
  go_wp2_with fail
  refine (l1Below_any hC hn).mono ?_
  rintro e w1 ⟨x, rfl, _, _, hd⟩
  go_wp2_with fail
  go_ret
  exact ⟨_, rfl, hd⟩
set_option maxHeartbeats 1000000 in
theorem l1Int_any {p : Nat} {A : Option Addr} {n c : Nat} {l : List Int} {w : World} (hC : Cur w p) (h : Rd w 1 A n (ints l)) (ha : ∀ a, A = some a → a.block ≠ p) (h0 : 0 < n) (hn : n ≤ 1048576) :
    Calls Try.prog 60 #[curV p, .slice A n c] w fun e w' => ∃ x, e = .returned (.int .i64 x) ∧ x ∈ l ∧ Drawn w w' p := by
  go_enter Try.func60, Try.ntmps60
  go_wp2_with fail
  refine (l1Below_any hC (by omega)).mono ?_
  rintro e w1 ⟨x, rfl, hx, _, hd⟩
  obtain ⟨hx0, hx1⟩ := hx.2 (by omega)
  obtain ⟨k, rfl⟩ := Int.eq_ofNat_of_zero_le hx0
  have hk : k < n := by omega
  obtain ⟨ad, y, rfl, hy, hcy⟩ := Rd.int (h.cur hd.2 (fun _ => ha)) hk
  clear hx
  go_wp2_with fail
  go_ret
  exact ⟨y, rfl, List.mem_of_getElem? hy, hd⟩
set_option maxHeartbeats 1000000 in
theorem l1Str_any {p : Nat} {A : Option Addr} {n c : Nat} {l : List ByteArray} {w : World} (hC : Cur w p) (h : Rd w 1 A n (sts l)) (ha : ∀ a, A = some a → a.block ≠ p) (h0 : 0 < n) (hn : n ≤ 1048576) :
    Calls Try.prog 72 #[curV p, .slice A n c] w fun e w' => ∃ x, e = .returned (.string x) ∧ x ∈ l ∧ Drawn w w' p := by
  go_enter Try.func72, Try.ntmps72
  go_wp2_with fail
  refine (l1Below_any hC (by omega)).mono ?_
  rintro e w1 ⟨x, rfl, hx, _, hd⟩
  obtain ⟨hx0, hx1⟩ := hx.2 (by omega)
  obtain ⟨k, rfl⟩ := Int.eq_ofNat_of_zero_le hx0
  have hk : k < n := by omega
  obtain ⟨ad, y, rfl, hy, hcy⟩ := Rd.st (h.cur hd.2 (fun _ => ha)) hk
  clear hx
  go_wp2_with fail
  go_ret
  exact ⟨y, rfl, List.mem_of_getElem? hy, hd⟩
set_option maxHeartbeats 2000000 in
theorem l1New_any {A : Option Addr} {n c : Nat} {l : List Int} {w : World} (h : Rd w 1 A n (u8s l)) (hn : n ≤ 1048576) (hB : ∀ x ∈ l, 0 ≤ x ∧ x ≤ 255) :
    Calls Try.prog 30 #[.slice A n c] w fun e w' => ∃ p, e = .returned (curV p) ∧ w.heap.size ≤ p ∧ Cur w' p ∧ Below w.heap.size w w' := by
  have HB := hide hB
  clear hB
  go_enter Try.func30, Try.ntmps30
  go_wp2_with fail
  go_loopw [3, 4] (fun hv i wr => ∃ (k : Nat) (x : Int), k ≤ n ∧ i = .int .i64 k ∧ hv = .int .i64 x ∧ I64 x ∧ wr = w) (fun _ i _ => n - (intOf i).toNat)
  case atStart => exact ⟨0, _, Nat.zero_le _, rfl, rfl, ⟨by omega, by omega⟩, rfl⟩
  case round =>
    obtain ⟨k, x, hk, rfl, rfl, hx, rfl⟩ := hrel
    have hk0 : (0 : Int) ≤ (k : Int) := by omega
    have HX := hide hx
    clear hx
    by_cases hlt : k < n ∧ k < 4000
    · obtain ⟨h1, h2⟩ := hlt
      obtain ⟨ad, y, rfl, hy, hcy⟩ := Rd.u8 h h1
      have hkn : (k : Int) < (n : Int) := by omega
      have hk4 : (k : Int) < 4000 := by omega
      clear hy
      go_wp2_with fail
      go_roundw
      case rel => exact ⟨k + 1, _, by omega, by go_num, rfl, i64_of _, trivial⟩
      case measure => simp [intOf]; omega
    · by_cases h1 : k < n
      · have hkn : (k : Int) < (n : Int) := by omega
        have hk4 : ¬ (k : Int) < 4000 := by omega
        go_wp2_with fail
        go_ret
        refine ⟨wr.heap.size, rfl, Nat.le_refl _, ?_, by repeat (first | exact Below.refl _ _ | assumption | refine Below.next_ ?_ ?_ (by assumption) | refine Below.drew ?_ | refine below_drewN ?_ _ | refine Below.alloc ?_ ?_ _ | refine Below.setCell ?_ ?_ _ | omega | (simp <;> omega) | (simp at * <;> omega))⟩
        exact ⟨A, n, c, l, 0, x, by simp, by simp, by simp, by simp, by simp, h.below (by repeat (first | exact Below.refl _ _ | assumption | refine Below.next_ ?_ ?_ (by assumption) | refine Below.drew ?_ | refine below_drewN ?_ _ | refine Below.alloc ?_ ?_ _ | refine Below.setCell ?_ ?_ _ | omega | (simp <;> omega) | (simp at * <;> omega))), Rd.blk_lt h, hn, by omega, by omega, HX.out, HB.out⟩
      · have hkn : ¬ (k : Int) < (n : Int) := by omega
        go_wp2_with fail
        go_ret
        refine ⟨wr.heap.size, rfl, Nat.le_refl _, ?_, by repeat (first | exact Below.refl _ _ | assumption | refine Below.next_ ?_ ?_ (by assumption) | refine Below.drew ?_ | refine below_drewN ?_ _ | refine Below.alloc ?_ ?_ _ | refine Below.setCell ?_ ?_ _ | omega | (simp <;> omega) | (simp at * <;> omega))⟩
        exact ⟨A, n, c, l, 0, x, by simp, by simp, by simp, by simp, by simp, h.below (by repeat (first | exact Below.refl _ _ | assumption | refine Below.next_ ?_ ?_ (by assumption) | refine Below.drew ?_ | refine below_drewN ?_ _ | refine Below.alloc ?_ ?_ _ | refine Below.setCell ?_ ?_ _ | omega | (simp <;> omega) | (simp at * <;> omega))), Rd.blk_lt h, hn, by omega, by omega, HX.out, HB.out⟩
end Go.Proofs.Ythjdigiaajdnbaa
