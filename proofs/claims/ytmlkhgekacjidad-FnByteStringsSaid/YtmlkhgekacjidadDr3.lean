/- Contracts of what draws a key, values, bytes and a label. For codes of at most 2^20 bytes. -/
import Derived.Test.YtmlkhgekacjidadDraw
namespace Go.Proofs.Ytmlkhgekacjidad
open Go.RowKit Go.WideShapes Go.ChangeShapes Go.Deep
set_option linter.unusedSimpArgs false
set_option linter.unusedVariables false
set_option maxRecDepth 1000000
theorem Drawn.lit {w w1 w2 : World} {p : Nat} {o : Obj} (h : Drawn w w1 p) (k : Drawn (w1.alloc o) w2 p) : Drawn w w2 p := (h.below ((Below.refl w1.heap.size w1).alloc (Nat.le_refl _) o)).next k
theorem Drawn.lit0 {w w2 : World} {p : Nat} {o : Obj} (hC : Cur w p) (k : Drawn (w.alloc o) w2 p) : Drawn w w2 p := Drawn.of ((Below.refl w.heap.size w).alloc (Nat.le_refl _) o) k
theorem big_any {A : Option Addr} {n c : Nat} (w : World) : Calls Try.prog 23 #[.slice A n c] w fun e w' => e = .returned (.bool (decide (1048576 < (n : Int)))) ∧ w = w' := by
  go_enter Try.func23, Try.ntmps23
  go_wp2_with fail
  go_ret
  exact ⟨rfl, rfl⟩
def atF (l : List Int) (i : Nat) : Int := match l[i]? with | some x => x | none => ((i : Int) * 31 + (l.length : Int) * 7) % 256
theorem atF_bd {l : List Int} (hB : ∀ x ∈ l, 0 ≤ x ∧ x ≤ 255) (i : Nat) : 0 ≤ atF l i ∧ atF l i ≤ 255 := by
  unfold atF
  cases h : l[i]? with
  | none => simp only; omega
  | some x => exact hB x (List.mem_of_getElem? h)
theorem at_f {A : Option Addr} {n c : Nat} {l : List Int} {w : World} (h : Rd w 1 A n (u8s l)) (hn : n ≤ 1048576) (hB : ∀ x ∈ l, 0 ≤ x ∧ x ≤ 255) {i : Nat} (hi1 : i ≤ 1000) :
    Calls Try.prog 41 #[.slice A n c, .int .i64 i] w fun e w' => e = .returned (.int .i64 (atF l i)) ∧ w = w' := by
  have hl := h.maplen
  by_cases hlt : i < n
  · obtain ⟨ad, x, rfl, hx, hc⟩ := Rd.u8 h hlt
    obtain ⟨hx0, hx1⟩ := hB x (List.mem_of_getElem? hx)
    have hkn : (i : Int) < (n : Int) := by omega
    have hv := hide (show atF l i = x by unfold atF; rw [hx])
    clear hx hl
    go_enter Try.func41, Try.ntmps41
    go_wp2_with fail
    go_ret
    exact ⟨ret_i (by rw [hv.out]), rfl⟩
  · have hkn : ¬ (i : Int) < (n : Int) := by omega
    have hn' : (n : Int) ≤ 1048576 := by omega
    have hv := hide (show atF l i = ((i : Int) * 31 + (n : Int) * 7) % 256 by unfold atF; rw [List.getElem?_eq_none (by omega)]; simp only; rw [hl])
    clear hl
    go_enter Try.func41, Try.ntmps41
    go_wp2_with fail
    go_ret
    exact ⟨ret_i (by rw [hv.out]), rfl⟩
theorem at_any {A : Option Addr} {n c : Nat} {l : List Int} {w : World} (h : Rd w 1 A n (u8s l)) (hn : n ≤ 1048576) (hB : ∀ x ∈ l, 0 ≤ x ∧ x ≤ 255) {i : Int} (hi0 : 0 ≤ i) (hi1 : i ≤ 1000) :
    Calls Try.prog 41 #[.slice A n c, .int .i64 i] w fun e w' => ∃ x, e = .returned (.int .i64 x) ∧ 0 ≤ x ∧ x ≤ 255 ∧ w = w' := by
  obtain ⟨k, rfl⟩ := Int.eq_ofNat_of_zero_le hi0
  exact (at_f h hn hB (by omega)).mono fun e w' ⟨he, hw⟩ => ⟨_, he, (atF_bd hB k).1, (atF_bd hB k).2, hw⟩
set_option maxHeartbeats 2000000 in
theorem l3Word_any {p : Nat} {w : World} (hC : Cur w p) :
    Calls Try.prog 71 #[curV p] w fun e w' => ∃ x, e = .returned (.int .i64 x) ∧ -1 ≤ x ∧ x ≤ 2147483648 ∧ Drawn w w' p := by
  go_enter Try.func71, Try.ntmps71
  go_wp2_with fail
  refine (l1Once_any hC (by omega)).mono ?_
  rintro e w1 ⟨b, rfl, hd1⟩
  cases b with
  | true =>
    go_wp2_with fail
    refine (l1Int_any (l := [(-1), (2147483647), (2147483648)]) (hd1.1.below ((Below.refl w1.heap.size w1).alloc (Nat.le_refl _) _)) (Rd.of_own (World.ownsRow_lit (base := w1.heap.size) (e := 3) (size := 1) w1 #[.int .i64 (-1), .int .i64 (2147483647), .int .i64 (2147483648)] 3 (Nat.le_refl _) (by unfold maxLen; omega) rfl)) (fun a e => by injection e with e; subst e; exact Nat.ne_of_gt (hd1.1).lt) (by omega) (by omega)).mono ?_
    rintro e w2 ⟨x, rfl, hx, hd2⟩
    go_wp2_with fail
    go_ret
    exact ⟨x, rfl, by simp at hx; omega, by simp at hx; omega, hd1.lit hd2⟩
  | false =>
    go_wp2_with fail
    refine (l1Once_any hd1.1 (by omega)).mono ?_
    rintro e w2 ⟨b, rfl, hd2⟩
    cases b with
    | true =>
      go_wp2_with fail
      refine (l1Int_any (l := [(0), (1), (2147483646)]) (hd2.1.below ((Below.refl w2.heap.size w2).alloc (Nat.le_refl _) _)) (Rd.of_own (World.ownsRow_lit (base := w2.heap.size) (e := 3) (size := 1) w2 #[.int .i64 (0), .int .i64 (1), .int .i64 (2147483646)] 3 (Nat.le_refl _) (by unfold maxLen; omega) rfl)) (fun a e => by injection e with e; subst e; exact Nat.ne_of_gt (hd2.1).lt) (by omega) (by omega)).mono ?_
      rintro e w3 ⟨x, rfl, hx, hd3⟩
      go_wp2_with fail
      go_ret
      exact ⟨x, rfl, by simp at hx; omega, by simp at hx; omega, (hd1.next hd2).lit hd3⟩
    | false =>
      go_wp2_with fail
      refine (l1Below_any hd2.1 (by omega)).mono ?_
      rintro e w3 ⟨x, rfl, hx, hxI, hd3⟩
      go_wp2_with fail
      refine (l1Below_any hd3.1 (by omega)).mono ?_
      rintro e w4 ⟨y, rfl, hy, hyI, hd4⟩
      obtain ⟨hx0, hx1⟩ := hx.2 (by omega)
      obtain ⟨hy0, hy1⟩ := hy.2 (by omega)
      have hm0 : 0 ≤ x * y := Int.mul_nonneg hx0 hy0
      have hm1 : x * y ≤ 1000000 * 2000 := Int.mul_le_mul (by omega) (by omega) hy0 (by omega)
      have hw : wrap64 (x * y) = x * y := by simp only [wrap64]; omega
      have hw2 : IntKind.i64.wrap (x * y) = x * y := by simp only [IntKind.wrap_i64]; omega
      go_wp2_with fail
      go_ret
      exact ⟨x * y, rfl, by omega, by omega, ((hd1.next hd2).next hd3).next hd4⟩
set_option maxHeartbeats 2000000 in
theorem l3Words_any {p : Nat} {w : World} (hC : Cur w p) :
    Calls Try.prog 79 #[curV p] w fun e w' => ∃ B m d, e = .returned (.slice B m d) ∧ m ≤ 4 ∧ ∃ l, w'.ownsRow w.heap.size 3 1 (.slice B m d) m (ints l) ∧ (∀ x ∈ l, -1 ≤ x ∧ x ≤ 2147483648) ∧ Drawn w w' p := by
  obtain ⟨iInt, hiInt, hzInt0, hzInt1, hzInt2⟩ := info_parts Int_info
  have hp := hC.lt
  have ho0 := World.ownsRow_lit (base := w.heap.size) (e := 3) (size := 1) w #[] 0 (Nat.le_refl _) (by unfold maxLen; omega) rfl
  have hb0 := (Below.refl w.heap.size w).alloc (Nat.le_refl _) (.cells #[] 3)
  go_enter Try.func79, Try.ntmps79
  go_wp2_with fail
  refine (l1Below_any (hC.below hb0) (by omega)).mono ?_
  rintro e w1 ⟨x, rfl, hx, hxI, hd1⟩
  obtain ⟨hx0, hx1⟩ := hx.2 (by omega)
  obtain ⟨M, rfl⟩ := Int.eq_ofNat_of_zero_le hx0
  have ho1 := own_cur ho0 hd1.2 hp
  have hD1 := Drawn.of hb0 hd1
  clear hx hxI ho0 hb0
  go_wp2_with fail
  go_loopw [3, 4] (fun ov i wr => ∃ (k j : Nat) (l : List Int) (B : Option Addr) (d : Nat), k + j = M ∧ i = .int .i64 k ∧ ov = .slice B j d ∧ wr.ownsRow w.heap.size 3 1 (.slice B j d) j (ints l) ∧ Hid (∀ x ∈ l, -1 ≤ x ∧ x ≤ 2147483648) ∧ Drawn w wr p) (fun _ i _ => (intOf i).toNat)
  case atStart => exact ⟨M, 0, [], _, _, by omega, rfl, rfl, ho1, (fun x hx => absurd hx (by simp)), hD1⟩
  case round =>
    clear ho1 hD1
    obtain ⟨k, j, l, B, d, hk, rfl, rfl, ho, hl, hd⟩ := hrel
    have hz : w.heap.size ≤ wr.heap.size := hd.2.size
    by_cases h0 : (k : Int) > 0
    · obtain ⟨k', rfl⟩ : ∃ k', k = k' + 1 := ⟨k - 1, by omega⟩
      have hk2 : ((k' + 1 : Nat) : Int) - 1 = (k' : Int) := by omega
      go_wp2_with fail
      refine (l3Word_any hd.1).mono ?_
      rintro e w2 ⟨x, rfl, hx0, hx1, hd2⟩
      have ho2 := own_cur ho hd2.2 hp
      have hz2 := hd2.2.size
      have hzz : w.heap.size ≤ w2.heap.size := by omega
      go_wp2_with (at_builtin; refine wpList_app2 _ rfl (.tmp 12) (.tmp 15) 34 rfl 3 iInt (.int .i64 0) 1 8 Try.underlying34 hiInt hzInt0 hzInt1 hzInt2 rfl (by omega) rfl (ho2.alloc _) rfl (Rd.one _ _ _) (ints_one [_]) (by unfold maxLen; omega) (by omega) rfl rfl ((Below.refl w.heap.size w2).alloc hzz _) (by simp; omega) (Nat.le_refl _) (by simp; omega) ?_; intro A3 c3 w3 ho3 hb3 hg3 hat3)
      go_roundw
      case rel => exact ⟨k', j + 1, l ++ [x], A3, c3, by omega, by go_num, rfl, by simpa [ints] using ho3, snoc_all hl.out ⟨hx0, hx1⟩, (hd.next hd2).belowB hp hb3⟩
      case measure => simp [intOf]
    · go_wp2_with fail
      go_ret
      exact ⟨B, j, d, rfl, by omega, l, ho, hl.out, hd⟩
set_option maxHeartbeats 2000000 in
theorem DrawEncrypt_any {A : Option Addr} {n c : Nat} {l : List Int} {w : World} (h : Rd w 1 A n (u8s l)) (hn : n ≤ 1048576) (hB : ∀ x ∈ l, 0 ≤ x ∧ x ≤ 255) :
    Calls Try.prog 24 #[.slice A n c] w fun e w' => ∃ k B m d, e = .returned (.tuple #[.int .i64 k, .slice B m d]) ∧ I64 k ∧ m ≤ 8 ∧ ∃ bl, w'.ownsRow w.heap.size 5 1 (.slice B m d) m (u8s bl) ∧ (∀ x ∈ bl, 0 ≤ x ∧ x ≤ 255) ∧ Below w.heap.size w w' := by
  go_enter Try.func24, Try.ntmps24
  go_wp2_with fail
  refine (l1New_any h hn hB).mono ?_
  rintro e w1 ⟨p, rfl, hp, hC, hb1⟩
  go_wp2_with fail
  refine (l3Word_any hC).mono ?_
  rintro e w2 ⟨k, rfl, hk0, hk1, hd2⟩
  go_wp2_with fail
  refine (l1Below_any hd2.1 (by omega)).mono ?_
  rintro e w3 ⟨x, rfl, hx, hxI, hd3⟩
  obtain ⟨hx0, hx1⟩ := hx.2 (by omega)
  clear hx
  go_wp2_with fail
  refine (l1Bytes_any hd3.1 (by omega)).mono ?_
  rintro e w4 ⟨B, m, d, rfl, hm, bl, ho, hbl, hd4⟩
  have hD := (hd2.next hd3).next hd4
  have hz := hb1.size
  have hz2 := (hd2.next hd3).2.size
  go_wp2_with fail
  exact bodyPost_ret (v := .tuple #[.int .i64 k, .slice B m d]) (by simp [results, Try.results24, go_sem, *]) rfl ⟨k, B, m, d, rfl, ⟨by omega, by omega⟩, by omega, bl, own_base ho (by omega), hbl, Below.cur hb1 hD.2 hz hp⟩
set_option maxHeartbeats 2000000 in
theorem DrawKeyedHash_any {A : Option Addr} {n c : Nat} {l : List Int} {w : World} (h : Rd w 1 A n (u8s l)) (hn : n ≤ 1048576) (hB : ∀ x ∈ l, 0 ≤ x ∧ x ≤ 255) :
    Calls Try.prog 38 #[.slice A n c] w fun e w' => ∃ k B m d, e = .returned (.tuple #[.int .i64 k, .slice B m d]) ∧ I64 k ∧ m ≤ 4 ∧ ∃ bl, w'.ownsRow w.heap.size 3 1 (.slice B m d) m (ints bl) ∧ (∀ x ∈ bl, -1 ≤ x ∧ x ≤ 2147483648) ∧ Below w.heap.size w w' := by
  go_enter Try.func38, Try.ntmps38
  go_wp2_with fail
  refine (l1New_any h hn hB).mono ?_
  rintro e w1 ⟨p, rfl, hp, hC, hb1⟩
  go_wp2_with fail
  refine (l3Word_any hC).mono ?_
  rintro e w2 ⟨k, rfl, hk0, hk1, hd2⟩
  go_wp2_with fail
  refine (l3Words_any hd2.1).mono ?_
  rintro e w4 ⟨B, m, d, rfl, hm, bl, ho, hbl, hd4⟩
  have hD := hd2.next hd4
  have hz := hb1.size
  have hz2 := hd2.2.size
  go_wp2_with fail
  exact bodyPost_ret (v := .tuple #[.int .i64 k, .slice B m d]) (by simp [results, Try.results38, go_sem, *]) rfl ⟨k, B, m, d, rfl, ⟨by omega, by omega⟩, by omega, bl, own_base ho (by omega), hbl, Below.cur hb1 hD.2 hz hp⟩
set_option maxHeartbeats 2000000 in
theorem DrawDeriveFromString_any {A : Option Addr} {n c : Nat} {l : List Int} {w : World} (h : Rd w 1 A n (u8s l)) (hn : n ≤ 1048576) (hB : ∀ x ∈ l, 0 ≤ x ∧ x ≤ 255) :
    Calls Try.prog 43 #[.slice A n c] w fun e w' => ∃ k s, e = .returned (.tuple #[.int .i64 k, .string s]) ∧ I64 k ∧ s.size ≤ 4 ∧ Below w.heap.size w w' := by
  go_enter Try.func43, Try.ntmps43
  go_wp2_with fail
  refine (l1New_any h hn hB).mono ?_
  rintro e w1 ⟨p, rfl, hp, hC, hb1⟩
  go_wp2_with fail
  refine (l3Word_any hC).mono ?_
  rintro e w2 ⟨k, rfl, hk0, hk1, hd2⟩
  go_wp2_with fail
  refine (l1Str_any (l := [⟨#[]⟩, ⟨#[97]⟩, ⟨#[98]⟩, ⟨#[97, 98]⟩, ⟨#[110, 101, 119, 115]⟩, ⟨#[120]⟩]) (hd2.1.below ((Below.refl w2.heap.size w2).alloc (Nat.le_refl _) _)) (Rd.of_own (World.ownsRow_lit (base := w2.heap.size) (e := 9) (size := 1) w2 #[.string ⟨#[]⟩, .string ⟨#[97]⟩, .string ⟨#[98]⟩, .string ⟨#[97, 98]⟩, .string ⟨#[110, 101, 119, 115]⟩, .string ⟨#[120]⟩] 6 (Nat.le_refl _) (by unfold maxLen; omega) rfl)) (fun a e => by injection e with e; subst e; exact Nat.ne_of_gt (hd2.1).lt) (by omega) (by omega)).mono ?_
  rintro e w3 ⟨s, rfl, hs, hd3⟩
  have hD := hd2.lit hd3
  have hz := hb1.size
  go_wp2_with fail
  exact bodyPost_ret (v := .tuple #[.int .i64 k, .string s]) (by simp [results, Try.results43, go_sem, *]) rfl ⟨k, s, rfl, ⟨by omega, by omega⟩, by simp at hs; rcases hs with rfl | rfl | rfl | rfl | rfl | rfl <;> decide, Below.cur hb1 hD.2 hz hp⟩
end Go.Proofs.Ytmlkhgekacjidad
