/- Contracts of what draws an integer. For codes of at most 2^20 bytes. -/
import Derived.Test.YtmlkhgekacjidaeDr3
import Derived.Test.YtmlkhgekacjidaeFmt
import Derived.Test.YtmlkhgekacjidaeUv
namespace Go.Proofs.Ytmlkhgekacjidae
open Go.RowKit Go.WideShapes Go.ChangeShapes Go.Deep
set_option linter.unusedSimpArgs false
set_option linter.unusedVariables false
set_option maxRecDepth 1000000
theorem dec_len_ : ∀ (j m : Nat) (acc : List UInt8), m < 10 ^ j → (dec m acc).length ≤ acc.length + j := by
  intro j
  induction j with
  | zero => intro m acc h; obtain rfl : m = 0 := by simpa using h
            exact Nat.le_refl _
  | succ j ih =>
    intro m acc h
    by_cases h0 : m = 0
    · subst h0; rw [dec_zero]; omega
    · rw [dec_step h0]
      have := ih (m / 10) (UInt8.ofNat (48 + m % 10) :: acc) (by rw [Nat.div_lt_iff_lt_mul (by omega)]; rw [Nat.pow_succ] at h; exact h)
      simp only [List.length_cons] at this
      omega
theorem fmt_small {x : Int} (h : I64 x) : (fmtI x).size ≤ 9223372036854775807 := by
  have e : (fmtI x).size = (fmtL x).length := rfl
  have h1 := h.1
  have h2 := h.2
  have := dec_len_ 19 x.natAbs [] (by omega)
  rw [e]
  unfold fmtL
  split
  · simp
  · split
    · simp at *; omega
    · simp at *; omega
theorem fmtI_small {x : Int} (h0 : 0 ≤ x) (h1 : x ≤ 1000000000000) : (fmtI x).size ≤ 1048576 := by
  have e : (fmtI x).size = (fmtL x).length := rfl
  rw [e]
  unfold fmtL
  split
  · simp
  · rw [if_neg (by omega)]
    have := dec_len_ 13 x.natAbs [] (by omega)
    simp at this
    omega
theorem appU_bytes {b : List Int} {n : Nat} (hb : ∀ x ∈ b, 0 ≤ x ∧ x ≤ 255) : ∀ x ∈ appU b n, 0 ≤ x ∧ x ≤ 255 := by
  have hu : ∀ (m : Nat), ∀ x ∈ uvl m, 0 ≤ x ∧ x ≤ 255 := by
    intro m
    induction m using Nat.strongRecOn with
    | _ m ih =>
      intro x hx
      by_cases h : m < 128
      · rw [uvl_lt h] at hx; simp at hx; omega
      · rw [uvl_ge (by omega)] at hx
        rcases List.mem_cons.1 hx with rfl | hx
        · omega
        · exact ih (m / 128) (by omega) x hx
  intro x hx
  unfold appU at hx
  split at hx
  · rcases List.mem_append.1 hx with h | h
    · exact hb x h
    · exact hu _ x h
  · exact hb x hx
set_option maxHeartbeats 2000000 in
theorem l1Odd_any {p : Nat} {w : World} (hC : Cur w p) :
    Calls Try.prog 153 #[curV p] w fun e w' => ∃ x, e = .returned (.int .i64 x) ∧ I64 x ∧ Drawn w w' p := by
  go_enter Try.func153, Try.ntmps153
  go_wp2_with fail
  refine (l1Int_any (l := [(-1), (0), (1), (2), (255), (256), (65535), (2147483647), (2147483648), (4294967295), (4294967296), (-2147483648), (9223372036854775807), (-9223372036854775808)]) (hC.below ((Below.refl w.heap.size w).alloc (Nat.le_refl _) _)) (Rd.of_own (World.ownsRow_lit (base := w.heap.size) (e := 3) (size := 1) w #[.int .i64 (-1), .int .i64 (0), .int .i64 (1), .int .i64 (2), .int .i64 (255), .int .i64 (256), .int .i64 (65535), .int .i64 (2147483647), .int .i64 (2147483648), .int .i64 (4294967295), .int .i64 (4294967296), .int .i64 (-2147483648), .int .i64 (9223372036854775807), .int .i64 (-9223372036854775808)] 14 (Nat.le_refl _) (by unfold maxLen; omega) rfl)) (fun a e => by injection e with e; subst e; exact Nat.ne_of_gt (hC).lt) (by omega) (by omega)).mono ?_
  rintro e w1 ⟨x, rfl, hx, hd1⟩
  go_wp2_with fail
  go_ret
  exact ⟨x, rfl, by simp at hx; unfold I64; omega, Drawn.lit0 hC hd1⟩
set_option maxHeartbeats 2000000 in
theorem l1Raw_any {p : Nat} {w : World} (hC : Cur w p) :
    Calls Try.prog 143 #[curV p] w fun e w' => ∃ x, e = .returned (.int .i64 x) ∧ I64 x ∧ Drawn w w' p := by
  go_enter Try.func143, Try.ntmps143
  go_wp2_with fail
  refine (l1Once_any hC (by omega)).mono ?_
  rintro e w1 ⟨b, rfl, hd1⟩
  cases b with
  | true =>
    go_wp2_with fail
    refine (l1Odd_any hd1.1).mono ?_
    rintro e w2 ⟨x, rfl, hx, hd2⟩
    go_wp2_with fail
    go_ret
    exact ⟨x, rfl, hx, hd1.next hd2⟩
  | false =>
    go_wp2_with fail
    refine (l1Int_any (l := [(-1), (1000000000000), (1000000000001)]) (hd1.1.below ((Below.refl w1.heap.size w1).alloc (Nat.le_refl _) _)) (Rd.of_own (World.ownsRow_lit (base := w1.heap.size) (e := 3) (size := 1) w1 #[.int .i64 (-1), .int .i64 (1000000000000), .int .i64 (1000000000001)] 3 (Nat.le_refl _) (by unfold maxLen; omega) rfl)) (fun a e => by injection e with e; subst e; exact Nat.ne_of_gt (hd1.1).lt) (by omega) (by omega)).mono ?_
    rintro e w2 ⟨x, rfl, hx, hd2⟩
    go_wp2_with fail
    go_ret
    exact ⟨x, rfl, by simp at hx; unfold I64; omega, hd1.lit hd2⟩
set_option maxHeartbeats 2000000 in
theorem l1Num_any {p : Nat} {w : World} (hC : Cur w p) :
    Calls Try.prog 91 #[curV p] w fun e w' => ∃ x, e = .returned (.int .i64 x) ∧ 0 ≤ x ∧ x ≤ 1000000000000 ∧ Drawn w w' p := by
  go_enter Try.func91, Try.ntmps91
  go_wp2_with fail
  refine (l1Below_any hC (by omega)).mono ?_
  rintro e w1 ⟨x, rfl, hx, hxI, hd1⟩
  obtain ⟨hx0, hx1⟩ := hx.2 (by omega)
  clear hx
  by_cases h0 : x = 0
  · subst h0
    go_wp2_with fail
    refine (l1Below_any hd1.1 (by omega)).mono ?_
    rintro e w2 ⟨y, rfl, hy, hyI, hd2⟩
    obtain ⟨hy0, hy1⟩ := hy.2 (by omega)
    go_wp2_with fail
    go_ret
    exact ⟨y, rfl, by omega, by omega, hd1.next hd2⟩
  · have b0 : (x == 0) = false := by simpa using h0
    by_cases h1 : x = 1
    · subst h1
      go_wp2_with fail
      refine (l1Int_any (l := [(0), (1), (127), (128), (2147483646), (2147483647), (1000000000000)]) (hd1.1.below ((Below.refl w1.heap.size w1).alloc (Nat.le_refl _) _)) (Rd.of_own (World.ownsRow_lit (base := w1.heap.size) (e := 3) (size := 1) w1 #[.int .i64 (0), .int .i64 (1), .int .i64 (127), .int .i64 (128), .int .i64 (2147483646), .int .i64 (2147483647), .int .i64 (1000000000000)] 7 (Nat.le_refl _) (by unfold maxLen; omega) rfl)) (fun a e => by injection e with e; subst e; exact Nat.ne_of_gt (hd1.1).lt) (by omega) (by omega)).mono ?_
      rintro e w2 ⟨y, rfl, hy, hd2⟩
      go_wp2_with fail
      go_ret
      exact ⟨y, rfl, by simp at hy; omega, by simp at hy; omega, hd1.lit hd2⟩
    · have b1 : (x == 1) = false := by simpa using h1
      by_cases h2 : x = 2
      · subst h2
        go_wp2_with fail
        refine (l1Below_any hd1.1 (by omega)).mono ?_
        rintro e w2 ⟨y, rfl, hy, hyI, hd2⟩
        go_wp2_with fail
        refine (l1Below_any hd2.1 (by omega)).mono ?_
        rintro e w3 ⟨z, rfl, hz, hzI, hd3⟩
        obtain ⟨hy0, hy1⟩ := hy.2 (by omega)
        obtain ⟨hz0, hz1⟩ := hz.2 (by omega)
        have hm0 : 0 ≤ y * z := Int.mul_nonneg hy0 hz0
        have hm1 : y * z ≤ 1000000 * 1000000 := Int.mul_le_mul (by omega) (by omega) hz0 (by omega)
        have hw : wrap64 (y * z) = y * z := by simp only [wrap64]; omega
        go_wp2_with fail
        go_ret
        exact ⟨y * z, rfl, by omega, by omega, (hd1.next hd2).next hd3⟩
      · have b2 : (x == 2) = false := by simpa using h2
        go_wp2_with fail
        refine (l1Below_any hd1.1 (by omega)).mono ?_
        rintro e w2 ⟨y, rfl, hy, hyI, hd2⟩
        obtain ⟨hy0, hy1⟩ := hy.2 (by omega)
        go_wp2_with fail
        go_ret
        exact ⟨y, rfl, by omega, by omega, hd1.next hd2⟩
set_option maxHeartbeats 2000000 in
theorem l1One_any {p : Nat} {w : World} (hC : Cur w p) :
    Calls Try.prog 92 #[curV p] w fun e w' => ∃ x, e = .returned (.int .i64 x) ∧ I64 x ∧ Drawn w w' p := by
  go_enter Try.func92, Try.ntmps92
  go_wp2_with fail
  refine (l1Once_any hC (by omega)).mono ?_
  rintro e w1 ⟨b, rfl, hd1⟩
  cases b with
  | true =>
    go_wp2_with fail
    refine (l1Raw_any hd1.1).mono ?_
    rintro e w2 ⟨x, rfl, hx, hd2⟩
    go_wp2_with fail
    go_ret
    exact ⟨x, rfl, hx, hd1.next hd2⟩
  | false =>
    go_wp2_with fail
    refine (l1Num_any hd1.1).mono ?_
    rintro e w2 ⟨x, rfl, hx0, hx1, hd2⟩
    go_wp2_with fail
    go_ret
    exact ⟨x, rfl, ⟨by omega, by omega⟩, hd1.next hd2⟩
set_option maxHeartbeats 2000000 in
theorem DrawFormatInt_any {A : Option Addr} {n c : Nat} {l : List Int} {w : World} (h : Rd w 1 A n (u8s l)) (hn : n ≤ 1048576) (hB : ∀ x ∈ l, 0 ≤ x ∧ x ≤ 255) :
    Calls Try.prog 18 #[.slice A n c] w fun e w' => ∃ x, e = .returned (.int .i64 x) ∧ I64 x ∧ Below w.heap.size w w' := by
  go_enter Try.func18, Try.ntmps18
  go_wp2_with fail
  refine (l1New_any h hn hB).mono ?_
  rintro e w1 ⟨p, rfl, hp, hC, hb1⟩
  go_wp2_with fail
  refine (l1One_any hC).mono ?_
  rintro e w2 ⟨x, rfl, hx, hD⟩
  have hz := hb1.size
  go_wp2_with fail
  go_ret
  exact ⟨x, rfl, hx, Below.cur hb1 hD.2 hz hp⟩
set_option maxHeartbeats 2000000 in
theorem DrawCeilDiv_any {A : Option Addr} {n c : Nat} {l : List Int} {w : World} (h : Rd w 1 A n (u8s l)) (hn : n ≤ 1048576) (hB : ∀ x ∈ l, 0 ≤ x ∧ x ≤ 255) :
    Calls Try.prog 20 #[.slice A n c] w fun e w' => ∃ x y, e = .returned (.tuple #[.int .i64 x, .int .i64 y]) ∧ I64 x ∧ I64 y ∧ Below w.heap.size w w' := by
  go_enter Try.func20, Try.ntmps20
  go_wp2_with fail
  refine (l1New_any h hn hB).mono ?_
  rintro e w1 ⟨p, rfl, hp, hC, hb1⟩
  go_wp2_with fail
  refine (l1One_any hC).mono ?_
  rintro e w2 ⟨x, rfl, hx, hd2⟩
  go_wp2_with fail
  refine (l1One_any hd2.1).mono ?_
  rintro e w3 ⟨y, rfl, hy, hd3⟩
  have hD := hd2.next hd3
  have hz := hb1.size
  go_wp2_with fail
  exact bodyPost_ret (v := .tuple #[.int .i64 x, .int .i64 y]) (by simp [results, Try.results20, go_sem, *]) rfl ⟨x, y, rfl, hx, hy, Below.cur hb1 hD.2 hz hp⟩
set_option maxHeartbeats 2000000 in
theorem DrawParseInt_any {A : Option Addr} {n c : Nat} {l : List Int} {w : World} (h : Rd w 1 A n (u8s l)) (hn : n ≤ 1048576) (hB : ∀ x ∈ l, 0 ≤ x ∧ x ≤ 255) :
    Calls Try.prog 16 #[.slice A n c] w fun e w' => ∃ s, e = .returned (.string s) ∧ s.size ≤ 1048576 ∧ Below w.heap.size w w' := by
  go_enter Try.func16, Try.ntmps16
  go_wp2_with fail
  refine (l1New_any h hn hB).mono ?_
  rintro e w1 ⟨p, rfl, hp, hC, hb1⟩
  go_wp2_with fail
  refine (l1Once_any hC (by omega)).mono ?_
  rintro e w2 ⟨b, rfl, hd2⟩
  have hz := hb1.size
  cases b with
  | true =>
    go_wp2_with fail
    refine (l1Str_any (l := [⟨#[]⟩, ⟨#[48]⟩, ⟨#[48, 48]⟩, ⟨#[45, 49]⟩, ⟨#[48, 49]⟩, ⟨#[55]⟩, ⟨#[49, 48, 48, 48, 48, 48, 48, 48, 48, 48, 48, 48, 48]⟩, ⟨#[49, 48, 48, 48, 48, 48, 48, 48, 48, 48, 48, 48, 49]⟩, ⟨#[57, 57, 57, 57, 57, 57, 57, 57, 57, 57, 57, 57, 57, 57]⟩, ⟨#[49, 120]⟩, ⟨#[32, 49]⟩]) (hd2.1.below ((Below.refl w2.heap.size w2).alloc (Nat.le_refl _) _)) (Rd.of_own (World.ownsRow_lit (base := w2.heap.size) (e := 9) (size := 1) w2 #[.string ⟨#[]⟩, .string ⟨#[48]⟩, .string ⟨#[48, 48]⟩, .string ⟨#[45, 49]⟩, .string ⟨#[48, 49]⟩, .string ⟨#[55]⟩, .string ⟨#[49, 48, 48, 48, 48, 48, 48, 48, 48, 48, 48, 48, 48]⟩, .string ⟨#[49, 48, 48, 48, 48, 48, 48, 48, 48, 48, 48, 48, 49]⟩, .string ⟨#[57, 57, 57, 57, 57, 57, 57, 57, 57, 57, 57, 57, 57, 57]⟩, .string ⟨#[49, 120]⟩, .string ⟨#[32, 49]⟩] 11 (Nat.le_refl _) (by unfold maxLen; omega) rfl)) (fun a e => by injection e with e; subst e; exact Nat.ne_of_gt (hd2.1).lt) (by omega) (by omega)).mono ?_
    rintro e w3 ⟨s, rfl, hs, hd3⟩
    have hD := hd2.lit hd3
    go_wp2_with fail
    go_ret
    exact ⟨s, rfl, by simp at hs; rcases hs with rfl | rfl | rfl | rfl | rfl | rfl | rfl | rfl | rfl | rfl | rfl <;> decide, Below.cur hb1 hD.2 hz hp⟩
  | false =>
    go_wp2_with fail
    refine (l1Num_any hd2.1).mono ?_
    rintro e w3 ⟨x, rfl, hx0, hx1, hd3⟩
    go_wp2_with fail
    refine (specFormatInt_any x _ ⟨by omega, by omega⟩).mono ?_
    rintro e w4 ⟨rfl, hb4⟩
    have hD := (hd2.next hd3).below hb4
    go_wp2_with fail
    go_ret
    exact ⟨_, rfl, fmtI_small hx0 hx1, Below.cur hb1 hD.2 hz hp⟩
set_option maxHeartbeats 2000000 in
theorem DrawAppendUvarint_any {A : Option Addr} {n c : Nat} {l : List Int} {w : World} (h : Rd w 1 A n (u8s l)) (hn : n ≤ 1048576) (hB : ∀ x ∈ l, 0 ≤ x ∧ x ≤ 255) :
    Calls Try.prog 23 #[.slice A n c] w fun e w' => ∃ B m d x, e = .returned (.tuple #[.slice B m d, .int .i64 x]) ∧ m ≤ 2 ∧ I64 x ∧ ∃ bl, w'.ownsRow w.heap.size 5 1 (.slice B m d) m (u8s bl) ∧ (∀ x ∈ bl, 0 ≤ x ∧ x ≤ 255) ∧ Below w.heap.size w w' := by
  go_enter Try.func23, Try.ntmps23
  go_wp2_with fail
  refine (l1New_any h hn hB).mono ?_
  rintro e w1 ⟨p, rfl, hp, hC, hb1⟩
  go_wp2_with fail
  refine (l1Below_any hC (by omega)).mono ?_
  rintro e w2 ⟨y, rfl, hy, hyI, hd2⟩
  obtain ⟨hy0, hy1⟩ := hy.2 (by omega)
  clear hy
  go_wp2_with fail
  refine (l1Bytes_any hd2.1 (by omega)).mono ?_
  rintro e w3 ⟨B, m, d, rfl, hm, bl, ho, hbl, hd3⟩
  go_wp2_with fail
  refine (l1One_any hd3.1).mono ?_
  rintro e w4 ⟨x, rfl, hx, hd4⟩
  have hD := (hd2.next hd3).next hd4
  have hz := hb1.size
  have hz2 := hd2.2.size
  have hz3 := hd3.2.size
  have hpl := hC.lt
  have ho' := own_cur ho hd4.2 (by omega)
  go_wp2_with fail
  exact bodyPost_ret (v := .tuple #[.slice B m d, .int .i64 x]) (by simp [results, Try.results23, go_sem, *]) rfl ⟨B, m, d, x, rfl, by omega, hx, bl, own_base ho' (by omega), hbl, Below.cur hb1 hD.2 hz hp⟩
set_option maxHeartbeats 4000000 in
theorem DrawReadUvarint_any {A : Option Addr} {n c : Nat} {l : List Int} {w : World} (h : Rd w 1 A n (u8s l)) (hn : n ≤ 1048576) (hB : ∀ x ∈ l, 0 ≤ x ∧ x ≤ 255) :
    Calls Try.prog 27 #[.slice A n c] w fun e w' => ∃ B m d x, e = .returned (.tuple #[.slice B m d, .int .i64 x]) ∧ m ≤ 1000 ∧ I64 x ∧ ∃ bl, w'.ownsRow w.heap.size 5 1 (.slice B m d) m (u8s bl) ∧ (∀ x ∈ bl, 0 ≤ x ∧ x ≤ 255) ∧ Below w.heap.size w w' := by
  obtain ⟨iByte, hiByte, hzByte0, hzByte1, hzByte2⟩ := info_parts Byte_info
  go_enter Try.func27, Try.ntmps27
  go_wp2_with fail
  refine (l1New_any h hn hB).mono ?_
  rintro e w1 ⟨p, rfl, hp, hC, hb1⟩
  go_wp2_with fail
  refine (l1Once_any hC (by omega)).mono ?_
  rintro e w2 ⟨b, rfl, hd2⟩
  have hz := hb1.size
  have hpl := hC.lt
  have hz2 := hd2.2.size
  cases b with
  | true =>
    go_wp2_with fail
    refine (l1Bytes_any hd2.1 (by omega)).mono ?_
    rintro e w3 ⟨B, m, d, rfl, hm, bl, ho, hbl, hd3⟩
    obtain rfl : m = 1 := by simpa using hm
    clear hm
    go_wp2_with fail
    refine (l1Num_any hd3.1).mono ?_
    rintro e w4 ⟨x, rfl, hx0, hx1, hd4⟩
    have hz3 := hd3.2.size
    have hz4 := hd4.2.size
    have ho' := own_cur ho hd4.2 (by omega)
    go_wp2_with fail
    refine (specAppendUvarint_any (Rd.of_own ho') (by omega)).mono ?_
    rintro e w5 ⟨B5, m5, d5, rfl, ho5, hb5⟩
    have hD := ((hd2.next hd3).next hd4).below hb5
    have hm5 : (appU bl x).length = m5 := (Rd.of_own ho5).maplen
    have hml : bl.length = 1 := (Rd.of_own ho).maplen
    have hlen := appU_len bl x
    obtain ⟨k, rfl⟩ := Int.eq_ofNat_of_zero_le hx0
    go_wp2_with fail
    exact bodyPost_ret (v := .tuple #[.slice B5 m5 d5, .int .i64 1]) (by simp [results, Try.results27, go_sem, *]) rfl ⟨B5, m5, d5, 1, rfl, by omega, ⟨by omega, by omega⟩, _, own_base ho5 (by omega), appU_bytes hbl, Below.cur hb1 hD.2 hz hp⟩
  | false =>
    have ho16 := World.ownsRow_lit (base := w2.heap.size) (e := 5) (size := 1) w2 #[] 0 (Nat.le_refl _) (by unfold maxLen; omega) rfl
    have hb16 := (Below.refl w2.heap.size w2).alloc (Nat.le_refl _) (.cells #[] 5)
    have hp2 : p < w2.heap.size := hd2.1.lt
    go_wp2_with fail
    refine (l1Below_any (hd2.1.below hb16) (by omega)).mono ?_
    rintro e w3 ⟨M, rfl, hM, hMI, hd3⟩
    obtain ⟨hM0, hM1⟩ := hM.2 (by omega)
    obtain ⟨M, rfl⟩ := Int.eq_ofNat_of_zero_le hM0
    have ho3 := own_cur ho16 hd3.2 hp2
    have hD3 := Drawn.of hb16 hd3
    clear hM hMI ho16 hb16
    go_wp2_with fail
    go_loopw [5, 6] (fun ov i wr => ∃ (k j : Nat) (l : List Int) (B : Option Addr) (d : Nat), k + j = M ∧ i = .int .i64 k ∧ ov = .slice B j d ∧ wr.ownsRow w2.heap.size 5 1 (.slice B j d) j (u8s l) ∧ Hid (∀ x ∈ l, 0 ≤ x ∧ x ≤ 255) ∧ Drawn w2 wr p) (fun _ i _ => (intOf i).toNat)
    case atStart => exact ⟨M, 0, [], _, _, by omega, rfl, rfl, ho3, (fun x hx => absurd hx (by simp)), hD3⟩
    case round =>
      clear ho3 hD3
      obtain ⟨k, j, l, B, d, hk, rfl, rfl, ho, hl, hd⟩ := hrel
      have hzr : w2.heap.size ≤ wr.heap.size := hd.2.size
      by_cases h0 : (k : Int) > 0
      · obtain ⟨k', rfl⟩ : ∃ k', k = k' + 1 := ⟨k - 1, by omega⟩
        go_wp2_with fail
        refine (l1Int_any (l := [(128), (255), (0), (1), (127)]) (hd.1.below ((Below.refl wr.heap.size wr).alloc (Nat.le_refl _) _)) (Rd.of_own (World.ownsRow_lit (base := wr.heap.size) (e := 3) (size := 1) wr #[.int .i64 (128), .int .i64 (255), .int .i64 (0), .int .i64 (1), .int .i64 (127)] 5 (Nat.le_refl _) (by unfold maxLen; omega) rfl)) (fun a e => by injection e with e; subst e; exact Nat.ne_of_gt (hd.1).lt) (by omega) (by omega)).mono ?_
        rintro e w4 ⟨x, rfl, hx, hd4⟩
        have hxb : 0 ≤ x ∧ x ≤ 255 := by simp at hx; omega
        have hxx : IntKind.u8.wrap x = x := by rw [IntKind.wrap_u8]; omega
        have hd4' := hd.lit hd4
        have hbl := (Below.refl wr.heap.size wr).alloc (Nat.le_refl _) (.cells #[.int .i64 (128), .int .i64 (255), .int .i64 (0), .int .i64 (1), .int .i64 (127)] 3)
        have ho4 := own_cur (own_below ho hbl) hd4.2 hp2
        have hz4 := hd4'.2.size
        have hzz : w2.heap.size ≤ w4.heap.size := by omega
        clear hx
        go_wp2_with (at_builtin; refine wpList_app2 _ rfl (.tmp 23) (.tmp 28) 22 rfl 5 iByte (.int .u8 0) 1 1 Try.underlying22 hiByte hzByte0 hzByte1 hzByte2 rfl (by omega) rfl (ho4.alloc _) rfl (Rd.one _ _ _) (u8s_one [_]) (by unfold maxLen; omega) (by omega) rfl rfl ((Below.refl w2.heap.size w4).alloc hzz _) (by simp; omega) (Nat.le_refl _) (by simp; omega) ?_; intro A5 c5 w5 ho5 hb5 hg5 hat5)
        go_roundw
        case rel => exact ⟨k', j + 1, l ++ [x], A5, c5, by omega, by go_num, rfl, by simpa [u8s, hxx] using ho5, snoc_all hl.out hxb, hd4'.belowB hp2 hb5⟩
        case measure => simp [intOf]
      · go_wp2_with fail
        refine (l1Below_any hd.1 (by omega)).mono ?_
        rintro e w4 ⟨x, rfl, hx, hxI, hd4⟩
        obtain ⟨hx0, hx1⟩ := hx.2 (by omega)
        have ho4 := own_cur ho hd4.2 hp2
        have hD := (hd2.next hd).next hd4
        have hw : wrap64 (x - 1) = x - 1 := by simp only [wrap64]; omega
        go_wp2_with fail
        exact bodyPost_ret (v := .tuple #[.slice B j d, .int .i64 (x - 1)]) (by simp [results, Try.results27, go_sem, *]) rfl ⟨B, j, d, x - 1, rfl, by omega, ⟨by omega, by omega⟩, l, own_base ho4 (by omega), hl.out, Below.cur hb1 hD.2 hz hp⟩
end Go.Proofs.Ytmlkhgekacjidae
