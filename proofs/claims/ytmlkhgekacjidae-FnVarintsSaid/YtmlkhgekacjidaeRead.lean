/- Contracts of ReadUvarint of the program and of the reference. For slices of at most 2^40 bytes. -/
import Derived.Test.YtmlkhgekacjidaeUv
import Derived.Test.YtmlkhgekacjidaeOwnB
namespace Go.Proofs.Ytmlkhgekacjidae
open Go.RowKit Go.WideShapes Go.ChangeShapes Go.Deep
set_option linter.unusedSimpArgs false
set_option linter.unusedVariables false
set_option maxRecDepth 100000
/-- what ReadUvarint returns from digit k on -/
def rdF (l : List Int) (at_ : Int) : Nat → Nat → Int → Int × Int × Bool
  | 0, _, _ => (0, 0, false)
  | f + 1, k, n =>
    if at_ < 0 ∨ (l.length : Int) - k ≤ at_ then (0, 0, false)
    else
      let x := l.getD (at_.toNat + k) 0
      let m := n + x % 128 * 2 ^ (7 * k)
      if x < 128 then (if (x = 0 ∧ 0 < k) ∨ 1000000000000 < m then (0, 0, false) else (m, at_ + k + 1, true)) else rdF l at_ f (k + 1) m
def rdU (l : List Int) (at_ : Int) : Int × Int × Bool := rdF l at_ 6 0 0
def triV (r : Int × Int × Bool) : Value := .tuple #[.int .i64 r.1, .int .i64 r.2.1, .bool r.2.2]
theorem bits_or_shift {m y : Int} (j : Nat) (hj : j ≤ 35) (h0 : 0 ≤ m) (h1 : m < 2 ^ j) (h2 : 0 ≤ y) (h3 : y < 128) : bits .or .i64 m (y * 2 ^ j) = m + y * 2 ^ j := by
  obtain ⟨a, rfl⟩ := Int.eq_ofNat_of_zero_le h0
  obtain ⟨b, rfl⟩ := Int.eq_ofNat_of_zero_le h2
  have hp : 2 ^ j ≤ 2 ^ 35 := Nat.pow_le_pow_right (by omega) hj
  have hb : b * 2 ^ j ≤ 127 * 2 ^ 35 := Nat.mul_le_mul (by omega) hp
  have ha : a < 2 ^ j := by have : ((2 ^ j : Nat) : Int) = 2 ^ j := by simp
                            omega
  have := i64_or_nat a (b * 2 ^ j) (by omega) (by omega)
  rw [show (((b * 2 ^ j : Nat)) : Int) = (b : Int) * 2 ^ j by simp] at this
  rw [this]
  have e := Nat.two_pow_add_eq_or_of_lt (b := a) (i := j) ha b
  rw [Nat.or_comm, Nat.mul_comm b, ← e]
  simp [Nat.mul_comm]; omega
theorem rdF_bad {l : List Int} {at_ n : Int} {f k : Nat} (h : at_ < 0 ∨ (l.length : Int) - k ≤ at_) : rdF l at_ (f + 1) k n = (0, 0, false) := by
  simp only [rdF]; rw [if_pos h]
theorem rdF_more {l : List Int} {p f k : Nat} {n x M : Int} (hx : l[p + k]? = some x) (h : 128 ≤ x) (hM : n + x % 128 * 2 ^ (7 * k) = M) : rdF l p (f + 1) k n = rdF l p f (k + 1) M := by
  have hl := get_lt hx
  have e : l.getD ((p : Int).toNat + k) 0 = x := by simp [hx]
  simp only [rdF]
  rw [if_neg (by omega), e, if_neg (by omega), hM]
theorem rdF_done {l : List Int} {p f k : Nat} {n x M N : Int} (hx : l[p + k]? = some x) (h : x < 128) (h0 : ¬ (x = 0 ∧ 0 < k)) (hM : n + x % 128 * 2 ^ (7 * k) = M) (hle : M ≤ 1000000000000) (hN : (p : Int) + k + 1 = N) : rdF l p (f + 1) k n = (M, N, true) := by
  have hl := get_lt hx
  have e : l.getD ((p : Int).toNat + k) 0 = x := by simp [hx]
  simp only [rdF]
  rw [if_neg (by omega), e, if_pos h, if_neg (by rw [hM]; omega), hM, hN]
theorem rdF_no {l : List Int} {p f k : Nat} {n x M : Int} (hx : l[p + k]? = some x) (h : x < 128) (hM : n + x % 128 * 2 ^ (7 * k) = M) (h0 : (x = 0 ∧ 0 < k) ∨ 1000000000000 < M) : rdF l p (f + 1) k n = (0, 0, false) := by
  have hl := get_lt hx
  have e : l.getD ((p : Int).toNat + k) 0 = x := by simp [hx]
  simp only [rdF]
  rw [if_neg (by omega), e, if_pos h, if_pos (by rw [hM]; omega)]
theorem ret_tri {l : List Int} {at_ a b : Int} {c : Bool} (h : rdU l at_ = (a, b, c)) {a' b' : Int} {c' : Bool} (ha : a' = a) (hb : b' = b) (hc : c' = c) : Ending.returned (.tuple #[.int .i64 a', .int .i64 b', .bool c']) = .returned (triV (rdU l at_)) := by
  subst ha hb hc; rw [h]; rfl
set_option maxHeartbeats 4000000 in
theorem specReadUvarint_any {A : Option Addr} {n c : Nat} {l : List Int} {at_ : Int} {w : World} (h : Rd w 1 A n (u8s l)) (hn : n ≤ 1099511627776) (hB : ∀ x ∈ l, 0 ≤ x ∧ x ≤ 255) (hat : I64 at_) :
    Calls Try.prog 28 #[.slice A n c, .int .i64 at_] w fun e w' => e = .returned (triV (rdU l at_)) ∧ w = w' := by
  have HL := hide (show l.length = n from h.maplen)
  go_enter Try.func28, Try.ntmps28
  go_wp2_with fail
  go_loopw [7, 8] (fun nv kv wr => ∃ (k : Nat) (m : Int), k ≤ 6 ∧ kv = .int .i64 k ∧ nv = .int .i64 m ∧ 0 ≤ m ∧ m < 2 ^ (7 * k) ∧ Hid (rdF l at_ (6 - k) k m = rdU l at_) ∧ wr = w) (fun _ kv _ => 6 - (intOf kv).toNat)
  case atStart => exact ⟨0, 0, by omega, rfl, rfl, by omega, by omega, rfl, rfl⟩
  case round =>
    obtain ⟨k, m, hk, rfl, rfl, hm0, hm1, hr, rfl⟩ := hrel
    by_cases hk6 : k < 6
    · obtain rfl | rfl | rfl | rfl | rfl | rfl : k = 0 ∨ k = 1 ∨ k = 2 ∨ k = 3 ∨ k = 4 ∨ k = 5 := by omega
      · -- digit 0
        have hK := hide (show rdF l at_ 6 0 m = rdU l at_ from hr.out)
        clear hr
        have hm1' : m < 1 := by simpa using hm1
        clear hm1
        by_cases hat1 : 0 ≤ at_ ∧ at_ < (n : Int) - 0
        · obtain ⟨ha0, ha1⟩ := hat1
          obtain ⟨p, rfl⟩ := Int.eq_ofNat_of_zero_le ha0
          obtain ⟨ad, x, rfl, hx_, hcx⟩ := Rd.u8 h (k := p + 0) (by omega)
          have hcx2 : wr.cell? (ad.add p) = some (.int .u8 x) := hcx
          obtain ⟨hx1, hx2⟩ := hB x (List.mem_of_getElem? hx_)
          have HX := hide hx_
          clear hx_
          have ba : bits .and .i64 x 127 = x % 128 := bits_and_127 (by omega) (by omega)
          have bo : bits .or .i64 m (x % 128) = m + x % 128 := by have := bits_or_shift (m := m) (y := x % 128) 0 (by omega) (by omega) (by omega) (by omega) (by omega); simpa using this
          have bs : wrap64 (x % 128) = x % 128 := by simp only [wrap64]; omega
          have hw : wrap64 x = x := by simp only [wrap64]; omega
          have hw2 : IntKind.i64.wrap x = x := by simp only [IntKind.wrap_i64]; omega
          by_cases hx8 : 128 ≤ x
          · have hv := hide (show rdF l p 5 1 (m + x % 128) = rdU l p from (rdF_more HX.out hx8 (by simp)).symm.trans hK.out)
            clear hK
            go_wp2_with fail
            go_roundw
            case rel => exact ⟨1, m + x % 128, by omega, rfl, rfl, by omega, by omega, hv, by first | rfl | trivial⟩
            case measure => simp [intOf]
          · by_cases hz : x = 0
            · subst hz
              have hv := hide (show rdU l p = (m, (p : Int) + 1, true) from hK.out.symm.trans (rdF_done (M := m) HX.out (by omega) (by omega) (by simp) (by omega) (by simp)))
              clear hK
              have ba0 : bits .and .i64 0 127 = 0 := by simpa using ba
              have bo0 : bits .or .i64 m 0 = m := by simpa using bo
              have hm9 : m ≤ 1000000000000 := by omega
              clear ba bo
              go_wp2_with fail
              exact bodyPost_ret (v := .tuple #[.int .i64 (m), .int .i64 ((p : Int) + 1), .bool true]) (by simp [results, Try.results28, go_sem, *] <;> omega) rfl ⟨ret_tri hv.out rfl rfl rfl, rfl⟩
            · have hz' : ¬ wrap64 x = 0 := by rw [hw]; exact hz
              by_cases hle : m + x % 128 ≤ 1000000000000
              · have hv := hide (show rdU l p = (m + x % 128, (p : Int) + 1, true) from hK.out.symm.trans (rdF_done HX.out (by omega) (by omega) (by simp) hle (by simp; try omega)))
                clear hK
                go_wp2_with fail
                exact bodyPost_ret (v := .tuple #[.int .i64 (m + x % 128), .int .i64 ((p : Int) + 1), .bool true]) (by simp [results, Try.results28, go_sem, *] <;> omega) rfl ⟨ret_tri hv.out rfl rfl rfl, rfl⟩
              · exact absurd hle (by omega)
        · have hL := HL.out
          have hv := hide (show rdU l at_ = (0, 0, false) from hK.out.symm.trans (rdF_bad (by omega)))
          clear hK hL
          by_cases hneg : at_ < 0
          · go_wp2_with fail
            exact bodyPost_ret (v := .tuple #[.int .i64 (0), .int .i64 (0), .bool false]) (by simp [results, Try.results28, go_sem, *] <;> omega) rfl ⟨ret_tri hv.out rfl rfl rfl, rfl⟩
          · have hbig : (n : Int) - 0 ≤ at_ := by omega
            go_wp2_with fail
            exact bodyPost_ret (v := .tuple #[.int .i64 (0), .int .i64 (0), .bool false]) (by simp [results, Try.results28, go_sem, *] <;> omega) rfl ⟨ret_tri hv.out rfl rfl rfl, rfl⟩
      · -- digit 1
        have hK := hide (show rdF l at_ 5 1 m = rdU l at_ from hr.out)
        clear hr
        have hm1' : m < 128 := by simpa using hm1
        clear hm1
        by_cases hat1 : 0 ≤ at_ ∧ at_ < (n : Int) - 1
        · obtain ⟨ha0, ha1⟩ := hat1
          obtain ⟨p, rfl⟩ := Int.eq_ofNat_of_zero_le ha0
          obtain ⟨ad, x, rfl, hx_, hcx⟩ := Rd.u8 h (k := p + 1) (by omega)
          have hcx2 : wr.cell? { block := ad.block, off := ad.off + (p + 1) } = some (.int .u8 x) := hcx
          obtain ⟨hx1, hx2⟩ := hB x (List.mem_of_getElem? hx_)
          have HX := hide hx_
          clear hx_
          have ba : bits .and .i64 x 127 = x % 128 := bits_and_127 (by omega) (by omega)
          have bo : bits .or .i64 m (x % 128 * 128) = m + x % 128 * 128 := by have := bits_or_shift (m := m) (y := x % 128) 7 (by omega) (by omega) (by omega) (by omega) (by omega); simpa using this
          have bs : wrap64 (x % 128 * 128) = x % 128 * 128 := by simp only [wrap64]; omega
          have hw : wrap64 x = x := by simp only [wrap64]; omega
          have hw2 : IntKind.i64.wrap x = x := by simp only [IntKind.wrap_i64]; omega
          by_cases hx8 : 128 ≤ x
          · have hv := hide (show rdF l p 4 2 (m + x % 128 * 128) = rdU l p from (rdF_more HX.out hx8 (by simp)).symm.trans hK.out)
            clear hK
            go_wp2_with fail
            go_roundw
            case rel => exact ⟨2, m + x % 128 * 128, by omega, rfl, rfl, by omega, by omega, hv, by first | rfl | trivial⟩
            case measure => simp [intOf]
          · by_cases hz : x = 0
            · subst hz
              have hv := hide (show rdU l p = (0, 0, false) from hK.out.symm.trans (rdF_no HX.out (by omega) rfl (by omega)))
              clear hK
              go_wp2_with fail
              exact bodyPost_ret (v := .tuple #[.int .i64 (0), .int .i64 (0), .bool false]) (by simp [results, Try.results28, go_sem, *] <;> omega) rfl ⟨ret_tri hv.out rfl rfl rfl, rfl⟩
            · have hz' : ¬ wrap64 x = 0 := by rw [hw]; exact hz
              by_cases hle : m + x % 128 * 128 ≤ 1000000000000
              · have hv := hide (show rdU l p = (m + x % 128 * 128, (p : Int) + 2, true) from hK.out.symm.trans (rdF_done HX.out (by omega) (by omega) (by simp) hle (by simp; try omega)))
                clear hK
                go_wp2_with fail
                exact bodyPost_ret (v := .tuple #[.int .i64 (m + x % 128 * 128), .int .i64 ((p : Int) + 2), .bool true]) (by simp [results, Try.results28, go_sem, *] <;> omega) rfl ⟨ret_tri hv.out rfl rfl rfl, rfl⟩
              · exact absurd hle (by omega)
        · have hL := HL.out
          have hv := hide (show rdU l at_ = (0, 0, false) from hK.out.symm.trans (rdF_bad (by omega)))
          clear hK hL
          by_cases hneg : at_ < 0
          · go_wp2_with fail
            exact bodyPost_ret (v := .tuple #[.int .i64 (0), .int .i64 (0), .bool false]) (by simp [results, Try.results28, go_sem, *] <;> omega) rfl ⟨ret_tri hv.out rfl rfl rfl, rfl⟩
          · have hbig : (n : Int) - 1 ≤ at_ := by omega
            go_wp2_with fail
            exact bodyPost_ret (v := .tuple #[.int .i64 (0), .int .i64 (0), .bool false]) (by simp [results, Try.results28, go_sem, *] <;> omega) rfl ⟨ret_tri hv.out rfl rfl rfl, rfl⟩
      · -- digit 2
        have hK := hide (show rdF l at_ 4 2 m = rdU l at_ from hr.out)
        clear hr
        have hm1' : m < 16384 := by simpa using hm1
        clear hm1
        by_cases hat1 : 0 ≤ at_ ∧ at_ < (n : Int) - 2
        · obtain ⟨ha0, ha1⟩ := hat1
          obtain ⟨p, rfl⟩ := Int.eq_ofNat_of_zero_le ha0
          obtain ⟨ad, x, rfl, hx_, hcx⟩ := Rd.u8 h (k := p + 2) (by omega)
          have hcx2 : wr.cell? { block := ad.block, off := ad.off + (p + 1 + 1) } = some (.int .u8 x) := hcx
          obtain ⟨hx1, hx2⟩ := hB x (List.mem_of_getElem? hx_)
          have HX := hide hx_
          clear hx_
          have ba : bits .and .i64 x 127 = x % 128 := bits_and_127 (by omega) (by omega)
          have bo : bits .or .i64 m (x % 128 * 16384) = m + x % 128 * 16384 := by have := bits_or_shift (m := m) (y := x % 128) 14 (by omega) (by omega) (by omega) (by omega) (by omega); simpa using this
          have bs : wrap64 (x % 128 * 16384) = x % 128 * 16384 := by simp only [wrap64]; omega
          have hw : wrap64 x = x := by simp only [wrap64]; omega
          have hw2 : IntKind.i64.wrap x = x := by simp only [IntKind.wrap_i64]; omega
          by_cases hx8 : 128 ≤ x
          · have hv := hide (show rdF l p 3 3 (m + x % 128 * 16384) = rdU l p from (rdF_more HX.out hx8 (by simp)).symm.trans hK.out)
            clear hK
            go_wp2_with fail
            go_roundw
            case rel => exact ⟨3, m + x % 128 * 16384, by omega, rfl, rfl, by omega, by omega, hv, by first | rfl | trivial⟩
            case measure => simp [intOf]
          · by_cases hz : x = 0
            · subst hz
              have hv := hide (show rdU l p = (0, 0, false) from hK.out.symm.trans (rdF_no HX.out (by omega) rfl (by omega)))
              clear hK
              go_wp2_with fail
              exact bodyPost_ret (v := .tuple #[.int .i64 (0), .int .i64 (0), .bool false]) (by simp [results, Try.results28, go_sem, *] <;> omega) rfl ⟨ret_tri hv.out rfl rfl rfl, rfl⟩
            · have hz' : ¬ wrap64 x = 0 := by rw [hw]; exact hz
              by_cases hle : m + x % 128 * 16384 ≤ 1000000000000
              · have hv := hide (show rdU l p = (m + x % 128 * 16384, (p : Int) + 3, true) from hK.out.symm.trans (rdF_done HX.out (by omega) (by omega) (by simp) hle (by simp; try omega)))
                clear hK
                go_wp2_with fail
                exact bodyPost_ret (v := .tuple #[.int .i64 (m + x % 128 * 16384), .int .i64 ((p : Int) + 3), .bool true]) (by simp [results, Try.results28, go_sem, *] <;> omega) rfl ⟨ret_tri hv.out rfl rfl rfl, rfl⟩
              · exact absurd hle (by omega)
        · have hL := HL.out
          have hv := hide (show rdU l at_ = (0, 0, false) from hK.out.symm.trans (rdF_bad (by omega)))
          clear hK hL
          by_cases hneg : at_ < 0
          · go_wp2_with fail
            exact bodyPost_ret (v := .tuple #[.int .i64 (0), .int .i64 (0), .bool false]) (by simp [results, Try.results28, go_sem, *] <;> omega) rfl ⟨ret_tri hv.out rfl rfl rfl, rfl⟩
          · have hbig : (n : Int) - 2 ≤ at_ := by omega
            go_wp2_with fail
            exact bodyPost_ret (v := .tuple #[.int .i64 (0), .int .i64 (0), .bool false]) (by simp [results, Try.results28, go_sem, *] <;> omega) rfl ⟨ret_tri hv.out rfl rfl rfl, rfl⟩
      · -- digit 3
        have hK := hide (show rdF l at_ 3 3 m = rdU l at_ from hr.out)
        clear hr
        have hm1' : m < 2097152 := by simpa using hm1
        clear hm1
        by_cases hat1 : 0 ≤ at_ ∧ at_ < (n : Int) - 3
        · obtain ⟨ha0, ha1⟩ := hat1
          obtain ⟨p, rfl⟩ := Int.eq_ofNat_of_zero_le ha0
          obtain ⟨ad, x, rfl, hx_, hcx⟩ := Rd.u8 h (k := p + 3) (by omega)
          have hcx2 : wr.cell? { block := ad.block, off := ad.off + (p + 1 + 1 + 1) } = some (.int .u8 x) := hcx
          obtain ⟨hx1, hx2⟩ := hB x (List.mem_of_getElem? hx_)
          have HX := hide hx_
          clear hx_
          have ba : bits .and .i64 x 127 = x % 128 := bits_and_127 (by omega) (by omega)
          have bo : bits .or .i64 m (x % 128 * 2097152) = m + x % 128 * 2097152 := by have := bits_or_shift (m := m) (y := x % 128) 21 (by omega) (by omega) (by omega) (by omega) (by omega); simpa using this
          have bs : wrap64 (x % 128 * 2097152) = x % 128 * 2097152 := by simp only [wrap64]; omega
          have hw : wrap64 x = x := by simp only [wrap64]; omega
          have hw2 : IntKind.i64.wrap x = x := by simp only [IntKind.wrap_i64]; omega
          by_cases hx8 : 128 ≤ x
          · have hv := hide (show rdF l p 2 4 (m + x % 128 * 2097152) = rdU l p from (rdF_more HX.out hx8 (by simp)).symm.trans hK.out)
            clear hK
            go_wp2_with fail
            go_roundw
            case rel => exact ⟨4, m + x % 128 * 2097152, by omega, rfl, rfl, by omega, by omega, hv, by first | rfl | trivial⟩
            case measure => simp [intOf]
          · by_cases hz : x = 0
            · subst hz
              have hv := hide (show rdU l p = (0, 0, false) from hK.out.symm.trans (rdF_no HX.out (by omega) rfl (by omega)))
              clear hK
              go_wp2_with fail
              exact bodyPost_ret (v := .tuple #[.int .i64 (0), .int .i64 (0), .bool false]) (by simp [results, Try.results28, go_sem, *] <;> omega) rfl ⟨ret_tri hv.out rfl rfl rfl, rfl⟩
            · have hz' : ¬ wrap64 x = 0 := by rw [hw]; exact hz
              by_cases hle : m + x % 128 * 2097152 ≤ 1000000000000
              · have hv := hide (show rdU l p = (m + x % 128 * 2097152, (p : Int) + 4, true) from hK.out.symm.trans (rdF_done HX.out (by omega) (by omega) (by simp) hle (by simp; try omega)))
                clear hK
                go_wp2_with fail
                exact bodyPost_ret (v := .tuple #[.int .i64 (m + x % 128 * 2097152), .int .i64 ((p : Int) + 4), .bool true]) (by simp [results, Try.results28, go_sem, *] <;> omega) rfl ⟨ret_tri hv.out rfl rfl rfl, rfl⟩
              · exact absurd hle (by omega)
        · have hL := HL.out
          have hv := hide (show rdU l at_ = (0, 0, false) from hK.out.symm.trans (rdF_bad (by omega)))
          clear hK hL
          by_cases hneg : at_ < 0
          · go_wp2_with fail
            exact bodyPost_ret (v := .tuple #[.int .i64 (0), .int .i64 (0), .bool false]) (by simp [results, Try.results28, go_sem, *] <;> omega) rfl ⟨ret_tri hv.out rfl rfl rfl, rfl⟩
          · have hbig : (n : Int) - 3 ≤ at_ := by omega
            go_wp2_with fail
            exact bodyPost_ret (v := .tuple #[.int .i64 (0), .int .i64 (0), .bool false]) (by simp [results, Try.results28, go_sem, *] <;> omega) rfl ⟨ret_tri hv.out rfl rfl rfl, rfl⟩
      · -- digit 4
        have hK := hide (show rdF l at_ 2 4 m = rdU l at_ from hr.out)
        clear hr
        have hm1' : m < 268435456 := by simpa using hm1
        clear hm1
        by_cases hat1 : 0 ≤ at_ ∧ at_ < (n : Int) - 4
        · obtain ⟨ha0, ha1⟩ := hat1
          obtain ⟨p, rfl⟩ := Int.eq_ofNat_of_zero_le ha0
          obtain ⟨ad, x, rfl, hx_, hcx⟩ := Rd.u8 h (k := p + 4) (by omega)
          have hcx2 : wr.cell? { block := ad.block, off := ad.off + (p + 1 + 1 + 1 + 1) } = some (.int .u8 x) := hcx
          obtain ⟨hx1, hx2⟩ := hB x (List.mem_of_getElem? hx_)
          have HX := hide hx_
          clear hx_
          have ba : bits .and .i64 x 127 = x % 128 := bits_and_127 (by omega) (by omega)
          have bo : bits .or .i64 m (x % 128 * 268435456) = m + x % 128 * 268435456 := by have := bits_or_shift (m := m) (y := x % 128) 28 (by omega) (by omega) (by omega) (by omega) (by omega); simpa using this
          have bs : wrap64 (x % 128 * 268435456) = x % 128 * 268435456 := by simp only [wrap64]; omega
          have hw : wrap64 x = x := by simp only [wrap64]; omega
          have hw2 : IntKind.i64.wrap x = x := by simp only [IntKind.wrap_i64]; omega
          by_cases hx8 : 128 ≤ x
          · have hv := hide (show rdF l p 1 5 (m + x % 128 * 268435456) = rdU l p from (rdF_more HX.out hx8 (by simp)).symm.trans hK.out)
            clear hK
            go_wp2_with fail
            go_roundw
            case rel => exact ⟨5, m + x % 128 * 268435456, by omega, rfl, rfl, by omega, by omega, hv, by first | rfl | trivial⟩
            case measure => simp [intOf]
          · by_cases hz : x = 0
            · subst hz
              have hv := hide (show rdU l p = (0, 0, false) from hK.out.symm.trans (rdF_no HX.out (by omega) rfl (by omega)))
              clear hK
              go_wp2_with fail
              exact bodyPost_ret (v := .tuple #[.int .i64 (0), .int .i64 (0), .bool false]) (by simp [results, Try.results28, go_sem, *] <;> omega) rfl ⟨ret_tri hv.out rfl rfl rfl, rfl⟩
            · have hz' : ¬ wrap64 x = 0 := by rw [hw]; exact hz
              by_cases hle : m + x % 128 * 268435456 ≤ 1000000000000
              · have hv := hide (show rdU l p = (m + x % 128 * 268435456, (p : Int) + 5, true) from hK.out.symm.trans (rdF_done HX.out (by omega) (by omega) (by simp) hle (by simp; try omega)))
                clear hK
                go_wp2_with fail
                exact bodyPost_ret (v := .tuple #[.int .i64 (m + x % 128 * 268435456), .int .i64 ((p : Int) + 5), .bool true]) (by simp [results, Try.results28, go_sem, *] <;> omega) rfl ⟨ret_tri hv.out rfl rfl rfl, rfl⟩
              · exact absurd hle (by omega)
        · have hL := HL.out
          have hv := hide (show rdU l at_ = (0, 0, false) from hK.out.symm.trans (rdF_bad (by omega)))
          clear hK hL
          by_cases hneg : at_ < 0
          · go_wp2_with fail
            exact bodyPost_ret (v := .tuple #[.int .i64 (0), .int .i64 (0), .bool false]) (by simp [results, Try.results28, go_sem, *] <;> omega) rfl ⟨ret_tri hv.out rfl rfl rfl, rfl⟩
          · have hbig : (n : Int) - 4 ≤ at_ := by omega
            go_wp2_with fail
            exact bodyPost_ret (v := .tuple #[.int .i64 (0), .int .i64 (0), .bool false]) (by simp [results, Try.results28, go_sem, *] <;> omega) rfl ⟨ret_tri hv.out rfl rfl rfl, rfl⟩
      · -- digit 5
        have hK := hide (show rdF l at_ 1 5 m = rdU l at_ from hr.out)
        clear hr
        have hm1' : m < 34359738368 := by simpa using hm1
        clear hm1
        by_cases hat1 : 0 ≤ at_ ∧ at_ < (n : Int) - 5
        · obtain ⟨ha0, ha1⟩ := hat1
          obtain ⟨p, rfl⟩ := Int.eq_ofNat_of_zero_le ha0
          obtain ⟨ad, x, rfl, hx_, hcx⟩ := Rd.u8 h (k := p + 5) (by omega)
          have hcx2 : wr.cell? { block := ad.block, off := ad.off + (p + 1 + 1 + 1 + 1 + 1) } = some (.int .u8 x) := hcx
          obtain ⟨hx1, hx2⟩ := hB x (List.mem_of_getElem? hx_)
          have HX := hide hx_
          clear hx_
          have ba : bits .and .i64 x 127 = x % 128 := bits_and_127 (by omega) (by omega)
          have bo : bits .or .i64 m (x % 128 * 34359738368) = m + x % 128 * 34359738368 := by have := bits_or_shift (m := m) (y := x % 128) 35 (by omega) (by omega) (by omega) (by omega) (by omega); simpa using this
          have bs : wrap64 (x % 128 * 34359738368) = x % 128 * 34359738368 := by simp only [wrap64]; omega
          have hw : wrap64 x = x := by simp only [wrap64]; omega
          have hw2 : IntKind.i64.wrap x = x := by simp only [IntKind.wrap_i64]; omega
          by_cases hx8 : 128 ≤ x
          · have hv := hide (show rdF l p 0 6 (m + x % 128 * 34359738368) = rdU l p from (rdF_more HX.out hx8 (by simp)).symm.trans hK.out)
            clear hK
            go_wp2_with fail
            go_roundw
            case rel => exact ⟨6, m + x % 128 * 34359738368, by omega, rfl, rfl, by omega, by omega, hv, by first | rfl | trivial⟩
            case measure => simp [intOf]
          · by_cases hz : x = 0
            · subst hz
              have hv := hide (show rdU l p = (0, 0, false) from hK.out.symm.trans (rdF_no HX.out (by omega) rfl (by omega)))
              clear hK
              go_wp2_with fail
              exact bodyPost_ret (v := .tuple #[.int .i64 (0), .int .i64 (0), .bool false]) (by simp [results, Try.results28, go_sem, *] <;> omega) rfl ⟨ret_tri hv.out rfl rfl rfl, rfl⟩
            · have hz' : ¬ wrap64 x = 0 := by rw [hw]; exact hz
              by_cases hle : m + x % 128 * 34359738368 ≤ 1000000000000
              · have hv := hide (show rdU l p = (m + x % 128 * 34359738368, (p : Int) + 6, true) from hK.out.symm.trans (rdF_done HX.out (by omega) (by omega) (by simp) hle (by simp; try omega)))
                clear hK
                go_wp2_with fail
                exact bodyPost_ret (v := .tuple #[.int .i64 (m + x % 128 * 34359738368), .int .i64 ((p : Int) + 6), .bool true]) (by simp [results, Try.results28, go_sem, *] <;> omega) rfl ⟨ret_tri hv.out rfl rfl rfl, rfl⟩
              · have hv := hide (show rdU l p = (0, 0, false) from hK.out.symm.trans (rdF_no (M := m + x % 128 * 34359738368) HX.out (by omega) (by simp) (by omega)))
                clear hK
                have hle' : 1000000000000 < m + x % 128 * 34359738368 := by omega
                go_wp2_with fail
                exact bodyPost_ret (v := .tuple #[.int .i64 (0), .int .i64 (0), .bool false]) (by simp [results, Try.results28, go_sem, *] <;> omega) rfl ⟨ret_tri hv.out rfl rfl rfl, rfl⟩
        · have hL := HL.out
          have hv := hide (show rdU l at_ = (0, 0, false) from hK.out.symm.trans (rdF_bad (by omega)))
          clear hK hL
          by_cases hneg : at_ < 0
          · go_wp2_with fail
            exact bodyPost_ret (v := .tuple #[.int .i64 (0), .int .i64 (0), .bool false]) (by simp [results, Try.results28, go_sem, *] <;> omega) rfl ⟨ret_tri hv.out rfl rfl rfl, rfl⟩
          · have hbig : (n : Int) - 5 ≤ at_ := by omega
            go_wp2_with fail
            exact bodyPost_ret (v := .tuple #[.int .i64 (0), .int .i64 (0), .bool false]) (by simp [results, Try.results28, go_sem, *] <;> omega) rfl ⟨ret_tri hv.out rfl rfl rfl, rfl⟩

    · have hk : k = 6 := by omega
      subst hk
      have hv := hide (show rdU l at_ = (0, 0, false) from hr.out.symm)
      clear hr hm1
      go_wp2_with fail
      exact bodyPost_ret (v := .tuple #[.int .i64 (0), .int .i64 (0), .bool false]) (by simp [results, Try.results28, go_sem, *] <;> omega) rfl ⟨ret_tri hv.out rfl rfl rfl, rfl⟩
end Go.Proofs.Ytmlkhgekacjidae
