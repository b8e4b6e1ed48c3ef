/- Contract of ReadUvarint of the program. For slices of at most 2^40 bytes. -/
import Derived.Test.YtmlkhgekacjidaeRead
namespace Go.Proofs.Ytmlkhgekacjidae
open Go.RowKit Go.WideShapes Go.ChangeShapes Go.Deep
set_option linter.unusedSimpArgs false
set_option linter.unusedVariables false
set_option maxRecDepth 100000
set_option maxHeartbeats 4000000 in
theorem implReadUvarint_any {A : Option Addr} {n c : Nat} {l : List Int} {at_ : Int} {w : World} (h : Rd w 1 A n (u8s l)) (hn : n ≤ 1099511627776) (hB : ∀ x ∈ l, 0 ≤ x ∧ x ≤ 255) (hat : I64 at_) :
    Calls Try.prog 25 #[.slice A n c, .int .i64 at_] w fun e w' => e = .returned (triV (rdU l at_)) ∧ w = w' := by
  have HL := hide (show l.length = n from h.maplen)
  by_cases hneg : at_ < 0
  · have hv := hide (show rdU l at_ = (0, 0, false) from rdF_bad (Or.inl hneg))
    go_enter Try.func25, Try.ntmps25
    go_wp2_with fail
    exact bodyPost_ret (v := .tuple #[.int .i64 (0), .int .i64 (0), .bool false]) (by simp [results, Try.results25, go_sem, *] <;> omega) rfl ⟨ret_tri hv.out rfl rfl rfl, rfl⟩
  obtain ⟨p, rfl⟩ := Int.eq_ofNat_of_zero_le (by omega : 0 ≤ at_)
  clear hneg
  obtain ⟨hat_1, hat_2⟩ := hat
  go_enter Try.func25, Try.ntmps25
  go_wp2_with fail
  go_loopw [1, 7, 8] (fun ov nv kv wr => ∃ (k : Nat) (m : Int), k ≤ 6 ∧ kv = .int .i64 k ∧ ov = .int .i64 ((p : Int) + k) ∧ nv = .int .i64 m ∧ 0 ≤ m ∧ m < 2 ^ (7 * k) ∧ Hid (rdF l p (6 - k) k m = rdU l p) ∧ wr = w) (fun _ _ kv _ => 6 - (intOf kv).toNat)
  case atStart => exact ⟨0, 0, by omega, rfl, by simp, rfl, by omega, by omega, rfl, rfl⟩
  case round =>
    obtain ⟨k, m, hk, rfl, rfl, rfl, hm0, hm1, hr, rfl⟩ := hrel
    by_cases hk6 : k < 6
    · obtain rfl | rfl | rfl | rfl | rfl | rfl : k = 0 ∨ k = 1 ∨ k = 2 ∨ k = 3 ∨ k = 4 ∨ k = 5 := by omega
      · -- digit 0
        have hK := hide (show rdF l p 6 0 m = rdU l p from hr.out)
        clear hr
        have hm1' : m < 1 := by simpa using hm1
        clear hm1
        by_cases hat1 : p + 0 < n
        · obtain ⟨ad, x, rfl, hx_, hcx⟩ := Rd.u8 h (k := p + 0) hat1
          have hcx2 : wr.cell? (ad.add p) = some (.int .u8 x) := hcx
          have hat2 : (p : Int) + 0 < (n : Int) := by omega
          obtain ⟨hx1, hx2⟩ := hB x (List.mem_of_getElem? hx_)
          have HX := hide hx_
          clear hx_
          have bt : x.tmod 128 = x % 128 := by rw [Int.tmod_eq_emod_of_nonneg (by omega)]
          have bs : wrap64 (x % 128) = x % 128 := by simp only [wrap64]; omega
          have bs2 : wrap64 (m + x % 128) = m + x % 128 := by simp only [wrap64]; omega
          have hw : wrap64 x = x := by simp only [wrap64]; omega
          have hw2 : IntKind.i64.wrap x = x := by simp only [IntKind.wrap_i64]; omega
          by_cases hx8 : 128 ≤ x
          · have hv := hide (show rdF l p 5 1 (m + x % 128) = rdU l p from (rdF_more HX.out hx8 (by simp)).symm.trans hK.out)
            clear hK
            go_wp2_with fail
            go_roundw
            case rel => exact ⟨1, m + x % 128, by omega, rfl, by simp [Int.add_assoc], rfl, by omega, by omega, hv, by first | rfl | trivial⟩
            case measure => simp [intOf]
          · by_cases hz : x = 0
            · subst hz
              have hv := hide (show rdU l p = (m, (p : Int) + 1, true) from hK.out.symm.trans (rdF_done (M := m) HX.out (by omega) (by omega) (by simp) (by omega) (by simp)))
              clear hK
              have hm9 : m ≤ 1000000000000 := by omega
              go_wp2_with fail
              exact bodyPost_ret (v := .tuple #[.int .i64 (m), .int .i64 ((p : Int) + 1), .bool true]) (by simp [results, Try.results25, go_sem, *] <;> omega) rfl ⟨ret_tri hv.out rfl rfl rfl, rfl⟩
            · have hz' : ¬ wrap64 x = 0 := by rw [hw]; exact hz
              by_cases hle : m + x % 128 ≤ 1000000000000
              · have hv := hide (show rdU l p = (m + x % 128, (p : Int) + 1, true) from hK.out.symm.trans (rdF_done HX.out (by omega) (by omega) (by simp) hle (by simp; try omega)))
                clear hK
                go_wp2_with fail
                exact bodyPost_ret (v := .tuple #[.int .i64 (m + x % 128), .int .i64 ((p : Int) + 1), .bool true]) (by simp [results, Try.results25, go_sem, *] <;> omega) rfl ⟨ret_tri hv.out rfl rfl rfl, rfl⟩
              · exact absurd hle (by omega)
        · have hL := HL.out
          have hv := hide (show rdU l p = (0, 0, false) from hK.out.symm.trans (rdF_bad (by omega)))
          clear hK hL
          have hbig : (n : Int) ≤ (p : Int) + 0 := by omega
          go_wp2_with fail
          exact bodyPost_ret (v := .tuple #[.int .i64 (0), .int .i64 (0), .bool false]) (by simp [results, Try.results25, go_sem, *] <;> omega) rfl ⟨ret_tri hv.out rfl rfl rfl, rfl⟩
      · -- digit 1
        have hK := hide (show rdF l p 5 1 m = rdU l p from hr.out)
        clear hr
        have hm1' : m < 128 := by simpa using hm1
        clear hm1
        by_cases hat1 : p + 1 < n
        · obtain ⟨ad, x, rfl, hx_, hcx⟩ := Rd.u8 h (k := p + 1) hat1
          have hcx2 : wr.cell? { block := ad.block, off := ad.off + (p + 1) } = some (.int .u8 x) := hcx
          have hat2 : (p : Int) + 1 < (n : Int) := by omega
          obtain ⟨hx1, hx2⟩ := hB x (List.mem_of_getElem? hx_)
          have HX := hide hx_
          clear hx_
          have bt : x.tmod 128 = x % 128 := by rw [Int.tmod_eq_emod_of_nonneg (by omega)]
          have bs : wrap64 (x % 128 * 128) = x % 128 * 128 := by simp only [wrap64]; omega
          have bs2 : wrap64 (m + x % 128 * 128) = m + x % 128 * 128 := by simp only [wrap64]; omega
          have hw : wrap64 x = x := by simp only [wrap64]; omega
          have hw2 : IntKind.i64.wrap x = x := by simp only [IntKind.wrap_i64]; omega
          by_cases hx8 : 128 ≤ x
          · have hv := hide (show rdF l p 4 2 (m + x % 128 * 128) = rdU l p from (rdF_more HX.out hx8 (by simp)).symm.trans hK.out)
            clear hK
            go_wp2_with fail
            go_roundw
            case rel => exact ⟨2, m + x % 128 * 128, by omega, rfl, by simp [Int.add_assoc], rfl, by omega, by omega, hv, by first | rfl | trivial⟩
            case measure => simp [intOf]
          · by_cases hz : x = 0
            · subst hz
              have hv := hide (show rdU l p = (0, 0, false) from hK.out.symm.trans (rdF_no HX.out (by omega) rfl (by omega)))
              clear hK
              go_wp2_with fail
              exact bodyPost_ret (v := .tuple #[.int .i64 (0), .int .i64 (0), .bool false]) (by simp [results, Try.results25, go_sem, *] <;> omega) rfl ⟨ret_tri hv.out rfl rfl rfl, rfl⟩
            · have hz' : ¬ wrap64 x = 0 := by rw [hw]; exact hz
              by_cases hle : m + x % 128 * 128 ≤ 1000000000000
              · have hv := hide (show rdU l p = (m + x % 128 * 128, (p : Int) + 2, true) from hK.out.symm.trans (rdF_done HX.out (by omega) (by omega) (by simp) hle (by simp; try omega)))
                clear hK
                go_wp2_with fail
                exact bodyPost_ret (v := .tuple #[.int .i64 (m + x % 128 * 128), .int .i64 ((p : Int) + 2), .bool true]) (by simp [results, Try.results25, go_sem, *] <;> omega) rfl ⟨ret_tri hv.out rfl rfl rfl, rfl⟩
              · exact absurd hle (by omega)
        · have hL := HL.out
          have hv := hide (show rdU l p = (0, 0, false) from hK.out.symm.trans (rdF_bad (by omega)))
          clear hK hL
          have hbig : (n : Int) ≤ (p : Int) + 1 := by omega
          go_wp2_with fail
          exact bodyPost_ret (v := .tuple #[.int .i64 (0), .int .i64 (0), .bool false]) (by simp [results, Try.results25, go_sem, *] <;> omega) rfl ⟨ret_tri hv.out rfl rfl rfl, rfl⟩
      · -- digit 2
        have hK := hide (show rdF l p 4 2 m = rdU l p from hr.out)
        clear hr
        have hm1' : m < 16384 := by simpa using hm1
        clear hm1
        by_cases hat1 : p + 2 < n
        · obtain ⟨ad, x, rfl, hx_, hcx⟩ := Rd.u8 h (k := p + 2) hat1
          have hcx2 : wr.cell? { block := ad.block, off := ad.off + (p + 1 + 1) } = some (.int .u8 x) := hcx
          have hat2 : (p : Int) + 2 < (n : Int) := by omega
          obtain ⟨hx1, hx2⟩ := hB x (List.mem_of_getElem? hx_)
          have HX := hide hx_
          clear hx_
          have bt : x.tmod 128 = x % 128 := by rw [Int.tmod_eq_emod_of_nonneg (by omega)]
          have bs : wrap64 (x % 128 * 16384) = x % 128 * 16384 := by simp only [wrap64]; omega
          have bs2 : wrap64 (m + x % 128 * 16384) = m + x % 128 * 16384 := by simp only [wrap64]; omega
          have hw : wrap64 x = x := by simp only [wrap64]; omega
          have hw2 : IntKind.i64.wrap x = x := by simp only [IntKind.wrap_i64]; omega
          by_cases hx8 : 128 ≤ x
          · have hv := hide (show rdF l p 3 3 (m + x % 128 * 16384) = rdU l p from (rdF_more HX.out hx8 (by simp)).symm.trans hK.out)
            clear hK
            go_wp2_with fail
            go_roundw
            case rel => exact ⟨3, m + x % 128 * 16384, by omega, rfl, by simp [Int.add_assoc], rfl, by omega, by omega, hv, by first | rfl | trivial⟩
            case measure => simp [intOf]
          · by_cases hz : x = 0
            · subst hz
              have hv := hide (show rdU l p = (0, 0, false) from hK.out.symm.trans (rdF_no HX.out (by omega) rfl (by omega)))
              clear hK
              go_wp2_with fail
              exact bodyPost_ret (v := .tuple #[.int .i64 (0), .int .i64 (0), .bool false]) (by simp [results, Try.results25, go_sem, *] <;> omega) rfl ⟨ret_tri hv.out rfl rfl rfl, rfl⟩
            · have hz' : ¬ wrap64 x = 0 := by rw [hw]; exact hz
              by_cases hle : m + x % 128 * 16384 ≤ 1000000000000
              · have hv := hide (show rdU l p = (m + x % 128 * 16384, (p : Int) + 3, true) from hK.out.symm.trans (rdF_done HX.out (by omega) (by omega) (by simp) hle (by simp; try omega)))
                clear hK
                go_wp2_with fail
                exact bodyPost_ret (v := .tuple #[.int .i64 (m + x % 128 * 16384), .int .i64 ((p : Int) + 3), .bool true]) (by simp [results, Try.results25, go_sem, *] <;> omega) rfl ⟨ret_tri hv.out rfl rfl rfl, rfl⟩
              · exact absurd hle (by omega)
        · have hL := HL.out
          have hv := hide (show rdU l p = (0, 0, false) from hK.out.symm.trans (rdF_bad (by omega)))
          clear hK hL
          have hbig : (n : Int) ≤ (p : Int) + 2 := by omega
          go_wp2_with fail
          exact bodyPost_ret (v := .tuple #[.int .i64 (0), .int .i64 (0), .bool false]) (by simp [results, Try.results25, go_sem, *] <;> omega) rfl ⟨ret_tri hv.out rfl rfl rfl, rfl⟩
      · -- digit 3
        have hK := hide (show rdF l p 3 3 m = rdU l p from hr.out)
        clear hr
        have hm1' : m < 2097152 := by simpa using hm1
        clear hm1
        by_cases hat1 : p + 3 < n
        · obtain ⟨ad, x, rfl, hx_, hcx⟩ := Rd.u8 h (k := p + 3) hat1
          have hcx2 : wr.cell? { block := ad.block, off := ad.off + (p + 1 + 1 + 1) } = some (.int .u8 x) := hcx
          have hat2 : (p : Int) + 3 < (n : Int) := by omega
          obtain ⟨hx1, hx2⟩ := hB x (List.mem_of_getElem? hx_)
          have HX := hide hx_
          clear hx_
          have bt : x.tmod 128 = x % 128 := by rw [Int.tmod_eq_emod_of_nonneg (by omega)]
          have bs : wrap64 (x % 128 * 2097152) = x % 128 * 2097152 := by simp only [wrap64]; omega
          have bs2 : wrap64 (m + x % 128 * 2097152) = m + x % 128 * 2097152 := by simp only [wrap64]; omega
          have hw : wrap64 x = x := by simp only [wrap64]; omega
          have hw2 : IntKind.i64.wrap x = x := by simp only [IntKind.wrap_i64]; omega
          by_cases hx8 : 128 ≤ x
          · have hv := hide (show rdF l p 2 4 (m + x % 128 * 2097152) = rdU l p from (rdF_more HX.out hx8 (by simp)).symm.trans hK.out)
            clear hK
            go_wp2_with fail
            go_roundw
            case rel => exact ⟨4, m + x % 128 * 2097152, by omega, rfl, by simp [Int.add_assoc], rfl, by omega, by omega, hv, by first | rfl | trivial⟩
            case measure => simp [intOf]
          · by_cases hz : x = 0
            · subst hz
              have hv := hide (show rdU l p = (0, 0, false) from hK.out.symm.trans (rdF_no HX.out (by omega) rfl (by omega)))
              clear hK
              go_wp2_with fail
              exact bodyPost_ret (v := .tuple #[.int .i64 (0), .int .i64 (0), .bool false]) (by simp [results, Try.results25, go_sem, *] <;> omega) rfl ⟨ret_tri hv.out rfl rfl rfl, rfl⟩
            · have hz' : ¬ wrap64 x = 0 := by rw [hw]; exact hz
              by_cases hle : m + x % 128 * 2097152 ≤ 1000000000000
              · have hv := hide (show rdU l p = (m + x % 128 * 2097152, (p : Int) + 4, true) from hK.out.symm.trans (rdF_done HX.out (by omega) (by omega) (by simp) hle (by simp; try omega)))
                clear hK
                go_wp2_with fail
                exact bodyPost_ret (v := .tuple #[.int .i64 (m + x % 128 * 2097152), .int .i64 ((p : Int) + 4), .bool true]) (by simp [results, Try.results25, go_sem, *] <;> omega) rfl ⟨ret_tri hv.out rfl rfl rfl, rfl⟩
              · exact absurd hle (by omega)
        · have hL := HL.out
          have hv := hide (show rdU l p = (0, 0, false) from hK.out.symm.trans (rdF_bad (by omega)))
          clear hK hL
          have hbig : (n : Int) ≤ (p : Int) + 3 := by omega
          go_wp2_with fail
          exact bodyPost_ret (v := .tuple #[.int .i64 (0), .int .i64 (0), .bool false]) (by simp [results, Try.results25, go_sem, *] <;> omega) rfl ⟨ret_tri hv.out rfl rfl rfl, rfl⟩
      · -- digit 4
        have hK := hide (show rdF l p 2 4 m = rdU l p from hr.out)
        clear hr
        have hm1' : m < 268435456 := by simpa using hm1
        clear hm1
        by_cases hat1 : p + 4 < n
        · obtain ⟨ad, x, rfl, hx_, hcx⟩ := Rd.u8 h (k := p + 4) hat1
          have hcx2 : wr.cell? { block := ad.block, off := ad.off + (p + 1 + 1 + 1 + 1) } = some (.int .u8 x) := hcx
          have hat2 : (p : Int) + 4 < (n : Int) := by omega
          obtain ⟨hx1, hx2⟩ := hB x (List.mem_of_getElem? hx_)
          have HX := hide hx_
          clear hx_
          have bt : x.tmod 128 = x % 128 := by rw [Int.tmod_eq_emod_of_nonneg (by omega)]
          have bs : wrap64 (x % 128 * 268435456) = x % 128 * 268435456 := by simp only [wrap64]; omega
          have bs2 : wrap64 (m + x % 128 * 268435456) = m + x % 128 * 268435456 := by simp only [wrap64]; omega
          have hw : wrap64 x = x := by simp only [wrap64]; omega
          have hw2 : IntKind.i64.wrap x = x := by simp only [IntKind.wrap_i64]; omega
          by_cases hx8 : 128 ≤ x
          · have hv := hide (show rdF l p 1 5 (m + x % 128 * 268435456) = rdU l p from (rdF_more HX.out hx8 (by simp)).symm.trans hK.out)
            clear hK
            go_wp2_with fail
            go_roundw
            case rel => exact ⟨5, m + x % 128 * 268435456, by omega, rfl, by simp [Int.add_assoc], rfl, by omega, by omega, hv, by first | rfl | trivial⟩
            case measure => simp [intOf]
          · by_cases hz : x = 0
            · subst hz
              have hv := hide (show rdU l p = (0, 0, false) from hK.out.symm.trans (rdF_no HX.out (by omega) rfl (by omega)))
              clear hK
              go_wp2_with fail
              exact bodyPost_ret (v := .tuple #[.int .i64 (0), .int .i64 (0), .bool false]) (by simp [results, Try.results25, go_sem, *] <;> omega) rfl ⟨ret_tri hv.out rfl rfl rfl, rfl⟩
            · have hz' : ¬ wrap64 x = 0 := by rw [hw]; exact hz
              by_cases hle : m + x % 128 * 268435456 ≤ 1000000000000
              · have hv := hide (show rdU l p = (m + x % 128 * 268435456, (p : Int) + 5, true) from hK.out.symm.trans (rdF_done HX.out (by omega) (by omega) (by simp) hle (by simp; try omega)))
                clear hK
                go_wp2_with fail
                exact bodyPost_ret (v := .tuple #[.int .i64 (m + x % 128 * 268435456), .int .i64 ((p : Int) + 5), .bool true]) (by simp [results, Try.results25, go_sem, *] <;> omega) rfl ⟨ret_tri hv.out rfl rfl rfl, rfl⟩
              · exact absurd hle (by omega)
        · have hL := HL.out
          have hv := hide (show rdU l p = (0, 0, false) from hK.out.symm.trans (rdF_bad (by omega)))
          clear hK hL
          have hbig : (n : Int) ≤ (p : Int) + 4 := by omega
          go_wp2_with fail
          exact bodyPost_ret (v := .tuple #[.int .i64 (0), .int .i64 (0), .bool false]) (by simp [results, Try.results25, go_sem, *] <;> omega) rfl ⟨ret_tri hv.out rfl rfl rfl, rfl⟩
      · -- digit 5
        have hK := hide (show rdF l p 1 5 m = rdU l p from hr.out)
        clear hr
        have hm1' : m < 34359738368 := by simpa using hm1
        clear hm1
        by_cases hat1 : p + 5 < n
        · obtain ⟨ad, x, rfl, hx_, hcx⟩ := Rd.u8 h (k := p + 5) hat1
          have hcx2 : wr.cell? { block := ad.block, off := ad.off + (p + 1 + 1 + 1 + 1 + 1) } = some (.int .u8 x) := hcx
          have hat2 : (p : Int) + 5 < (n : Int) := by omega
          obtain ⟨hx1, hx2⟩ := hB x (List.mem_of_getElem? hx_)
          have HX := hide hx_
          clear hx_
          have bt : x.tmod 128 = x % 128 := by rw [Int.tmod_eq_emod_of_nonneg (by omega)]
          have bs : wrap64 (x % 128 * 34359738368) = x % 128 * 34359738368 := by simp only [wrap64]; omega
          have bs2 : wrap64 (m + x % 128 * 34359738368) = m + x % 128 * 34359738368 := by simp only [wrap64]; omega
          have hw : wrap64 x = x := by simp only [wrap64]; omega
          have hw2 : IntKind.i64.wrap x = x := by simp only [IntKind.wrap_i64]; omega
          by_cases hx8 : 128 ≤ x
          · have hv := hide (show rdF l p 0 6 (m + x % 128 * 34359738368) = rdU l p from (rdF_more HX.out hx8 (by simp)).symm.trans hK.out)
            clear hK
            go_wp2_with fail
            go_roundw
            case rel => exact ⟨6, m + x % 128 * 34359738368, by omega, rfl, by simp [Int.add_assoc], rfl, by omega, by omega, hv, by first | rfl | trivial⟩
            case measure => simp [intOf]
          · by_cases hz : x = 0
            · subst hz
              have hv := hide (show rdU l p = (0, 0, false) from hK.out.symm.trans (rdF_no HX.out (by omega) rfl (by omega)))
              clear hK
              go_wp2_with fail
              exact bodyPost_ret (v := .tuple #[.int .i64 (0), .int .i64 (0), .bool false]) (by simp [results, Try.results25, go_sem, *] <;> omega) rfl ⟨ret_tri hv.out rfl rfl rfl, rfl⟩
            · have hz' : ¬ wrap64 x = 0 := by rw [hw]; exact hz
              by_cases hle : m + x % 128 * 34359738368 ≤ 1000000000000
              · have hv := hide (show rdU l p = (m + x % 128 * 34359738368, (p : Int) + 6, true) from hK.out.symm.trans (rdF_done HX.out (by omega) (by omega) (by simp) hle (by simp; try omega)))
                clear hK
                go_wp2_with fail
                exact bodyPost_ret (v := .tuple #[.int .i64 (m + x % 128 * 34359738368), .int .i64 ((p : Int) + 6), .bool true]) (by simp [results, Try.results25, go_sem, *] <;> omega) rfl ⟨ret_tri hv.out rfl rfl rfl, rfl⟩
              · have hv := hide (show rdU l p = (0, 0, false) from hK.out.symm.trans (rdF_no (M := m + x % 128 * 34359738368) HX.out (by omega) (by simp) (by omega)))
                clear hK
                have hle' : 1000000000000 < m + x % 128 * 34359738368 := by omega
                go_wp2_with fail
                exact bodyPost_ret (v := .tuple #[.int .i64 (0), .int .i64 (0), .bool false]) (by simp [results, Try.results25, go_sem, *] <;> omega) rfl ⟨ret_tri hv.out rfl rfl rfl, rfl⟩
        · have hL := HL.out
          have hv := hide (show rdU l p = (0, 0, false) from hK.out.symm.trans (rdF_bad (by omega)))
          clear hK hL
          have hbig : (n : Int) ≤ (p : Int) + 5 := by omega
          go_wp2_with fail
          exact bodyPost_ret (v := .tuple #[.int .i64 (0), .int .i64 (0), .bool false]) (by simp [results, Try.results25, go_sem, *] <;> omega) rfl ⟨ret_tri hv.out rfl rfl rfl, rfl⟩

    · have hk : k = 6 := by omega
      subst hk
      have hv := hide (show rdU l p = (0, 0, false) from hr.out.symm)
      clear hr hm1
      go_wp2_with fail
      exact bodyPost_ret (v := .tuple #[.int .i64 (0), .int .i64 (0), .bool false]) (by simp [results, Try.results25, go_sem, *] <;> omega) rfl ⟨ret_tri hv.out rfl rfl rfl, rfl⟩
end Go.Proofs.Ytmlkhgekacjidae
