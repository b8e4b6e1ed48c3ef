/- Contracts of FormatInt, of the program and of the reference. For every integer. -/
import Derived.Test.YtmlkhgekacjidaeMarkT
import Derived.Test.YtmlkhgekacjidaeIntS
import Derived.Test.YtmlkhgekacjidaeByteS
import Derived.Test.YtmlkhgekacjidaeStrB
import Derived.Test.YtmlkhgekacjidaeOwnB
namespace Go.Proofs.Ytmlkhgekacjidae
open Go.RowKit Go.WideShapes Go.ChangeShapes Go.Deep
set_option linter.unusedSimpArgs false
set_option linter.unusedVariables false
set_option maxRecDepth 1000000
/-- the decimal form of n -/
def fmtL (n : Int) : List UInt8 := if n = 0 then [48] else if n < 0 then 45 :: dec n.natAbs [] else dec n.natAbs []
def fmtI (n : Int) : ByteArray := ⟨(fmtL n).toArray⟩
def lenOk (l : List UInt8) (x : Int) : Prop := l = [] ∨ l.length + x.natAbs ≤ 4611686018427387904
theorem lenOk_lt {l : List UInt8} {x : Int} (h : lenOk l x) : (1 + l.length : Int) ≤ 4611686018427387905 := by
  rcases h with rfl | h
  · simp
  · omega
theorem lenOk_step {l : List UInt8} {x y : Int} {b : UInt8} (h : lenOk l x) (hx : x.natAbs ≤ 9223372036854775808) (h0 : x ≠ 0) (hy : y.natAbs = x.natAbs / 10) : lenOk (b :: l) y := by
  right
  rcases h with rfl | h
  · simp only [List.length_cons, List.length_nil]; omega
  · simp only [List.length_cons]; omega
def btsI (l : List UInt8) : List Int := l.map fun b => (b.toNat : Int)
theorem btsI_str (l : List UInt8) : strOfNums (btsI l) = ⟨l.toArray⟩ := by
  simp [strOfNums, btsI, Function.comp_def]
theorem btsI_cons (c : Nat) (h : c < 256) (l : List UInt8) : btsI (UInt8.ofNat c :: l) = (c : Int) :: btsI l := by
  have e : c % 256 = c := by omega
  simp [btsI, e]
theorem btsI_length (l : List UInt8) : (btsI l).length = l.length := by simp [btsI]
theorem dec_go {x : Int} (h : x ≠ 0) (l : List UInt8) {y : Int} (hy : y.natAbs = x.natAbs / 10) {d : Int} (hd : d.toNat = 48 + x.natAbs % 10) : dec y.natAbs (UInt8.ofNat d.toNat :: l) = dec x.natAbs l := by
  rw [hy, hd, ← dec_step (by omega)]
theorem neg_tmod10 (x : Int) (h : x < 0) : x.tmod 10 = -((-x) % 10) := by
  have := Int.neg_tmod (-x) 10
  rw [Int.neg_neg] at this
  rw [this, Int.tmod_eq_emod_of_nonneg (by omega)]
theorem neg_tdiv10 (x : Int) (h : x < 0) : x.tdiv 10 = -((-x) / 10) := by
  have := Int.neg_tdiv (-x) 10
  rw [Int.neg_neg] at this
  rw [this, Int.tdiv_eq_ediv_of_nonneg (by omega)]
def lenP (l : List UInt8) (x : Int) : Prop := ∃ k, l.length + k ≤ 19 ∧ x.natAbs < 10 ^ k
theorem lenP_lt {l : List UInt8} {x : Int} (h : lenP l x) : l.length ≤ 19 := by obtain ⟨k, h1, _⟩ := h; omega
theorem lenP_step {l : List UInt8} {x y : Int} {b : UInt8} (h : lenP l x) (h0 : x ≠ 0) (hy : y.natAbs = x.natAbs / 10) : lenP (b :: l) y := by
  obtain ⟨k, h1, h2⟩ := h
  cases k with
  | zero => simp at h2; omega
  | succ k =>
    refine ⟨k, by simp; omega, ?_⟩
    rw [hy, Nat.div_lt_iff_lt_mul (by omega)]
    rw [Nat.pow_succ] at h2
    exact h2
/-- what the digits come to from (x, l) on -/
def dig1 (x : Int) (l : List UInt8) : List UInt8 := if x = 0 ∧ l = [] then [48] else dec x.natAbs l
set_option maxHeartbeats 1000000 in
theorem specFormatInt_any (n : Int) (w : World) (hn : I64 n) :
    Calls Try.prog 90 #[.int .i64 n] w fun e w' => e = .returned (.string (fmtI n)) ∧ Below w.heap.size w w' := by
  obtain ⟨hn1, hn2⟩ := hn
  by_cases h0 : n = 0
  · subst h0
    go_enter Try.func90, Try.ntmps90
    go_wp2
    go_ret
    exact ⟨ret_s (by simp [fmtI, fmtL]), Below.refl _ _⟩
  · have hcv := conv_one (P := Try.prog) 22 9 5 Try.underlying22 Try.underlying5 Try.underlying9
    have hb0 : (n == 0) = false := by simpa using h0
    have hnz : Hid (n ≠ 0) := h0
    clear h0
    go_enter Try.func90, Try.ntmps90
    go_wp2
    go_loopw [3, 4] (fun o xx wr => ∃ (x : Int) (l : List UInt8), xx = .int .i64 x ∧ o = .string ⟨l.toArray⟩ ∧ Hid (x.natAbs ≤ n.natAbs ∧ -9223372036854775808 ≤ x ∧ x ≤ 9223372036854775807) ∧ Hid (lenOk l x) ∧ Hid (dec x.natAbs l = dec n.natAbs []) ∧ Below w.heap.size w wr) (fun _ xx _ => (intOf xx).natAbs)
    case atStart => exact ⟨n, [], rfl, rfl, ⟨Nat.le_refl _, hn1, hn2⟩, .inl rfl, rfl, Below.refl _ _⟩
    case round =>
      obtain ⟨x, l, rfl, rfl, hxn, hlo, hd, hb⟩ := hrel
      have hll := lenOk_lt hlo.out
      have hxb := hxn.out
      have hz := hb.size
      obtain ⟨hxb, hx1, hx2⟩ := hxb
      have HB := hide hxb
      clear hxb
      rcases Int.lt_trichotomy x 0 with hx | hx | hx
      · have hxb0 : (x == 0) = false := by simpa using (by omega : ¬ x = 0)
        have t1 := neg_tmod10 x hx
        have t2 := neg_tdiv10 x hx
        go_wp2
        all_goals
          go_roundw
          case rel =>
            refine ⟨_, UInt8.ofNat _ :: l, rfl, val_s (cons_bytes _ _), ⟨by have := HB.out; omega, by omega, by omega⟩, lenOk_step hlo.out (by omega) (by omega) (by omega), ?_, hb.alloc hz _⟩
            show dec _ _ = _
            rw [← hd.out]
            exact dec_go (by omega) l (by omega) (by omega)
          case measure => simp [intOf]; omega
      · subst hx
        by_cases hneg : n < 0
        · have hfin := hide (show fmtI n = ⟨(45 :: l).toArray⟩ by
            have := hd.out
            rw [show (0 : Int).natAbs = 0 from rfl, dec_zero] at this
            simp [fmtI, fmtL, hnz.out, hneg, ← this])
          go_wp2
          go_ret
          exact ⟨ret_s (by rw [hfin.out]; exact cons_bytes _ _), hb⟩
        · have hfin := hide (show fmtI n = ⟨l.toArray⟩ by
            have := hd.out
            rw [show (0 : Int).natAbs = 0 from rfl, dec_zero] at this
            simp [fmtI, fmtL, hnz.out, hneg, ← this])
          go_wp2
          go_ret
          exact ⟨ret_s (by rw [hfin.out]), hb⟩
      · have hxb0 : (x == 0) = false := by simpa using (by omega : ¬ x = 0)
        go_wp2
        all_goals
          go_roundw
          case rel =>
            refine ⟨_, UInt8.ofNat _ :: l, rfl, val_s (cons_bytes _ _), ⟨by have := HB.out; omega, by omega, by omega⟩, lenOk_step hlo.out (by omega) (by omega) (by omega), ?_, hb.alloc hz _⟩
            show dec _ _ = _
            rw [← hd.out]
            exact dec_go (by omega) l (by omega) (by omega)
          case measure => simp [intOf]; omega
theorem strOfNums_cons (c : Int) (l : List UInt8) : strOfNums (c :: btsI l) = ⟨(UInt8.ofNat c.toNat :: l).toArray⟩ := by
  simp [strOfNums, btsI, Function.comp_def]
theorem u8s_cons (c : Int) (h0 : 0 ≤ c) (h1 : c < 256) (l : List UInt8) : u8s (c :: btsI l) = u8s (btsI (UInt8.ofNat c.toNat :: l)) := by
  rw [btsI_cons c.toNat (by omega)]
  have : ((c.toNat : Nat) : Int) = c := by omega
  rw [this]
theorem dig1_end {x : Int} {l : List UInt8} (hx : x ≠ 0 ∨ l = []) {d : Int} (hq : x.natAbs / 10 = 0) (hd : d.toNat = 48 + x.natAbs % 10) : dig1 x l = UInt8.ofNat d.toNat :: l := by
  unfold dig1
  by_cases h0 : x = 0
  · subst h0
    obtain rfl : l = [] := by rcases hx with h | h; exact absurd rfl h; exact h
    simp at hd
    simp [hd]
  · rw [if_neg (by simp [h0]), ← dec_go h0 l (y := 0) (by simpa using hq.symm) hd]
    rfl
theorem dig1_go {x y : Int} {l : List UInt8} (hq : y ≠ 0) (hy : y.natAbs = x.natAbs / 10) {d : Int} (hd : d.toNat = 48 + x.natAbs % 10) : dig1 y (UInt8.ofNat d.toNat :: l) = dig1 x l := by
  have hx : x ≠ 0 := by omega
  unfold dig1
  rw [if_neg (by simp [hq]), if_neg (by simp [hx])]
  exact dec_go hx l hy hd
set_option maxHeartbeats 4000000 in
theorem implFormatInt_any (n : Int) (w : World) (hn : I64 n) :
    Calls Try.prog 19 #[.int .i64 n] w fun e w' => e = .returned (.string (fmtI n)) ∧ Below w.heap.size w w' := by
  obtain ⟨hn1, hn2⟩ := hn
  obtain ⟨iByte, hiByte, hzByte0, hzByte1, hzByte2⟩ := info_parts Byte_info
  by_cases hneg : n < 0
  · have hfmt : Hid (∀ L, dig1 n [] = L → fmtI n = ⟨(45 :: L).toArray⟩) := by
      intro L hL
      subst hL
      unfold fmtI fmtL dig1
      rw [if_neg (by omega), if_pos hneg, if_neg (by simp; omega)]
    go_enter Try.func19, Try.ntmps19
    go_wp2
    go_loopw [0, 3] (fun xx o wr => ∃ (x : Int) (l : List UInt8) (B : Option Addr) (d : Nat), xx = .int .i64 x ∧ o = .slice B l.length d ∧ wr.ownsRow w.heap.size 5 1 (.slice B l.length d) l.length (u8s (btsI l)) ∧ Hid (x.natAbs ≤ n.natAbs ∧ -9223372036854775808 ≤ x ∧ x ≤ 9223372036854775807) ∧ Hid (lenP l x) ∧ Hid (dig1 x l = dig1 n []) ∧ Hid (x ≠ 0 ∨ l = []) ∧ Below w.heap.size w wr) (fun xx _ _ => (intOf xx).natAbs)
    case atStart => exact ⟨n, [], none, 0, rfl, rfl, World.ownsRow_nil _ _ _ _, ⟨Nat.le_refl _, hn1, hn2⟩, ⟨19, by simp, by simp; omega⟩, rfl, .inr rfl, Below.refl _ _⟩
    case round =>
      obtain ⟨x, l, B, d, rfl, rfl, ho, hxn, hlp, hd, hxl, hb⟩ := hrel
      have hl := lenP_lt hlp.out
      have hsz : ∀ c : Int, (strOfNums (c :: btsI l)).size = l.length + 1 := fun c => by rw [strOfNums_size]; simp [btsI]
      have hxb := hxn.out
      have hz := hb.size
      obtain ⟨hxb, hx1, hx2⟩ := hxb
      have HB := hide hxb
      clear hxb
      rcases Int.lt_or_le x 0 with hx | hx
      · by_cases hq : -(-x / 10) = 0
        · have hqb : (-(-x / 10) == 0) = true := by simpa using hq
          have HQ := hide hq
          clear hq
          have t1 := neg_tmod10 x hx
          have t2 := neg_tdiv10 x hx
          go_wp2_with (first | (at_builtin; refine wpList_app2 _ rfl (.tmp 17) (.tmp 18) 22 rfl 5 iByte (.int .u8 0) 1 1 Try.underlying22 hiByte hzByte0 hzByte1 hzByte2 rfl (by omega) rfl (World.ownsRow_lit (base := wr.heap.size) (e := 5) (size := 1) wr #[_] 1 (Nat.le_refl _) (by unfold maxLen; omega) rfl) rfl ((Rd.of_own ho).below ((Below.refl _ _).alloc (Nat.le_refl _) _)) (u8s_one _) (by unfold maxLen; omega) (by omega) (Nat.add_comm 1 l.length) (show [Value.int .u8 _] ++ u8s (btsI l) = u8s (_ :: btsI l) from rfl) (hb.alloc hz _) (by simp; omega) hz (by simp) ?_; intro A2 c2 w2 ho2 hb2 hg2 hat2; have hcv := conv_rd (P := Try.prog) 22 9 5 Try.underlying22 Try.underlying5 Try.underlying9 w2 (c := c2) (Rd.of_own ho2)))
          all_goals
            go_ret
            exact ⟨ret_s (by rw [strOfNums_cons]; exact (cons_bytes _ _).trans (hfmt.out _ (hd.out.symm.trans (dig1_end hxl.out (by have := HQ.out; omega) (by omega)))).symm), hb2⟩
        · have hqb : (-(-x / 10) == 0) = false := by simpa using hq
          have HQ := hide hq
          clear hq
          have t1 := neg_tmod10 x hx
          have t2 := neg_tdiv10 x hx
          go_wp2_with (first | (at_builtin; refine wpList_app2 _ rfl (.tmp 17) (.tmp 18) 22 rfl 5 iByte (.int .u8 0) 1 1 Try.underlying22 hiByte hzByte0 hzByte1 hzByte2 rfl (by omega) rfl (World.ownsRow_lit (base := wr.heap.size) (e := 5) (size := 1) wr #[_] 1 (Nat.le_refl _) (by unfold maxLen; omega) rfl) rfl ((Rd.of_own ho).below ((Below.refl _ _).alloc (Nat.le_refl _) _)) (u8s_one _) (by unfold maxLen; omega) (by omega) (Nat.add_comm 1 l.length) (show [Value.int .u8 _] ++ u8s (btsI l) = u8s (_ :: btsI l) from rfl) (hb.alloc hz _) (by simp; omega) hz (by simp) ?_; intro A2 c2 w2 ho2 hb2 hg2 hat2; have hcv := conv_rd (P := Try.prog) 22 9 5 Try.underlying22 Try.underlying5 Try.underlying9 w2 (c := c2) (Rd.of_own ho2)))
          all_goals
            go_roundw
            case rel =>
              refine ⟨-(-x / 10), UInt8.ofNat _ :: l, A2, c2, rfl, rfl, by have h := own_base ho2 hz; rw [u8s_cons _ (by omega) (by omega)] at h; exact h, ⟨by have := HB.out; omega, by omega, by omega⟩, lenP_step hlp.out (by have := HQ.out; omega) (by omega), ?_, .inl HQ.out, hb2⟩
              show dig1 _ _ = _
              rw [← hd.out]
              exact dig1_go HQ.out (by omega) (by omega)
            case measure => have := HQ.out; simp [intOf]; omega
      · by_cases hq : x / 10 = 0
        · have hqb : (x / 10 == 0) = true := by simpa using hq
          have HQ := hide hq
          clear hq
          go_wp2_with (first | (at_builtin; refine wpList_app2 _ rfl (.tmp 17) (.tmp 18) 22 rfl 5 iByte (.int .u8 0) 1 1 Try.underlying22 hiByte hzByte0 hzByte1 hzByte2 rfl (by omega) rfl (World.ownsRow_lit (base := wr.heap.size) (e := 5) (size := 1) wr #[_] 1 (Nat.le_refl _) (by unfold maxLen; omega) rfl) rfl ((Rd.of_own ho).below ((Below.refl _ _).alloc (Nat.le_refl _) _)) (u8s_one _) (by unfold maxLen; omega) (by omega) (Nat.add_comm 1 l.length) (show [Value.int .u8 _] ++ u8s (btsI l) = u8s (_ :: btsI l) from rfl) (hb.alloc hz _) (by simp; omega) hz (by simp) ?_; intro A2 c2 w2 ho2 hb2 hg2 hat2; have hcv := conv_rd (P := Try.prog) 22 9 5 Try.underlying22 Try.underlying5 Try.underlying9 w2 (c := c2) (Rd.of_own ho2)))
          all_goals
            go_ret
            exact ⟨ret_s (by rw [strOfNums_cons]; exact (cons_bytes _ _).trans (hfmt.out _ (hd.out.symm.trans (dig1_end hxl.out (by have := HQ.out; omega) (by omega)))).symm), hb2⟩
        · have hqb : (x / 10 == 0) = false := by simpa using hq
          have HQ := hide hq
          clear hq
          go_wp2_with (first | (at_builtin; refine wpList_app2 _ rfl (.tmp 17) (.tmp 18) 22 rfl 5 iByte (.int .u8 0) 1 1 Try.underlying22 hiByte hzByte0 hzByte1 hzByte2 rfl (by omega) rfl (World.ownsRow_lit (base := wr.heap.size) (e := 5) (size := 1) wr #[_] 1 (Nat.le_refl _) (by unfold maxLen; omega) rfl) rfl ((Rd.of_own ho).below ((Below.refl _ _).alloc (Nat.le_refl _) _)) (u8s_one _) (by unfold maxLen; omega) (by omega) (Nat.add_comm 1 l.length) (show [Value.int .u8 _] ++ u8s (btsI l) = u8s (_ :: btsI l) from rfl) (hb.alloc hz _) (by simp; omega) hz (by simp) ?_; intro A2 c2 w2 ho2 hb2 hg2 hat2; have hcv := conv_rd (P := Try.prog) 22 9 5 Try.underlying22 Try.underlying5 Try.underlying9 w2 (c := c2) (Rd.of_own ho2)))
          all_goals
            go_roundw
            case rel =>
              refine ⟨x / 10, UInt8.ofNat _ :: l, A2, c2, rfl, rfl, by have h := own_base ho2 hz; rw [u8s_cons _ (by omega) (by omega)] at h; exact h, ⟨by have := HB.out; omega, by omega, by omega⟩, lenP_step hlp.out (by have := HQ.out; omega) (by omega), ?_, .inl HQ.out, hb2⟩
              show dig1 _ _ = _
              rw [← hd.out]
              exact dig1_go HQ.out (by omega) (by omega)
            case measure => have := HQ.out; simp [intOf]; omega
  · have hfmt : Hid (∀ L, dig1 n [] = L → fmtI n = ⟨L.toArray⟩) := by
      intro L hL
      subst hL
      unfold fmtI fmtL dig1
      by_cases h0 : n = 0
      · simp [h0]
      · rw [if_neg h0, if_neg hneg, if_neg (by simp [h0])]
    go_enter Try.func19, Try.ntmps19
    go_wp2
    go_loopw [0, 3] (fun xx o wr => ∃ (x : Int) (l : List UInt8) (B : Option Addr) (d : Nat), xx = .int .i64 x ∧ o = .slice B l.length d ∧ wr.ownsRow w.heap.size 5 1 (.slice B l.length d) l.length (u8s (btsI l)) ∧ Hid (x.natAbs ≤ n.natAbs ∧ -9223372036854775808 ≤ x ∧ x ≤ 9223372036854775807) ∧ Hid (lenP l x) ∧ Hid (dig1 x l = dig1 n []) ∧ Hid (x ≠ 0 ∨ l = []) ∧ Below w.heap.size w wr) (fun xx _ _ => (intOf xx).natAbs)
    case atStart => exact ⟨n, [], none, 0, rfl, rfl, World.ownsRow_nil _ _ _ _, ⟨Nat.le_refl _, hn1, hn2⟩, ⟨19, by simp, by simp; omega⟩, rfl, .inr rfl, Below.refl _ _⟩
    case round =>
      obtain ⟨x, l, B, d, rfl, rfl, ho, hxn, hlp, hd, hxl, hb⟩ := hrel
      have hl := lenP_lt hlp.out
      have hsz : ∀ c : Int, (strOfNums (c :: btsI l)).size = l.length + 1 := fun c => by rw [strOfNums_size]; simp [btsI]
      have hxb := hxn.out
      have hz := hb.size
      obtain ⟨hxb, hx1, hx2⟩ := hxb
      have HB := hide hxb
      clear hxb
      rcases Int.lt_or_le x 0 with hx | hx
      · by_cases hq : -(-x / 10) = 0
        · have hqb : (-(-x / 10) == 0) = true := by simpa using hq
          have HQ := hide hq
          clear hq
          have t1 := neg_tmod10 x hx
          have t2 := neg_tdiv10 x hx
          go_wp2_with (first | (at_builtin; refine wpList_app2 _ rfl (.tmp 17) (.tmp 18) 22 rfl 5 iByte (.int .u8 0) 1 1 Try.underlying22 hiByte hzByte0 hzByte1 hzByte2 rfl (by omega) rfl (World.ownsRow_lit (base := wr.heap.size) (e := 5) (size := 1) wr #[_] 1 (Nat.le_refl _) (by unfold maxLen; omega) rfl) rfl ((Rd.of_own ho).below ((Below.refl _ _).alloc (Nat.le_refl _) _)) (u8s_one _) (by unfold maxLen; omega) (by omega) (Nat.add_comm 1 l.length) (show [Value.int .u8 _] ++ u8s (btsI l) = u8s (_ :: btsI l) from rfl) (hb.alloc hz _) (by simp; omega) hz (by simp) ?_; intro A2 c2 w2 ho2 hb2 hg2 hat2; have hcv := conv_rd (P := Try.prog) 22 9 5 Try.underlying22 Try.underlying5 Try.underlying9 w2 (c := c2) (Rd.of_own ho2)))
          all_goals
            go_ret
            exact ⟨ret_s (by rw [strOfNums_cons]; exact (hfmt.out _ (hd.out.symm.trans (dig1_end hxl.out (by have := HQ.out; omega) (by omega)))).symm), hb2⟩
        · have hqb : (-(-x / 10) == 0) = false := by simpa using hq
          have HQ := hide hq
          clear hq
          have t1 := neg_tmod10 x hx
          have t2 := neg_tdiv10 x hx
          go_wp2_with (first | (at_builtin; refine wpList_app2 _ rfl (.tmp 17) (.tmp 18) 22 rfl 5 iByte (.int .u8 0) 1 1 Try.underlying22 hiByte hzByte0 hzByte1 hzByte2 rfl (by omega) rfl (World.ownsRow_lit (base := wr.heap.size) (e := 5) (size := 1) wr #[_] 1 (Nat.le_refl _) (by unfold maxLen; omega) rfl) rfl ((Rd.of_own ho).below ((Below.refl _ _).alloc (Nat.le_refl _) _)) (u8s_one _) (by unfold maxLen; omega) (by omega) (Nat.add_comm 1 l.length) (show [Value.int .u8 _] ++ u8s (btsI l) = u8s (_ :: btsI l) from rfl) (hb.alloc hz _) (by simp; omega) hz (by simp) ?_; intro A2 c2 w2 ho2 hb2 hg2 hat2; have hcv := conv_rd (P := Try.prog) 22 9 5 Try.underlying22 Try.underlying5 Try.underlying9 w2 (c := c2) (Rd.of_own ho2)))
          all_goals
            go_roundw
            case rel =>
              refine ⟨-(-x / 10), UInt8.ofNat _ :: l, A2, c2, rfl, rfl, by have h := own_base ho2 hz; rw [u8s_cons _ (by omega) (by omega)] at h; exact h, ⟨by have := HB.out; omega, by omega, by omega⟩, lenP_step hlp.out (by have := HQ.out; omega) (by omega), ?_, .inl HQ.out, hb2⟩
              show dig1 _ _ = _
              rw [← hd.out]
              exact dig1_go HQ.out (by omega) (by omega)
            case measure => have := HQ.out; simp [intOf]; omega
      · by_cases hq : x / 10 = 0
        · have hqb : (x / 10 == 0) = true := by simpa using hq
          have HQ := hide hq
          clear hq
          go_wp2_with (first | (at_builtin; refine wpList_app2 _ rfl (.tmp 17) (.tmp 18) 22 rfl 5 iByte (.int .u8 0) 1 1 Try.underlying22 hiByte hzByte0 hzByte1 hzByte2 rfl (by omega) rfl (World.ownsRow_lit (base := wr.heap.size) (e := 5) (size := 1) wr #[_] 1 (Nat.le_refl _) (by unfold maxLen; omega) rfl) rfl ((Rd.of_own ho).below ((Below.refl _ _).alloc (Nat.le_refl _) _)) (u8s_one _) (by unfold maxLen; omega) (by omega) (Nat.add_comm 1 l.length) (show [Value.int .u8 _] ++ u8s (btsI l) = u8s (_ :: btsI l) from rfl) (hb.alloc hz _) (by simp; omega) hz (by simp) ?_; intro A2 c2 w2 ho2 hb2 hg2 hat2; have hcv := conv_rd (P := Try.prog) 22 9 5 Try.underlying22 Try.underlying5 Try.underlying9 w2 (c := c2) (Rd.of_own ho2)))
          all_goals
            go_ret
            exact ⟨ret_s (by rw [strOfNums_cons]; exact (hfmt.out _ (hd.out.symm.trans (dig1_end hxl.out (by have := HQ.out; omega) (by omega)))).symm), hb2⟩
        · have hqb : (x / 10 == 0) = false := by simpa using hq
          have HQ := hide hq
          clear hq
          go_wp2_with (first | (at_builtin; refine wpList_app2 _ rfl (.tmp 17) (.tmp 18) 22 rfl 5 iByte (.int .u8 0) 1 1 Try.underlying22 hiByte hzByte0 hzByte1 hzByte2 rfl (by omega) rfl (World.ownsRow_lit (base := wr.heap.size) (e := 5) (size := 1) wr #[_] 1 (Nat.le_refl _) (by unfold maxLen; omega) rfl) rfl ((Rd.of_own ho).below ((Below.refl _ _).alloc (Nat.le_refl _) _)) (u8s_one _) (by unfold maxLen; omega) (by omega) (Nat.add_comm 1 l.length) (show [Value.int .u8 _] ++ u8s (btsI l) = u8s (_ :: btsI l) from rfl) (hb.alloc hz _) (by simp; omega) hz (by simp) ?_; intro A2 c2 w2 ho2 hb2 hg2 hat2; have hcv := conv_rd (P := Try.prog) 22 9 5 Try.underlying22 Try.underlying5 Try.underlying9 w2 (c := c2) (Rd.of_own ho2)))
          all_goals
            go_roundw
            case rel =>
              refine ⟨x / 10, UInt8.ofNat _ :: l, A2, c2, rfl, rfl, by have h := own_base ho2 hz; rw [u8s_cons _ (by omega) (by omega)] at h; exact h, ⟨by have := HB.out; omega, by omega, by omega⟩, lenP_step hlp.out (by have := HQ.out; omega) (by omega), ?_, .inl HQ.out, hb2⟩
              show dig1 _ _ = _
              rw [← hd.out]
              exact dig1_go HQ.out (by omega) (by omega)
            case measure => have := HQ.out; simp [intOf]; omega
end Go.Proofs.Ytmlkhgekacjidae
