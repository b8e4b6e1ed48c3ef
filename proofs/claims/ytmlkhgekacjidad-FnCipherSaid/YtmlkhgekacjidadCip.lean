/- Contracts of Encrypt and Decrypt of the reference. For slices of at most 2^38 bytes. -/
import Derived.Test.YtmlkhgekacjidadKeyed
import Derived.Test.YtmlkhgekacjidadByteS
import Derived.Test.YtmlkhgekacjidadStep
import Derived.Test.YtmlkhgekacjidadOwnB
import Derived.Test.YtmlkhgekacjidadUv
namespace Go.Proofs.Ytmlkhgekacjidad
open Go.RowKit Go.WideShapes Go.ChangeShapes Go.Deep
set_option linter.unusedSimpArgs false
set_option linter.unusedVariables false
set_option maxRecDepth 100000
def encV (key sg : Int) (i : Nat) (x : Int) : Int := (x + sg * keyedF key [(i : Int)]) % 256
theorem Rd.drew_ {w : World} {s n : Nat} {A : Option Addr} {xs : List Value} (h : Rd w s A n xs) : Rd w.drew s A n xs := h
theorem last_eq {w : World} {b : Nat} {e : TypeId} {s n : Nat} {v : Value} {xs : List Value} {k : IntKind} {x y : Int} (h : w.ownsRow b e s v n (xs ++ [.int k x])) (he : x = y) : w.ownsRow b e s v n (xs ++ [.int k y]) := he ▸ h
theorem encE {x K : Int} (h1 : 0 ≤ x) (h2 : x ≤ 255) (h3 : 0 ≤ K) (h4 : K ≤ 2147483646) : IntKind.u8.wrap ((IntKind.i64.wrap (IntKind.i64.wrap x + K.tmod 256)).tmod 256) = (x + K % 256) % 256 := by
  rw [Int.tmod_eq_emod_of_nonneg h3, show IntKind.i64.wrap x = x by (simp only [IntKind.wrap_i64, IntKind.wrap_u8]; omega), show IntKind.i64.wrap (x + K % 256) = x + K % 256 by (simp only [IntKind.wrap_i64, IntKind.wrap_u8]; omega), Int.tmod_eq_emod_of_nonneg (by omega)]
  (simp only [IntKind.wrap_i64, IntKind.wrap_u8]; omega)
theorem i64_lo (n : Int) : -9223372036854775808 ≤ IntKind.i64.wrap n := by rw [IntKind.wrap_i64]; omega
theorem i64_hi (n : Int) : IntKind.i64.wrap n ≤ 9223372036854775807 := by rw [IntKind.wrap_i64]; omega
theorem decE {x K : Int} (h1 : 0 ≤ x) (h2 : x ≤ 255) (h3 : 0 ≤ K) (h4 : K ≤ 2147483646) : IntKind.u8.wrap (modI (IntKind.i64.wrap (IntKind.i64.wrap x - K.tmod 256)) 256) = (x - K % 256) % 256 := by
  rw [Int.tmod_eq_emod_of_nonneg h3, show IntKind.i64.wrap x = x by (simp only [IntKind.wrap_i64]; omega), show IntKind.i64.wrap (x - K % 256) = x - K % 256 by (simp only [IntKind.wrap_i64]; omega), modI_of (by omega) (by omega)]
  simp only [IntKind.wrap_u8]; omega
theorem shE {x K sg : Int} (h1 : 0 ≤ x) (h2 : x ≤ 255) (h3 : 0 ≤ K) (h4 : K ≤ 2147483646) (hs : sg = 1 ∨ sg = -1) : IntKind.u8.wrap (modI (IntKind.i64.wrap (IntKind.i64.wrap x + IntKind.i64.wrap (sg * K))) 256) = (x + sg * K) % 256 := by
  rcases hs with rfl | rfl <;> (rw [modI_of (by omega) (by omega)]; simp only [IntKind.wrap_i64, IntKind.wrap_u8]; omega)
theorem shE2 {x K sg : Int} (h1 : 0 ≤ x) (h2 : x ≤ 255) (h3 : 0 ≤ K) (h4 : K ≤ 2147483646) (hs : sg = 1 ∨ sg = -1) : modI (wrap64 (x + wrap64 (sg * K))) 256 % 256 = (x + sg * K) % 256 := by
  rcases hs with rfl | rfl <;> (rw [modI_of (by omega) (by omega)]; simp only [wrap64]; omega)
def ciph (key sg : Int) (l : List Int) : List Int := l.foldl (fun acc x => acc ++ [encV key sg acc.length x]) []
theorem ciph_snoc (key sg : Int) (l : List Int) (x : Int) : ciph key sg (l ++ [x]) = ciph key sg l ++ [encV key sg (ciph key sg l).length x] := by simp [ciph]
theorem ciph_acc (key sg : Int) : ∀ (l acc : List Int), (l.foldl (fun acc x => acc ++ [encV key sg acc.length x]) acc).length = acc.length + l.length := by
  intro l
  induction l with
  | nil => intro acc; simp
  | cons x l ih => intro acc; rw [List.foldl_cons, ih]; simp; omega
theorem ciph_length (key sg : Int) (l : List Int) : (ciph key sg l).length = l.length := by simpa [ciph] using ciph_acc key sg l []
theorem ciph_step {key sg : Int} {l : List Int} {k : Nat} {x : Int} (h : l[k]? = some x) : ciph key sg (l.take (k + 1)) = ciph key sg (l.take k) ++ [encV key sg k x] := by
  rw [take_snoc_ h, ciph_snoc, ciph_length, List.length_take]
  have := get_lt h
  rw [Nat.min_eq_left (by omega)]
theorem cip_set {w : World} {base t n d g k : Nat} {key sg x V : Int} {l : List Int} (ho : w.ownsRow base t 1 (.slice (some ⟨g, 0, none⟩) n d) n (u8s (ciph key sg (l.take k) ++ l.drop k))) (hL : l.length = n) (hk : k < n)
    (HX : ciph key sg (l.take (k + 1)) = ciph key sg (l.take k) ++ [encV key sg k x]) (hV : V = (x + sg * keyedF key [(k : Int)]) % 256) :
    (w.setCell ⟨g, k, none⟩ (.int .u8 V)).ownsRow base t 1 (.slice (some ⟨g, 0, none⟩) n d) n (u8s (ciph key sg (l.take (k + 1)) ++ l.drop (k + 1))) := by
  have h1 := (own_set ho k (.int .u8 V)).1
  have e : (u8s (ciph key sg (l.take k) ++ l.drop k)).set k (.int .u8 V) = u8s (ciph key sg (l.take (k + 1)) ++ l.drop (k + 1)) := by
    rw [HX, ← set_step (x := encV key sg k x) (by rw [ciph_length, List.length_take]; omega) (by omega), hV]
    simp only [u8s, List.map_set, encV]
  rw [e] at h1
  exact h1
set_option maxHeartbeats 4000000 in
theorem specEncrypt_any {A : Option Addr} {n c : Nat} {l : List Int} {key : Int} {w : World} (h : Rd w 1 A n (u8s l)) (hn : n ≤ 274877906944) (hB : ∀ x ∈ l, 0 ≤ x ∧ x ≤ 255) (hkey : I64 key) :
    Calls Try.prog 15 #[.int .i64 key, .slice A n c] w fun e w' => ∃ B d, e = .returned (.slice B n d) ∧ w'.ownsRow w.heap.size 5 1 (.slice B n d) n (u8s (ciph key (1) l)) ∧ Below w.heap.size w w' := by
  obtain ⟨iByte, hiByte, hzByte0, hzByte1, hzByte2⟩ := info_parts Byte_info
  have HL := hide (show l.length = n from h.maplen)
  have ho0 := World.ownsRow_lit (base := w.heap.size) (e := 5) (size := 1) w #[] 0 (Nat.le_refl _) (by unfold maxLen; omega) rfl
  have hb0 : Below w.heap.size w (w.alloc (.cells #[] 5)) := (Below.refl _ _).alloc (Nat.le_refl _) _
  go_enter Try.func15, Try.ntmps15
  go_wp2
  go_loopw [5, 6] (fun o i wr => ∃ (k : Nat) (B : Option Addr) (d : Nat), k ≤ n ∧ i = .int .i64 k ∧ o = .slice B k d ∧ wr.ownsRow w.heap.size 5 1 (.slice B k d) k (u8s (ciph key (1) (l.take k))) ∧ Below w.heap.size w wr) (fun _ i _ => n - (intOf i).toNat)
  case atStart => exact ⟨0, _, _, Nat.zero_le _, rfl, rfl, ho0, hb0⟩
  case round =>
    clear ho0 hb0
    obtain ⟨k, B, d, hk, rfl, rfl, ho, hb⟩ := hrel
    have hz := hb.size
    by_cases hlt : k < n
    · obtain ⟨ad, x, rfl, hx, hcw⟩ := Rd.u8 h hlt
      have hadw := cell_lt hcw
      have hcx := (hb.cell hadw).trans hcw
      obtain ⟨hx1, hx2⟩ := hB x (List.mem_of_getElem? hx)
      have HX := hide (ciph_step (key := key) (sg := 1) hx)
      clear hx
      have hadk := cell_lt hcx
      have hk0 : (0 : Int) ≤ (k : Int) := by omega
      have hkn : (k : Int) < (n : Int) := by omega
      obtain ⟨kb1, kb2⟩ := keyedF_bd key [(k : Int)]
      have hVe := hide (show encV key (1) k x = (x + keyedF key [(k : Int)] % 256) % 256 by unfold encV; omega)
      go_wp2_with fail
      go_region_held3 (fun w' => w'.cell? (ad.add k) = some (.int .u8 x)) (((try dsimp only); (repeat' apply And.intro); all_goals (first | assumption | (go_keep; done) | (simp [*]; done))))
        (first
          | (go_at_call 65; refine (specKeyedHash_any (l := [(k : Int)]) (Rd.drew_ (Rd.one _ _ _)) (by omega) (fun y hy => by rcases List.mem_singleton.1 hy with rfl; exact ⟨by omega, by omega⟩) hkey).mono ?_; rintro e w1 ⟨rfl, hb_w1⟩; have hs_w1 := hb_w1.size; obtain ⟨hc_w1, hf_w1⟩ := bcell hb_w1; (try simp only [World.size_drew, World.heap_drewN] at hc_w1 hf_w1); (try simp at hs_w1); (try have z_ : wr.heap.size ≤ w1.heap.size := (by omega)); (try (have z_ : wr.heap.size < w1.heap.size := (by omega); have y_ : ¬ wr.heap.size = w1.heap.size := (by omega); have x_ : ¬ w1.heap.size = wr.heap.size := (by omega))); (try (have z_ : wr.heap.size + 1 < w1.heap.size := (by omega); have y_ : ¬ wr.heap.size + 1 = w1.heap.size := (by omega); have x_ : ¬ w1.heap.size = wr.heap.size + 1 := (by omega))); (try (have z_ : wr.heap.size + 1 + 1 < w1.heap.size := (by omega); have y_ : ¬ wr.heap.size + 1 + 1 = w1.heap.size := (by omega); have x_ : ¬ w1.heap.size = wr.heap.size + 1 + 1 := (by omega))); (try (have z_ : wr.heap.size + 1 + 1 + 1 < w1.heap.size := (by omega); have y_ : ¬ wr.heap.size + 1 + 1 + 1 = w1.heap.size := (by omega); have x_ : ¬ w1.heap.size = wr.heap.size + 1 + 1 + 1 := (by omega))); (try (have z_ : wr.heap.size + 1 + 1 + 1 + 1 < w1.heap.size := (by omega); have y_ : ¬ wr.heap.size + 1 + 1 + 1 + 1 = w1.heap.size := (by omega); have x_ : ¬ w1.heap.size = wr.heap.size + 1 + 1 + 1 + 1 := (by omega))); (refine lay (p := w1.cell? (ad.add k) = some (.int .u8 x)) ?_ ?_; (focus (refine (hb_w1.cell ?_).trans ?_; (focus (first | omega | (simp <;> omega) | (simp at * <;> omega))); (first | assumption | (simp only [World.cell?_drew, World.cell?_drewN]; assumption) | (simp; done) | (refine (World.cell?_alloc_lt _ _ _ ?_).trans ?_; (focus (first | omega | (simp <;> omega) | (simp at * <;> omega))); first | assumption | (simp only [World.cell?_drew, World.cell?_drewN]; assumption)) | (refine (World.cell?_alloc_lt _ _ _ ?_).trans ((World.cell?_alloc_lt _ _ _ ?_).trans ?_); (focus (first | omega | (simp <;> omega) | (simp at * <;> omega))); (focus (first | omega | (simp <;> omega) | (simp at * <;> omega))); first | assumption | (simp only [World.cell?_drew, World.cell?_drewN]; assumption))))); intro c_))
          | (first | (refine step_app2 (B := w.heap.size) (w0 := w) _ rfl (.tmp 14) (.tmp 28) 22 rfl 5 iByte (.int .u8 0) 1 1 Try.underlying22 hiByte hzByte0 hzByte1 hzByte2 rfl (Nat.le_refl _) rfl (own_below ho ?_) rfl (Rd.one _ _ _) (u8s_one [_]) ?_ ?_ rfl rfl ?_ ?_ ?_ ?_ ?_; (focus (repeat (first | exact Below.refl _ _ | assumption | refine Below.next_ ?_ ?_ (by assumption) | refine Below.drew ?_ | refine below_drewN ?_ _ | refine Below.alloc ?_ ?_ _ | refine Below.setCell ?_ ?_ _ | omega | (simp <;> omega) | (simp at * <;> omega)))); (focus (unfold maxLen; omega)); (focus omega); (focus (repeat (first | exact Below.refl _ _ | assumption | refine Below.next_ ?_ ?_ (by assumption) | refine Below.drew ?_ | refine below_drewN ?_ _ | refine Below.alloc ?_ ?_ _ | refine Below.setCell ?_ ?_ _ | omega | (simp <;> omega) | (simp at * <;> omega)))); (focus (first | omega | (simp <;> omega) | (simp at * <;> omega))); (focus (exact Nat.le_refl _)); (focus (first | omega | (simp <;> omega) | (simp at * <;> omega))); intro A2 c2 w2 ho2 hb2 hg2 hat2; have c2_ := (hb2.cell hadw).trans hcw) | (refine step_app2 (B := w.heap.size) (w0 := w) _ rfl (.tmp 14) (.tmp 28) 22 rfl 5 iByte (.int .u8 0) 1 1 Try.underlying22 hiByte hzByte0 hzByte1 hzByte2 rfl (Nat.le_refl _) rfl (own_below ho ?_) rfl (Rd.drew_ (Rd.one _ _ _)) (u8s_one [_]) ?_ ?_ rfl rfl ?_ ?_ ?_ ?_ ?_; (focus (repeat (first | exact Below.refl _ _ | assumption | refine Below.next_ ?_ ?_ (by assumption) | refine Below.drew ?_ | refine below_drewN ?_ _ | refine Below.alloc ?_ ?_ _ | refine Below.setCell ?_ ?_ _ | omega | (simp <;> omega) | (simp at * <;> omega)))); (focus (unfold maxLen; omega)); (focus omega); (focus (repeat (first | exact Below.refl _ _ | assumption | refine Below.next_ ?_ ?_ (by assumption) | refine Below.drew ?_ | refine below_drewN ?_ _ | refine Below.alloc ?_ ?_ _ | refine Below.setCell ?_ ?_ _ | omega | (simp <;> omega) | (simp at * <;> omega)))); (focus (first | omega | (simp <;> omega) | (simp at * <;> omega))); (focus (exact Nat.le_refl _)); (focus (first | omega | (simp <;> omega) | (simp at * <;> omega))); intro A2 c2 w2 ho2 hb2 hg2 hat2; have c2_ := (hb2.cell hadw).trans hcw) | (refine step_app2 (B := w.heap.size) (w0 := w) _ rfl (.tmp 14) (.tmp 28) 22 rfl 5 iByte (.int .u8 0) 1 1 Try.underlying22 hiByte hzByte0 hzByte1 hzByte2 rfl (Nat.le_refl _) rfl (own_below ho ?_) rfl (Rd.drew_ (Rd.drew_ (Rd.one _ _ _))) (u8s_one [_]) ?_ ?_ rfl rfl ?_ ?_ ?_ ?_ ?_; (focus (repeat (first | exact Below.refl _ _ | assumption | refine Below.next_ ?_ ?_ (by assumption) | refine Below.drew ?_ | refine below_drewN ?_ _ | refine Below.alloc ?_ ?_ _ | refine Below.setCell ?_ ?_ _ | omega | (simp <;> omega) | (simp at * <;> omega)))); (focus (unfold maxLen; omega)); (focus omega); (focus (repeat (first | exact Below.refl _ _ | assumption | refine Below.next_ ?_ ?_ (by assumption) | refine Below.drew ?_ | refine below_drewN ?_ _ | refine Below.alloc ?_ ?_ _ | refine Below.setCell ?_ ?_ _ | omega | (simp <;> omega) | (simp at * <;> omega)))); (focus (first | omega | (simp <;> omega) | (simp at * <;> omega))); (focus (exact Nat.le_refl _)); (focus (first | omega | (simp <;> omega) | (simp at * <;> omega))); intro A2 c2 w2 ho2 hb2 hg2 hat2; have c2_ := (hb2.cell hadw).trans hcw)))
      go_wp2_with fail
      go_roundw
      case rel =>
        refine ⟨k + 1, A2, c2, by omega, by go_num, rfl, ?_, hb2⟩
        rw [HX.out, u8s_snoc, hVe.out]
        exact last_eq ho2 (by first | exact encE hx1 hx2 kb1 kb2 | exact decE hx1 hx2 kb1 kb2)
      case measure => simp [intOf]; omega
    · have hkn : k = n := by omega
      subst hkn
      go_wp2_with fail
      go_ret
      have := HL.out
      exact ⟨_, _, rfl, by rw [List.take_of_length_le (by omega)] at ho; exact ho, hb⟩
set_option maxHeartbeats 4000000 in
theorem shifted_any {A : Option Addr} {n c : Nat} {l : List Int} {key sg : Int} {w : World} (h : Rd w 1 A n (u8s l)) (hn : n ≤ 274877906944) (hB : ∀ x ∈ l, 0 ≤ x ∧ x ≤ 255) (hkey : I64 key) (hsg : sg = 1 ∨ sg = -1) :
    Calls Try.prog 66 #[.int .i64 key, .slice A n c, .int .i64 sg] w fun e w' => ∃ B d, e = .returned (.slice B n d) ∧ w'.ownsRow w.heap.size 5 1 (.slice B n d) n (u8s (ciph key sg l)) ∧ Below w.heap.size w w' := by
  obtain ⟨iByte, hiByte, hzByte0, hzByte1, hzByte2⟩ := info_parts Byte_info
  have HL := hide (show l.length = n from h.maplen)
  go_enter Try.func66, Try.ntmps66
  go_wp2_with (go_at_call 69; refine (copyBytes_any h (by omega)).mono ?_; rintro e w1 ⟨B, d, rfl, ho1, hb1⟩)
  have ho0 : w1.ownsRow w.heap.size 5 1 (.slice B n d) n (u8s (ciph key sg (l.take 0) ++ l.drop 0)) := by simpa [ciph] using ho1
  clear ho1
  go_loopw [13] (fun i wr => ∃ k : Nat, k ≤ n ∧ i = .int .i64 k ∧ wr.ownsRow w.heap.size 5 1 (.slice B n d) n (u8s (ciph key sg (l.take k) ++ l.drop k)) ∧ Below w.heap.size w wr) (fun i _ => n - (intOf i).toNat)
  case atStart => exact ⟨0, Nat.zero_le _, rfl, ho0, hb1⟩
  case round =>
    clear ho0
    obtain ⟨k, hk, rfl, ho, hb⟩ := hrel
    have hz := hb.size
    have hL := HL.out
    by_cases hlt : k < n
    · obtain ⟨g, u, rfl, hg, hu, hcx, hfx⟩ := own_at ho hlt
      obtain ⟨x, hx⟩ : ∃ x, l[k]? = some x := ⟨l[k], List.getElem?_eq_getElem (by omega)⟩
      have hux : u = .int .u8 x := by
        have e : (ciph key sg (l.take k) ++ l.drop k)[k]? = some x := by
          rw [List.getElem?_append_right (by rw [ciph_length, List.length_take]; omega), ciph_length, List.length_take, Nat.min_eq_left (by omega), Nat.sub_self, List.getElem?_drop, Nat.add_zero]; exact hx
        rw [u8s, List.getElem?_map, e] at hu
        simpa using hu.symm
      subst hux
      clear hu
      have hgs := cell_lt hcx
      obtain ⟨hx1, hx2⟩ := hB x (List.mem_of_getElem? hx)
      have HX := hide (ciph_step (key := key) (sg := sg) hx)
      clear hx
      have HL' := hide hL
      clear hL
      have hk0 : (0 : Int) ≤ (k : Int) := by omega
      have hkn : (k : Int) < (n : Int) := by omega
      obtain ⟨kb1, kb2⟩ := keyedF_bd key [(k : Int)]
      go_wp2_with fail
      go_region_with (first
        | (go_at_call 39; refine (implKeyedHash_any (l := [(k : Int)]) (by first | exact Rd.one _ _ _ | exact Rd.drew_ (Rd.one _ _ _)) (by omega) (fun y hy => by rcases List.mem_singleton.1 hy with rfl; exact ⟨by omega, by omega⟩) hkey).mono ?_; rintro e w2 ⟨rfl, hb_w2⟩; have hs_w2 := hb_w2.size; obtain ⟨hc_w2, hf_w2⟩ := bcell hb_w2; (try simp only [World.size_drew, World.heap_drewN] at hc_w2 hf_w2); (try simp at hs_w2); (try have z_ : wr.heap.size ≤ w2.heap.size := (by omega)); (try (have z_ : wr.heap.size < w2.heap.size := (by omega); have y_ : ¬ wr.heap.size = w2.heap.size := (by omega); have x_ : ¬ w2.heap.size = wr.heap.size := (by omega))); (try (have z_ : wr.heap.size + 1 < w2.heap.size := (by omega); have y_ : ¬ wr.heap.size + 1 = w2.heap.size := (by omega); have x_ : ¬ w2.heap.size = wr.heap.size + 1 := (by omega))); (try (have z_ : wr.heap.size + 1 + 1 < w2.heap.size := (by omega); have y_ : ¬ wr.heap.size + 1 + 1 = w2.heap.size := (by omega); have x_ : ¬ w2.heap.size = wr.heap.size + 1 + 1 := (by omega))); (try (have z_ : wr.heap.size + 1 + 1 + 1 < w2.heap.size := (by omega); have y_ : ¬ wr.heap.size + 1 + 1 + 1 = w2.heap.size := (by omega); have x_ : ¬ w2.heap.size = wr.heap.size + 1 + 1 + 1 := (by omega))); (try (have z_ : wr.heap.size + 1 + 1 + 1 + 1 < w2.heap.size := (by omega); have y_ : ¬ wr.heap.size + 1 + 1 + 1 + 1 = w2.heap.size := (by omega); have x_ : ¬ w2.heap.size = wr.heap.size + 1 + 1 + 1 + 1 := (by omega))); (refine lay (p := w2.cell? ⟨g, k, none⟩ = some (.int .u8 x)) ?_ ?_; (focus (refine (hb_w2.cell ?_).trans ?_; (focus (first | omega | (simp <;> omega) | (simp at * <;> omega))); (first | assumption | (simp only [World.cell?_drew, World.cell?_drewN]; assumption) | (simp; done) | (refine (World.cell?_alloc_lt _ _ _ ?_).trans ?_; (focus (first | omega | (simp <;> omega) | (simp at * <;> omega))); first | assumption | (simp only [World.cell?_drew, World.cell?_drewN]; assumption)) | (refine (World.cell?_alloc_lt _ _ _ ?_).trans ((World.cell?_alloc_lt _ _ _ ?_).trans ?_); (focus (first | omega | (simp <;> omega) | (simp at * <;> omega))); (focus (first | omega | (simp <;> omega) | (simp at * <;> omega))); first | assumption | (simp only [World.cell?_drew, World.cell?_drewN]; assumption))))); intro c_); have ho2 := own_below ho (show Below wr.heap.size wr w2 by repeat (first | exact Below.refl _ _ | assumption | refine Below.next_ ?_ ?_ (by assumption) | refine Below.drew ?_ | refine below_drewN ?_ _ | refine Below.alloc ?_ ?_ _ | refine Below.setCell ?_ ?_ _ | omega | (simp <;> omega) | (simp at * <;> omega))); obtain ⟨u_, hu_, cu_, f_⟩ := own_at_ ho2 hlt; clear hu_ cu_)
        | (go_at_call 80; refine (implMod_any _ _ _ (i64_lo _) (i64_hi _)).mono ?_; rintro e w_ ⟨rfl, rfl⟩))
      all_goals (
        go_wp2_with fail
        go_roundw
        case rel => exact ⟨k + 1, by omega, by go_num, cip_set (own_below ho2 (by repeat (first | exact Below.refl _ _ | assumption | refine Below.next_ ?_ ?_ (by assumption) | refine Below.drew ?_ | refine below_drewN ?_ _ | refine Below.alloc ?_ ?_ _ | refine Below.setCell ?_ ?_ _ | omega | (simp <;> omega) | (simp at * <;> omega)))) HL'.out hlt HX.out (by first | exact shE hx1 hx2 kb1 kb2 hsg | exact shE2 hx1 hx2 kb1 kb2 hsg), by repeat (first | exact Below.refl _ _ | assumption | refine Below.next_ ?_ ?_ (by assumption) | refine Below.drew ?_ | refine below_drewN ?_ _ | refine Below.alloc ?_ ?_ _ | refine Below.setCell ?_ ?_ _ | omega | (simp <;> omega) | (simp at * <;> omega))⟩
        case measure => simp [intOf]; omega)
    · have hkn : k = n := by omega
      subst hkn
      clear hL
      go_wp2_with fail
      go_ret
      have := HL.out
      exact ⟨_, _, rfl, by rw [List.take_of_length_le (by omega), List.drop_of_length_le (by omega), List.append_nil] at ho; exact ho, hb⟩
theorem implEncrypt_any {A : Option Addr} {n c : Nat} {l : List Int} {key : Int} {w : World} (h : Rd w 1 A n (u8s l)) (hn : n ≤ 274877906944) (hB : ∀ x ∈ l, 0 ≤ x ∧ x ≤ 255) (hkey : I64 key) :
    Calls Try.prog 17 #[.int .i64 key, .slice A n c] w fun e w' => ∃ B d, e = .returned (.slice B n d) ∧ w'.ownsRow w.heap.size 5 1 (.slice B n d) n (u8s (ciph key (1) l)) ∧ Below w.heap.size w w' := by
  go_enter Try.func17, Try.ntmps17
  go_wp2_with (go_at_call 66; refine (shifted_any (sg := 1) h hn hB hkey (Or.inl rfl)).mono ?_; rintro e w1 ⟨B, d, rfl, ho1, hb1⟩)
  go_ret
  exact ⟨_, _, rfl, ho1, hb1⟩
theorem implDecrypt_any {A : Option Addr} {n c : Nat} {l : List Int} {key : Int} {w : World} (h : Rd w 1 A n (u8s l)) (hn : n ≤ 274877906944) (hB : ∀ x ∈ l, 0 ≤ x ∧ x ≤ 255) (hkey : I64 key) :
    Calls Try.prog 26 #[.int .i64 key, .slice A n c] w fun e w' => ∃ B d, e = .returned (.slice B n d) ∧ w'.ownsRow w.heap.size 5 1 (.slice B n d) n (u8s (ciph key (-1) l)) ∧ Below w.heap.size w w' := by
  go_enter Try.func26, Try.ntmps26
  go_wp2_with (go_at_call 66; refine (shifted_any (sg := -1) h hn hB hkey (Or.inr rfl)).mono ?_; rintro e w1 ⟨B, d, rfl, ho1, hb1⟩)
  go_ret
  exact ⟨_, _, rfl, ho1, hb1⟩
end Go.Proofs.Ytmlkhgekacjidad
