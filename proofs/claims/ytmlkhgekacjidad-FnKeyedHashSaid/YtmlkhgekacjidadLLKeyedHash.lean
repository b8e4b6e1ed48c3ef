/- Changing one value modulo Modulus changes the keyed hash; derived keys are valid. For every input. -/
import Derived.Test.YtmlkhgekacjidadArgs
import Derived.Test.YtmlkhgekacjidadDr3
import Derived.Test.YtmlkhgekacjidadPlH
import Derived.Test.YtmlkhgekacjidadDer
import Derived.Test.YtmlkhgekacjidadKeyed
import Derived.Test.YtmlkhgekacjidadApp3
import Derived.StillTailTactics
namespace Go.Proofs.Ytmlkhgekacjidad.lawFnKeyedHash
open Go.ChangeShapes Go.WideShapes Go.ChangeAt Go.RowKit
set_option maxRecDepth 1000000
set_option linter.unusedSimpArgs false
set_option linter.unusedVariables false
theorem own : ownKnob Try.prog.godebug = none := by kernel_rfl
theorem mod_ne {y c : Int} (h0 : 1 ≤ c) (h1 : c ≤ 256) : modI (y + c) 2147483647 % 2147483647 ≠ y % 2147483647 := by
  rw [modI_of (by omega) (by omega)]
  omega
theorem set_I64 {l : List Int} {j : Nat} {v : Int} (h : ∀ x ∈ l, I64 x) (hv : I64 v) : ∀ x ∈ l.set j v, I64 x := by
  intro x hx
  rcases List.mem_or_eq_of_mem_set hx with h' | h'
  · exact h x h'
  · exact h' ▸ hv
set_option maxHeartbeats 8000000 in
theorem law_any {v0 : Value} {W : World} (i0 : InBytes W v0) (w : World) (hWw : w = W) :
    Calls Try.prog 8 #[v0] w fun e w' => e = .returned (.bool true) ∧ Below w.heap.size w w' := by
  subst hWw
  obtain ⟨A0, n0, c0, l0, rfl, hn0, hr0, hI0⟩ := i0
  obtain ⟨iInt, hiInt, hzInt0, hzInt1, hzInt2⟩ := info_parts Int_info
  by_cases hg0 : n0 ≤ 1048576
  rotate_left
  · have hg0' : (1048576 : Int) < (n0 : Int) := by omega
    go_enter Try.func8, Try.ntmps8
    go_wp2_with fail
    refine (big_any _).mono ?_
    rintro e _ ⟨rfl, rfl⟩
    go_wp2_with fail
    go_ret
    exact ⟨rfl, by repeat (first | exact Below.refl _ _ | assumption | refine Below.next_ ?_ ?_ (by assumption) | refine Below.drew ?_ | refine below_drewN ?_ _ | refine Below.alloc ?_ ?_ _ | refine Below.setCell ?_ ?_ _ | omega | (dsimp only; omega) | (simp <;> omega) | (simp at * <;> omega))⟩
  have hg0' : ¬ (1048576 : Int) < (n0 : Int) := by omega
  go_enter Try.func8, Try.ntmps8
  go_wp2_with fail
  refine (big_any _).mono ?_
  rintro e _ ⟨rfl, rfl⟩
  go_wp2_with fail
  refine (DrawKeyedHash_any hr0 hg0 hI0).mono ?_
  rintro e w1 ⟨k, B, m, d, rfl, hk, hm, bl, ho, hbl, hb1⟩
  have hz1 := hb1.size
  have hblI : ∀ x ∈ bl, I64 x := fun x hx => ⟨by have := hbl x hx; omega, by have := hbl x hx; omega⟩
  have HLEN := hide (show bl.length = m from (Rd.of_own ho).len)
  have HBL := hide hbl
  clear hbl
  go_wp2_with fail
  refine (implKeyedHash_any (Rd.of_own ho) (by omega) hblI hk).mono ?_
  rintro e w2 ⟨rfl, hb2⟩
  have hz2 := hb2.size
  obtain ⟨kb1, kb2⟩ := keyedF_bd k bl
  have hk1 : ¬ keyedF k bl < 0 := by omega
  have hk2 : ¬ (2147483647 : Int) ≤ keyedF k bl := by omega
  have ho29 := World.ownsRow_lit (base := w2.heap.size) (e := 3) (size := 1) w2 #[.int .i64 k] 1 (Nat.le_refl _) (by unfold maxLen; omega) rfl
  have hb29 := (Below.refl w2.heap.size w2).alloc (Nat.le_refl _) (.cells #[.int .i64 k] 3)
  have hr30 := ((Rd.of_own ho).below hb2).below hb29
  have hkI : ∀ x ∈ k :: bl ++ [k], I64 x := by
    intro x hx
    simp at hx
    rcases hx with rfl | hx | rfl
    · exact hk
    · exact hblI x hx
    · exact hk
  go_wp2_with (first | (at_builtin; refine wpList_app3 _ (by first | rfl | (simp [Region.wanted, yielded]; omega)) (.tmp 29) (.tmp 30) 34 rfl 3 iInt (.int .i64 0) 1 8 Try.underlying34 hiInt hzInt0 hzInt1 hzInt2 rfl (by omega) rfl ho29 rfl hr30 (ints_one _) (by unfold maxLen; omega) (by omega) rfl (show [Value.int .i64 k] ++ ints bl = ints (k :: bl) from rfl) hb29 (by simp) (Nat.le_refl _) (by simp) ?_; intro A3 c3 w3 ho3 hb3 hg3 hat3) | (at_builtin; refine wpList_app3 _ (by first | rfl | (simp [Region.wanted, yielded]; omega)) (.tmp 31) (.tmp 33) 34 rfl 3 iInt (.int .i64 0) 1 8 Try.underlying34 hiInt hzInt0 hzInt1 hzInt2 rfl (by omega) rfl (ho3.alloc _) rfl (Rd.one _ _ _) (ints_one [_]) (by unfold maxLen; omega) (by omega) rfl (show ints (k :: bl) ++ [Value.int .i64 k] = ints (k :: bl ++ [k]) by simp [ints]) (hb3.alloc hb3.size _) (by have := hb3.size; simp; omega) (Nat.le_refl _) (by have := hb3.size; simp; omega) ?_; intro A4 c4 w4 ho4 hb4 hg4 hat4))
  refine (implHash_any (Rd.of_own ho4) (by omega) hkI).mono ?_
  rintro e _ ⟨rfl, q4, rfl⟩
  rw [show hashF (k :: bl ++ [k]) = keyedF k bl from rfl]
  have hz4 := hb4.size
  have hb5 : Below w2.heap.size w2 (w4.drewN q4) := below_drewN hb4 _
  obtain ⟨w5, hw5⟩ : ∃ w5, w4.drewN q4 = w5 := ⟨_, rfl⟩
  rw [hw5] at hb5 ⊢
  have hz5 := hb5.size
  clear ho3 hb3 hg3 hat3 ho4 hb4 hg4 hat4 ho29 hb29 hr30 hw5 hz4
  have hbA : Below w.heap.size w w5 := by repeat (first | exact Below.refl _ _ | assumption | refine Below.next_ ?_ ?_ (by assumption) | refine Below.drew ?_ | refine below_drewN ?_ _ | refine Below.alloc ?_ ?_ _ | refine Below.setCell ?_ ?_ _ | omega | (dsimp only; omega) | (simp <;> omega) | (simp at * <;> omega))
  have hrB : Rd w5 1 B m (ints bl) := ((Rd.of_own ho).below hb2).below hb5
  clear hb1 hb2 hb5
  by_cases hm0 : m = 0
  · have hmz : ¬ (0 : Int) < (m : Int) := by omega
    go_wp2_with fail
    refine (DrawDeriveFromString_any (hr0.below (by repeat (first | exact Below.refl _ _ | assumption | refine Below.next_ ?_ ?_ (by assumption) | refine Below.drew ?_ | refine below_drewN ?_ _ | refine Below.alloc ?_ ?_ _ | refine Below.setCell ?_ ?_ _ | omega | (dsimp only; omega) | (simp <;> omega) | (simp at * <;> omega)))) hg0 hI0).mono ?_
    rintro e w20 ⟨key, s, rfl, hkey, hs, hb20⟩
    go_wp2_with fail
    refine (implDeriveFromString_any (by omega) hkey).mono ?_
    rintro e w21 ⟨rfl, hb21⟩
    have hz20 := hb20.size
    have hz21 := hb21.size
    go_wp2_with fail
    refine (implIsValidKey_any _ _).mono ?_
    rintro e _ ⟨rfl, rfl⟩
    go_wp2_with fail
    go_ret
    exact ⟨ret_b (inR_true.2 (deriveF_bd _ _)), by repeat (first | exact Below.refl _ _ | assumption | refine Below.next_ ?_ ?_ (by assumption) | refine Below.drew ?_ | refine below_drewN ?_ _ | refine Below.alloc ?_ ?_ _ | refine Below.setCell ?_ ?_ _ | omega | (dsimp only; omega) | (simp <;> omega) | (simp at * <;> omega))⟩
  · have hmp : (0 : Int) < (m : Int) := by omega
    have ho41 := World.ownsRow_lit (base := w5.heap.size) (e := 3) (size := 1) w5 #[] 0 (Nat.le_refl _) (by unfold maxLen; omega) rfl
    have hb41 := (Below.refl w5.heap.size w5).alloc (Nat.le_refl _) (.cells #[] 3)
    have hr42 := hrB.below hb41
    go_wp2_with (at_builtin; refine wpList_app2 _ rfl (.tmp 41) (.tmp 42) 34 rfl 3 iInt (.int .i64 0) 1 8 Try.underlying34 hiInt hzInt0 hzInt1 hzInt2 rfl (by omega) rfl ho41 rfl hr42 (ints_one _) (by unfold maxLen; omega) (by omega) (Nat.zero_add m) rfl hb41 (by simp) (Nat.le_refl _) (by simp) ?_; intro A6 c6 w6 ho6 hb6 hg6 hat6)
    have hz6 := hb6.size
    clear ho41 hb41 hr42 hg6 hat6
    have hb6' : Below w.heap.size w w6 := by repeat (first | exact Below.refl _ _ | assumption | refine Below.next_ ?_ ?_ (by assumption) | refine Below.drew ?_ | refine below_drewN ?_ _ | refine Below.alloc ?_ ?_ _ | refine Below.setCell ?_ ?_ _ | omega | (dsimp only; omega) | (simp <;> omega) | (simp at * <;> omega))
    refine (at_any (hr0.below hb6') hg0 hI0 (by omega) (by omega)).mono ?_
    rintro e _ ⟨x, rfl, hx0, hx1, rfl⟩
    have hx2 : 0 ≤ x % (m : Int) := Int.emod_nonneg _ (by omega)
    have hx3 : x % (m : Int) < (m : Int) := Int.emod_lt_of_pos _ (by omega)
    obtain ⟨j, hj⟩ : ∃ j : Nat, x % (m : Int) = (j : Int) := ⟨(x % (m : Int)).toNat, by omega⟩
    have hjm : j < m := by omega
    have hj0 : (0 : Int) ≤ (j : Int) := by omega
    have hjm' : (j : Int) < (m : Int) := by omega
    have hmz : ¬ m = 0 := by omega
    clear hx2 hx3
    simp only [List.nil_append, Array.toList] at ho6
    obtain ⟨g, u, rfl, hg0_, hu, hcu, hfu⟩ := own_at ho6 hjm
    obtain ⟨y, hy, rfl⟩ := map_at hu
    have hyb := HBL.out y (List.mem_of_getElem? hy)
    have HY := hide hy
    clear hu hy
    go_wp2_with fail
    obtain ⟨hx20, hx21⟩ := atF_bd hI0 1
    have hy1 : wrap64 (y + 1) = y + 1 := by simp only [wrap64]; omega
    have hy2 : wrap64 (y + 1 + atF l0 1) = y + 1 + atF l0 1 := by simp only [wrap64]; omega
    have hy3 : IntKind.i64.wrap (y + 1) = y + 1 := by simp only [IntKind.wrap_i64]; omega
    have hy4 : IntKind.i64.wrap (y + 1 + atF l0 1) = y + 1 + atF l0 1 := by simp only [IntKind.wrap_i64]; omega
    refine wp_region_still_tail 12 (by kernel_rfl) (by kernel_rfl) ?_
    simp only [List.take_succ_cons, List.take_zero, List.drop_succ_cons, List.drop_zero]
    repeat still_step
    still_call ((at_f (hr0.below (show Below w.heap.size w (World.drew w6) by repeat (first | exact Below.refl _ _ | assumption | refine Below.next_ ?_ ?_ (by assumption) | refine Below.drew ?_ | refine below_drewN ?_ _ | refine Below.alloc ?_ ?_ _ | refine Below.setCell ?_ ?_ _ | omega | (dsimp only; omega) | (simp <;> omega) | (simp at * <;> omega)))) hg0 hI0 (i := 1) (by omega)).mono fun _ _ h => ⟨h.1, h.2.symm⟩)
    repeat still_step
    still_call ((specMod_any _ _ _ (by omega) (by omega)).mono fun _ _ h => ⟨h.1, h.2.symm⟩)
    repeat still_step
    try refine wpStill_nil ?_
    change wpList _ _ _ _ _ w6.drew
    have ho7 : w6.drew.ownsRow w5.heap.size 3 1 (.slice (some ⟨g, 0, none⟩) m c6) m (ints bl) := ho6
    have hcu7 : w6.drew.cell? ⟨g, j, none⟩ = some (.int .i64 y) := hcu
    have hfu7 : w6.drew.frozen? ⟨g, j, none⟩ = false := hfu
    have hb7 : Below w.heap.size w w6.drew := hb6'.drew
    have hb75 : Below w5.heap.size w5 w6.drew := hb6.drew
    clear ho6 hcu hfu hb6' hb6
    generalize w6.drew = w7 at *
    have hz7 := hb7.size
    have hz75 := hb75.size
    have hset := (own_set ho7 j (.int .i64 (modI (y + 1 + atF l0 1) 2147483647))).1
    have hbs : Below w.heap.size w (w7.setCell ⟨g, j, none⟩ (.int .i64 (modI (y + 1 + atF l0 1) 2147483647))) := hb7.setCell (p := ⟨g, j, none⟩) (by show w.heap.size ≤ g; omega) _
    rw [show (ints bl).set j (.int .i64 (modI (y + 1 + atF l0 1) 2147483647)) = ints (bl.set j (modI (y + 1 + atF l0 1) 2147483647)) by simp [ints, List.map_set]] at hset
    have hne := keyedF_set (k := k) HY.out (mod_ne (y := y) (c := 1 + atF l0 1) (by omega) (by omega))
    rw [← Int.add_assoc] at hne
    have HNE := hide (show (keyedF k (bl.set j (modI (y + 1 + atF l0 1) 2147483647)) == keyedF k bl) = false by simpa using hne)
    have hVI := modM_bd (y + 1 + atF l0 1)
    clear hne
    go_wp2_with fail
    refine (implKeyedHash_any (l := bl.set j (modI (y + 1 + atF l0 1) 2147483647)) (Rd.of_own hset) (by omega) (set_I64 hblI ⟨by omega, by omega⟩) hk).mono ?_
    rintro e w8 ⟨rfl, hb8⟩
    have hz8 := hb8.size
    simp at hz8
    have hb8' : Below w.heap.size w w8 := Below.next_ hbs (by simp; omega) hb8
    clear hset hbs hb8
    have hq := HNE.out
    generalize keyedF k (bl.set j (modI (y + 1 + atF l0 1) 2147483647)) = K2 at hq ⊢
    generalize keyedF k bl = K1 at hq ⊢
    go_wp2_with fail
    refine (DrawDeriveFromString_any (hr0.below (by repeat (first | exact Below.refl _ _ | assumption | refine Below.next_ ?_ ?_ (by assumption) | refine Below.drew ?_ | refine below_drewN ?_ _ | refine Below.alloc ?_ ?_ _ | refine Below.setCell ?_ ?_ _ | omega | (dsimp only; omega) | (simp <;> omega) | (simp at * <;> omega)))) hg0 hI0).mono ?_
    rintro e w20 ⟨key, s, rfl, hkey, hs, hb20⟩
    go_wp2_with fail
    refine (implDeriveFromString_any (by omega) hkey).mono ?_
    rintro e w21 ⟨rfl, hb21⟩
    have hz20 := hb20.size
    have hz21 := hb21.size
    go_wp2_with fail
    refine (implIsValidKey_any _ _).mono ?_
    rintro e _ ⟨rfl, rfl⟩
    go_wp2_with fail
    go_ret
    exact ⟨ret_b (inR_true.2 (deriveF_bd _ _)), by repeat (first | exact Below.refl _ _ | assumption | refine Below.next_ ?_ ?_ (by assumption) | refine Below.drew ?_ | refine below_drewN ?_ _ | refine Below.alloc ?_ ?_ _ | refine Below.setCell ?_ ?_ _ | omega | (dsimp only; omega) | (simp <;> omega) | (simp at * <;> omega))⟩

theorem lifted (os : Os) (started : os.Started) (H : Type) (enc : TypeId × Value → H) :
    ReturnsInHanded {} Try.checked os 8 .any (Rows.fnKeyedHashSpec.pre6 enc Try.prog Try.f8 Rows.fnKeyedHashRow.domain false) (Rows.fnKeyedHashSpec.post enc Try.prog Try.f8 false true false false) := by
  refine returnsInHanded_of_change (C := Try.checked) own started (by kernel_rfl) Try.func8
    (ChangeSpec.witness6 (enc := enc) (C := Try.checked) false ⟨#[], #[.slice none 0 0], []⟩ 8 (by kernel_rfl) (by kernel_rfl) (by kernel_rfl) (by kernel_rfl)) ?_
  intro W base args ds gs before hval0 hW _ _
  have hval : ∀ (j : Nat) t v, Try.f8.params[j]? = some t → args[j]? = some v → Value.okWide Try.prog W .any base t v := hval0
  have hW' := hW
  obtain ⟨p, q, hA0, hV, rfl, _, _⟩ := hW
  have hA : DataW.TrodAll enc Try.prog W 0 (fun _ => true) true Try.f8.params.toList args.toList ds p := hA0
  have hlt : ∀ x ∈ p, x.block < W.heap.size := fun x hx => hW'.lt x (by simp [hx])
  have hkeep : ∀ W' : World, Below W.heap.size W W' → ∀ sp : Nat → Bool, (∀ x ∈ p ++ q, sp x.block = true) → DataW.TrodAll enc Try.prog W' 0 sp true Try.f8.params.toList args.toList ds p :=
    fun W' hb sp hsp => trodAll_stays laid hb _ _ _ _ (by kernel_rfl) hlt (fun x hx => hsp x (by simp [hx])) hA
  rw [Try.params8] at hA hval
  obtain ⟨v0, vs0, d0, ds0, p0, q0, hargs, rfl, rfl, h0, r0⟩ := trodAll_cons hA
  obtain ⟨rfl, rfl, rfl⟩ := trodAll_nil r0
  obtain rfl : args = #[v0] := by cases args; simp_all
  obtain ⟨rfl, rfl⟩ := trodVars_none hV
  have i0 : InBytes W v0 := InBytes.of (hval 0 22 v0 rfl rfl) h0
  refine (law_any i0 W rfl).mono fun e W' ⟨he, hb⟩ => ?_
  subst he
  exact ⟨_, rfl, post_of_below (pv := []) hW' (fun _ _ _ => (trodAll_cons_mk (shut_bool Try.underlying4 _) trodAll_mk0)) (hkeep W' hb) (fun _ _ => rfl) rfl
    hb (ok_one (by kernel_rfl) rfl (okWide_bool_mk Try.underlying4 _))⟩

theorem over : Rows.fnKeyedHashRow.holds Try.pinned (OpenSpec.ofChange Rows.fnKeyedHashSpec) :=
  OpenClaim.holds_of_wide 8 Try.f8 rfl rfl rfl rfl rfl rfl rfl ⟨rfl, rfl, rfl, rfl, rfl⟩ rfl rfl rfl rfl rfl (by kernel_rfl) Try.func8 (by kernel_rfl)
    (of_decide_eq_true (by kernel_rfl)) (by unfold Func.isWrapper; first | (rw [if_pos (by decide +kernel)]; kernel_rfl) | (rw [if_neg (by decide +kernel)]; exact ⟨rfl, rfl⟩))
    (fun os started H enc _ => lifted os started H enc)

theorem proved : Rows.FnKeyedHashSaid :=
  over
#print axioms proved
end Go.Proofs.Ytmlkhgekacjidad.lawFnKeyedHash
