/-
  Proves: for every input the law FnBasics returns true, and its arguments read as before; the listed variables of the library are tied to the program's text. No condition.
-/
import Derived.Test.YthkpffmcafdmeaaDoorLiftD
import Derived.Test.YthkpffmcafdmeaaDoorBasI
import Derived.Test.YthkpffmcafdmeaaDoorGridTx
namespace Go.Proofs.YthkpffmcafdmeaaDoor.fnBasics
open Go.ChangeShapes Go.WideShapes Go.ChangeAt Go.RowKit Go.Deep
set_option linter.unusedVariables false

set_option maxRecDepth 100000 in
set_option maxHeartbeats 8000000 in
theorem walk (A0 : Option Addr) (n0 c0 : Nat) (z0 : Unit) (A1 : Option Addr) (n1 c1 : Nat) (z1 : Unit) (w : World) (h0 : Byts w A0 n0) (h1 : Byts w A1 n1) (hE : Env w) :
    Calls Tryd.prog 7 #[.slice A0 n0 c0, .slice A1 n1 c1] w fun e w' => e = .returned (.bool true) ∧ Below w.heap.size w w' := by
  have hm0 := h0.1
  have hm1 := h1.1
  have HE := Lib.hid hE
  clear hE
  by_cases hn : n0 ≤ 1048576 ∧ n1 ≤ 1048576
  rotate_left
  · have HN := Lib.hid hn
    clear hn
    go_enter Tryd.func7, Tryd.ntmps7
    go_wp2_with (go_at_call 28; refine (r8Long_yes _ _ _ _ _ _ _ hm0 hm1 HN.out).mono ?_; rintro e w' ⟨rfl, rfl⟩)
    go_ret
    exact ⟨rfl, Below.refl _ _⟩
  obtain ⟨hn0, hn1⟩ := hn
  have HH := Lib.hid (And.intro h0 h1)
  clear h0 h1
  go_enter Tryd.func7, Tryd.ntmps7
  go_wp2_with (go_at_call 28; refine (r8Long_no _ _ _ _ _ _ _ hn0 hn1).mono ?_; rintro e w' ⟨rfl, rfl⟩)
  refine (R8Numbers_d _ _ _ _ HH.out.1).mono ?_
  rintro e w1 ⟨⟨a, b, rfl, ⟨ha1, ha2⟩, hb1, hb2⟩, hbw⟩
  have HB1 := Lib.hid hbw
  clear hbw
  obtain ⟨q, hq⟩ : ∃ q, q = divN a b := ⟨_, rfl⟩
  have hnear := div_near (a := a) (b := b) hb1
  rw [← hq] at hnear
  have hqb : -10000000000 ≤ q * b ∧ q * b ≤ 10000000000 := by unfold absI at hnear; split at hnear <;> omega
  have hqq := divN_bd a b hb1
  rw [← hq] at hqq
  have hq2 : -10000000000 ≤ q ∧ q ≤ 10000000000 := by unfold absI at hqq; split at hqq <;> omega
  obtain ⟨T, hT⟩ : ∃ T, T = absI (a - q * b) := ⟨_, rfl⟩
  rw [← hT] at hnear
  have hT0 : 0 ≤ T := by rw [hT]; unfold absI; split <;> omega
  have HQ := Lib.hid (And.intro hq (And.intro hT (show divN (-a) b = -q by rw [hq]; exact div_neg hb1)))
  clear hq hT hqq
  go_wp2_with fail
  have HR : Hid (∀ W : World, Calls Tryd.prog 30 #[.int .i64 a] W fun e W' => (∃ r, e = .returned (.int .i64 r) ∧ (a < 0 → r = 0) ∧ (0 ≤ a → 0 ≤ r ∧ r ≤ 60000 ∧ r * r ≤ a ∧ a < (r + 1) * (r + 1))) ∧ Below W.heap.size W W') := by
    intro W
    by_cases h : a < 0
    · exact (RootOf_neg a W h (by omega)).mono fun e W' ⟨he, hb⟩ => ⟨⟨0, he, fun _ => rfl, fun h' => by omega⟩, hb⟩
    · exact (RootOf_b a W (by omega) ha2).mono fun e W' ⟨⟨m, he, g1, g2, g3, g4⟩, hb⟩ => ⟨⟨m, he, fun h' => by omega, fun _ => ⟨g1, g2, g3, g4⟩⟩, hb⟩
  refine (HR.out _).mono ?_
  rintro e w2 ⟨⟨r, rfl, hrn, hrp⟩, hbw⟩
  have HB2 := Lib.hid (HB1.out.trans (hbw.mono HB1.out.size))
  clear hbw HR HB1
  have hE2 := Lib.hid (HE.out.below HB2.out)
  have H1 := Lib.hid (HH.out.2.below HB2.out)
  rcases Int.lt_or_le a 0 with hneg | hpos
  case' inl => obtain rfl := hrn hneg
  case' inr =>
    obtain ⟨g1, g2, g3, g4⟩ := hrp hpos
    have g5 := Int.mul_le_mul (show r + 1 ≤ 60001 by omega) (show r + 1 ≤ 60001 by omega) (by omega) (by omega)
    have g6 := Int.mul_nonneg g1 g1
  all_goals
    clear hrn hrp
    go_wp2_with fail
    refine (DivRound_b a b _ (by omega) (by omega)).mono ?_
    rintro e w3 ⟨rfl, hbw⟩
    rw [← HQ.out.1]
    have HB3 := Lib.hid (HB2.out.trans (hbw.mono HB2.out.size))
    clear hbw
    try clear g3 g4 g5 g6
    go_wp2_with fail
    refine (r8Abs_b _ _ (by omega)).mono ?_
    rintro e w' ⟨rfl, rfl⟩
    rw [← HQ.out.2.1]
    go_wp2_with fail
    refine (DivRound_b (-a) b _ (by omega) (by omega)).mono ?_
    rintro e w4 ⟨rfl, hbw⟩
    rw [HQ.out.2.2]
    have HB4 := Lib.hid (HB3.out.trans (hbw.mono HB3.out.size))
    clear hbw
    go_wp2_with fail
    refine (r8Wide_any _ _ _ 0 1000 _ (HH.out.2.below HB4.out) hn1 (by omega) (by omega) (by omega)).mono ?_
    rintro e w' ⟨⟨x, rfl, hx1, hx2⟩, rfl⟩
    go_wp2_with fail
    refine (r8Wide_any _ _ _ 2 5000 _ (HH.out.2.below HB4.out) hn1 (by omega) (by omega) (by omega)).mono ?_
    rintro e w' ⟨⟨y', rfl, hy1, hy2⟩, rfl⟩
    go_wp2_with fail
    refine (r8Wide_any _ _ _ 4 5000 _ (HH.out.2.below HB4.out) hn1 (by omega) (by omega) (by omega)).mono ?_
    rintro e w' ⟨⟨z', rfl, hz1, hz2⟩, rfl⟩
    obtain ⟨y, hy⟩ : ∃ y, y = y' - 2500 := ⟨_, rfl⟩
    obtain ⟨z, hz⟩ : ∃ z, z = z' - 2500 := ⟨_, rfl⟩
    have hyb : -2500 ≤ y ∧ y ≤ 2500 := by omega
    have hzb : -2500 ≤ z ∧ z ≤ 2500 := by omega
    go_wp2_with fail
    try rw [← hy]
    try rw [← hz]
    obtain ⟨v, hv⟩ : ∃ v, v = lineN 0 y 1000 z x := ⟨_, rfl⟩
    have hvb := line_bd (y := y) (z := z) hx1 hx2
    rw [← hv] at hvb
    have HV := Lib.hid hv
    refine (Blend_b 0 y 1000 z x _ (by omega) (by omega) (by omega) (by omega)).mono ?_
    rintro e w5 ⟨rfl, hbw⟩
    rw [← HV.out]
    have HB5 := Lib.hid (HB4.out.trans (hbw.mono HB4.out.size))
    clear hbw hv
    have hv1 : y ≤ v ∨ z ≤ v := by have := hvb.1; split at this <;> omega
    have hv2 : v ≤ y ∨ v ≤ z := by have := hvb.2; split at this <;> omega
    clear hvb hy hz
    go_wp2_with fail
    refine (Blend_b 0 y 1000 z 0 _ (by omega) (by omega) (by omega) (by omega)).mono ?_
    rintro e w6 ⟨rfl, hbw⟩
    rw [line_0]
    have HB6 := Lib.hid (HB5.out.trans (hbw.mono HB5.out.size))
    clear hbw
    go_wp2_with fail
    refine (Blend_b 0 y 1000 z 1000 _ (by omega) (by omega) (by omega) (by omega)).mono ?_
    rintro e w7 ⟨rfl, hbw⟩
    rw [line_1000]
    have HB7 := Lib.hid (HB6.out.trans (hbw.mono HB6.out.size))
    clear hbw
    have hba : Below w7.heap.size w7 (w7.alloc (.cells #[.int .i64 a, .int .i64 b, .int .i64 x, .int .i64 y, .int .i64 z] 2)) := (Below.refl _ _).alloc (Nat.le_refl _) _
    have HF := Lib.hid (show fitsB [a, b, x, y, z] = true from fits_iff.2 ⟨by simp, by
      intro u hu
      simp only [List.mem_cons, List.not_mem_nil, or_false] at hu
      rcases hu with rfl | rfl | rfl | rfl | rfl <;> omega⟩)
    have HI := Lib.hid (show Ints (w7.alloc (.cells #[.int .i64 a, .int .i64 b, .int .i64 x, .int .i64 y, .int .i64 z] 2)) (some ⟨w7.heap.size, 0, none⟩) 5 [a, b, x, y, z] from ints_lit w7 [a, b, x, y, z] _ 2 rfl (by simp) (by
      intro u hu
      simp only [List.mem_cons, List.not_mem_nil, or_false] at hu
      rcases hu with rfl | rfl | rfl | rfl | rfl <;> omega))
    have HB8 := Lib.hid (HB7.out.trans (hba.mono HB7.out.size))
    clear hba hv1 hv2
    go_wp2_with fail
    refine (ListText_i _ 5 5 [a, b, x, y, z] _ HI.out (HE.out.below HB8.out).tab).mono ?_
    rintro e w8 ⟨rfl, hbw⟩
    rw [show lstS [a, b, x, y, z] = lstT [a, b, x, y, z] from if_pos HF.out]
    have HB9 := Lib.hid (HB8.out.trans (hbw.mono HB8.out.size))
    have HI2 := Lib.hid (HI.out.below hbw)
    clear hbw
    have hsz := lst_size HF.out
    obtain ⟨S, hS⟩ : ∃ S : ByteArray, S = ⟨(lstT [a, b, x, y, z]).toArray⟩ := ⟨_, rfl⟩
    rw [← hS] at hsz ⊢
    have HS := Lib.hid (show rl S.data.toList = some [a, b, x, y, z] by rw [hS]; exact rl_text HF.out)
    clear hS
    go_wp2_with fail
    refine (ReadList_i S _ (HE.out.below HB9.out) (by omega)).mono ?_
    rintro e w9 ⟨A9, c9, xs, rfl, hxs, ho, hbw⟩
    obtain rfl : xs = [a, b, x, y, z] := by rw [hxs, HS.out]; rfl
    have HI3 := Lib.hid (HI2.out.below hbw)
    have HB10 := Lib.hid (HB9.out.trans (hbw.mono HB9.out.size))
    have HI4 := Lib.hid (show Ints w9 A9 5 [a, b, x, y, z] from Ints.of_own ho.out HI.out.2.2.1)
    rw [show (rl S.data.toList).isSome = true by rw [HS.out]; rfl]
    clear hbw hxs ho
    go_wp2_with fail
    refine (Decimal_i a _ (HE.out.below HB10.out).tab (by omega) (by omega)).mono ?_
    rintro e w10 ⟨rfl, hbw⟩
    have HI5 := Lib.hid (And.intro (HI3.out.below hbw) (HI4.out.below hbw))
    have HB11 := Lib.hid (HB10.out.trans (hbw.mono HB10.out.size))
    have hds := decB_size a (by omega) (by omega)
    have HD := Lib.hid (rdV_some (rd_itoa (n := a) (by omega) (by omega)))
    obtain ⟨D, hD⟩ : ∃ D, D = decB a := ⟨_, rfl⟩
    rw [← hD] at hds ⊢
    have HDD := Lib.hid (show D.data.toList = Lib.itoa a by rw [hD]; rfl)
    clear hbw hD
    go_wp2_with fail
    refine (ReadDecimal_i D _ (HE.out.below HB11.out) (by omega)).mono ?_
    rintro e w11 ⟨rfl, hbw⟩
    rw [HDD.out, HD.out.1, HD.out.2]
    have HI6 := Lib.hid (And.intro (HI5.out.1.below hbw) (HI5.out.2.below hbw))
    have HB12 := Lib.hid (HB11.out.trans (hbw.mono HB11.out.size))
    clear hbw
    go_wp2_with fail
    refine (r8Same_b _ _ 5 _ _ [a, b, x, y, z] _ HI6.out.2 HI6.out.1).mono ?_
    rintro e w12 ⟨rfl, hbw⟩
    have HB13 := Lib.hid (HB12.out.trans (hbw.mono HB12.out.size))
    clear hbw
    go_wp2_with fail
    go_ret
    exact ⟨rfl, HB13.out⟩

set_option maxRecDepth 100000 in
theorem lifted (os : Os) (started : os.Started) (H : Type) (enc : TypeId × Value → H) :
    ReturnsInHanded {} Tryd.checked os 7 .any (fun w args => (Rows.fnBasicsSpec.pre enc Tryd.prog Tryd.f7 [] false w args ∧ laidMetH Tryd.prog Rows.fnBasicsRow.laid w) ∧ sizedMet enc Tryd.prog Tryd.f7 (OpenSpec.ofChange Rows.fnBasicsSpec) false w args) (Rows.fnBasicsSpec.post enc Tryd.prog Tryd.f7 false true false false) := by
  refine returns_laid (C := Tryd.checked) (X := fun w _ => laidMetH Tryd.prog Rows.fnBasicsRow.laid w) (fun _ _ _ hh h => h.of_heap hh) own started (by kernel_rfl) Tryd.func7
    (ChangeSpec.witness_shaped (enc := enc) (C := Tryd.checked) (os := os) (X := fun w _ => laidMetH Tryd.prog Rows.fnBasicsRow.laid w) false (World.laidAll Tryd.prog os tabs7) #[.slice none 0 0, .slice none 0 0] 8 (World.laidAll_os _ _ _) (all_shaped os) (by kernel_rfl) (by kernel_rfl) (by kernel_rfl) (all_met os _)) ?_
  intro W base args ds gs before hval0 hW _ _ hL hsh _
  have hT := env_ofLaid hL hsh
  clear hL hsh
  have hval : ∀ (j : Nat) t v, Tryd.f7.params[j]? = some t → args[j]? = some v → Value.okWide Tryd.prog W .any base t v := hval0
  have hW' := hW
  obtain ⟨p, q, hA0, hV, rfl, hfz, hnd⟩ := hW
  have hA : DataW.TrodAll enc Tryd.prog W 0 (fun _ => true) true Tryd.f7.params.toList args.toList ds p := hA0
  rw [Tryd.params7] at hA hval
  obtain ⟨v0, vs0, d0, ds0, p0, q0, hargs, rfl, rfl, h0, r0⟩ := trodAll_cons hA
  obtain ⟨v1, vs1, d1, ds1, p1, q1, rfl, rfl, rfl, h1, r1⟩ := trodAll_cons r0
  obtain ⟨rfl, rfl, rfl⟩ := trodAll_nil r1
  obtain rfl : args = #[v0, v1] := by cases args; simp_all
  obtain ⟨rfl, rfl⟩ := trodVars_none hV
  have k0 := h0
  have lt0 : ∀ x ∈ p0, x.block < W.heap.size := by obtain ⟨m, hm⟩ := k0; exact DataW.trod_lt m _ _ _ hm
  obtain ⟨a0, n0, c0, rfl⟩ := okWide_slice Tryd.underlying45 (hval 0 45 v0 rfl rfl)
  obtain ⟨z0, w0⟩ := bytes_open Tryd.underlying45 Tryd.underlying5 (by kernel_rfl) h0
  have k1 := h1
  have lt1 : ∀ x ∈ p1, x.block < W.heap.size := by obtain ⟨m, hm⟩ := k1; exact DataW.trod_lt m _ _ _ hm
  obtain ⟨a1, n1, c1, rfl⟩ := okWide_slice Tryd.underlying45 (hval 1 45 v1 rfl rfl)
  obtain ⟨z1, w1⟩ := bytes_open Tryd.underlying45 Tryd.underlying5 (by kernel_rfl) h1
  clear hA0 hval0
  refine (walk a0 n0 c0 z0 a1 n1 c1 z1 W w0 w1 hT).mono fun e W' ⟨he, bel⟩ => ?_
  subst he
  exact ⟨_, rfl, _, _, _, [], _, [], hW', trodAll_mk1 (shut_bool Tryd.underlying4 _), (trodAll_cons_mk (Below.trod laidOut (by kernel_rfl) (of_decide_eq_true (by kernel_rfl)) k0 bel lt0) (trodAll_cons_mk (Below.trod laidOut (by kernel_rfl) (of_decide_eq_true (by kernel_rfl)) k1 bel lt1) trodAll_mk0)), rfl, bel.frame _, fun h => by cases h⟩

theorem over : Rows.fnBasicsRow.holds Tryd.pinned (OpenSpec.ofChange Rows.fnBasicsSpec) :=
  OpenClaim.holds_of_wide 7 Tryd.f7 rfl rfl rfl rfl rfl rfl rfl ⟨rfl, rfl, rfl, rfl, rfl⟩ rfl rfl rfl rfl rfl (by kernel_rfl) Tryd.func7 (by kernel_rfl)
    (of_decide_eq_true (by kernel_rfl)) (by unfold Func.isWrapper; first | (rw [if_pos (by decide +kernel)]; kernel_rfl) | (rw [if_neg (by decide +kernel)]; exact ⟨rfl, rfl⟩))
    (fun os started H enc _ => lifted os started H enc)

/-- The statement. -/
theorem proved : Rows.FnBasicsCardSaid :=
  Claim7.holds_tied_plain_at .later [] [.data, .data, .data, .data, .sentinel, .sentinel, .pinned] true (true, "da04765a722824c07ec946a76548558b1fc9722f5084371853a7eaaaea03d127") true
    over (fun _ h => by cases h) (by kernel_rfl) (fun _ h => by cases h) fnBasics_row_tie rfl ⟨rfl, rfl⟩ (by kernel_rfl) rfl
    (fun f fn hf hfn => by
      obtain rfl : f = 7 := Option.some.inj ((show Tryd.prog.funcNamed "loop.example/g01013/laws.FnBasics" = some 7 by kernel_rfl).symm.trans hf) |>.symm
      obtain rfl : fn = Tryd.f7 := (Option.some.inj (Tryd.func7.symm.trans hfn)).symm
      exact ⟨by kernel_rfl, fun j t ht => by
        rw [Tryd.params7] at ht
        have hm : t ∈ [45, 45] := by simpa using Array.mem_of_getElem? ht
        have hall : ([45, 45].all fun u => !Tryd.prog.wantsStandIn u) = true := by kernel_rfl
        exact (show Tryd.prog.wantsStandIn t = false by simpa using List.all_eq_true.1 hall t hm)⟩)
    (by kernel_rfl)
end Go.Proofs.YthkpffmcafdmeaaDoor.fnBasics
