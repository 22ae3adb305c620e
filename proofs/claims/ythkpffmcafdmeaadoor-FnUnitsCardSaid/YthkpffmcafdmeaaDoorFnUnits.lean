/-
  Proves: for every input the law FnUnits returns true, and its arguments read as before; the listed variables of the library are tied to the program's text. No condition.
-/
import Derived.Test.YthkpffmcafdmeaaDoorLiftD
import Derived.Test.YthkpffmcafdmeaaDoorUniX
import Derived.Deep.DeepCutAuto
namespace Go.Proofs.YthkpffmcafdmeaaDoor.fnUnits
open Go.ChangeShapes Go.WideShapes Go.ChangeAt Go.RowKit Go.Deep
set_option linter.unusedVariables false

theorem b10Long_any (A : Option Addr) (n c : Nat) (w : World) (h : n ≤ 9223372036854775807) :
    Calls Tryd.prog 40 #[.slice A n c] w fun e w' => e = .returned (.bool (decide (1048576 < n))) ∧ w = w' := by
  by_cases h1 : 1048576 < n
  · have h2 : (1048576 : Int) < (n : Int) := by omega
    go_enter Tryd.func40, Tryd.ntmps40
    go_wp2_with fail
    go_ret
    exact ⟨by simp [h1], rfl⟩
  · have h2 : ¬ (1048576 : Int) < (n : Int) := by omega
    go_enter Tryd.func40, Tryd.ntmps40
    go_wp2_with fail
    go_ret
    exact ⟨by simp, rfl⟩
set_option maxRecDepth 100000 in
set_option maxHeartbeats 8000000 in
theorem walk (A0 : Option Addr) (n0 c0 : Nat) (z0 : Unit) (A1 : Option Addr) (n1 c1 : Nat) (z1 : Unit) (w : World) (h0 : Byts w A0 n0) (h1 : Byts w A1 n1) (hE : Env w) :
    Calls Tryd.prog 8 #[.slice A0 n0 c0, .slice A1 n1 c1] w fun e w' => e = .returned (.bool true) ∧ Below w.heap.size w w' := by
  have hm0 := h0.1
  have hm1 := h1.1
  have HE := Lib.hid hE
  have HH := Lib.hid (And.intro h0 h1)
  clear hE h0 h1
  by_cases hn0 : 1048576 < n0
  · go_enter Tryd.func8, Tryd.ntmps8
    go_wp2_with fail
    refine (b10Long_any _ _ _ _ hm0).mono ?_
    rintro e w' ⟨rfl, rfl⟩
    rw [decide_eq_true hn0]
    go_wp2_with fail
    go_ret
    exact ⟨rfl, Below.refl _ _⟩
  by_cases hn1 : 1048576 < n1
  · go_enter Tryd.func8, Tryd.ntmps8
    go_wp2_with fail
    refine (b10Long_any _ _ _ _ hm0).mono ?_
    rintro e w' ⟨rfl, rfl⟩
    rw [decide_eq_false hn0]
    go_wp2_with fail
    refine (b10Long_any _ _ _ _ hm1).mono ?_
    rintro e w' ⟨rfl, rfl⟩
    rw [decide_eq_true hn1]
    go_wp2_with fail
    go_ret
    exact ⟨rfl, Below.refl _ _⟩
  go_enter Tryd.func8, Tryd.ntmps8
  go_wp2_with fail
  refine (b10Long_any _ _ _ _ hm0).mono ?_
  rintro e w' ⟨rfl, rfl⟩
  rw [decide_eq_false hn0]
  go_wp2_with fail
  refine (b10Long_any _ _ _ _ hm1).mono ?_
  rintro e w' ⟨rfl, rfl⟩
  rw [decide_eq_false hn1]
  go_wp2_with fail
  refine (DrawClockText_d _ _ _ _ HH.out.1).mono ?_
  rintro e w1 ⟨⟨m, rfl, hma, hmb⟩, hbw⟩
  have HB1 := Lib.hid hbw
  clear hbw
  obtain ⟨T, bk, one, k1, k2, k3⟩ := clock_ex m ⟨hma, hmb⟩
  have HK := Lib.hid (And.intro k1 k2)
  clear k1 k2
  go_wp2_with fail
  refine (HK.out.1 _).mono ?_
  rintro e w2 ⟨rfl, hbw⟩
  have HB2 := Lib.hid (HB1.out.trans (hbw.mono HB1.out.size))
  clear hbw
  go_wp2_with fail
  refine (HK.out.2 _).mono ?_
  rintro e w3 ⟨rfl, hbw⟩
  have HB3 := Lib.hid (HB2.out.trans (hbw.mono HB2.out.size))
  clear hbw
  go_upto_region 6 with (fail)
  go_cut [60] (fun r wr => r = .bool false ∧ wr = w3)
  case first =>
    rcases k3 with ⟨rfl, rfl⟩ | ⟨e1, e2, rfl, rfl⟩
    · go_wp2_with fail
      go_meet
      exact ⟨rfl, rfl⟩
    · have e3 : (T.toList == ([] : List UInt8)) = false := by
        cases hh : T.toList with
        | nil => exact absurd hh e1
        | cons _ _ => rfl
      go_wp2_with fail
      go_meet
      exact ⟨rfl, rfl⟩
  case rest =>
  obtain ⟨rfl, rfl⟩ := hcut
  clear k3 HK
  go_wp2_with fail
  refine (DrawFixedText_d _ _ _ _ (HH.out.2.below HB3.out)).mono ?_
  rintro e w4 ⟨⟨x, y, rfl, hx, hy⟩, hbw⟩
  have HB4 := Lib.hid (HB3.out.trans (hbw.mono HB3.out.size))
  clear hbw
  obtain ⟨T2, bk2, two, k1, k2, k3⟩ := fixed_ex x y hy
  have HK := Lib.hid (And.intro k1 k2)
  clear k1 k2
  go_wp2_with fail
  refine (HK.out.1 _ (HE.out.below HB4.out)).mono ?_
  rintro e w5 ⟨rfl, hbw⟩
  have HB5 := Lib.hid (HB4.out.trans (hbw.mono HB4.out.size))
  clear hbw
  go_wp2_with fail
  refine (HK.out.2 _ (HE.out.below HB5.out)).mono ?_
  rintro e w6 ⟨rfl, hbw⟩
  have HB6 := Lib.hid (HB5.out.trans (hbw.mono HB5.out.size))
  clear hbw
  go_upto_region 11 with (fail)
  go_cut [86] (fun r wr => r = .bool false ∧ wr = w6)
  case first =>
    rcases k3 with ⟨rfl, rfl⟩ | ⟨e1, rfl, rfl⟩
    · go_wp2_with fail
      go_meet
      exact ⟨rfl, rfl⟩
    · have e3 : (T2.toList == ([] : List UInt8)) = false := by
        cases hh : T2.toList with
        | nil => exact absurd hh e1
        | cons _ _ => rfl
      go_wp2_with fail
      go_meet
      exact ⟨rfl, rfl⟩
  case rest =>
  obtain ⟨rfl, rfl⟩ := hcut
  clear k3 HK
  go_wp2_with fail
  refine (DrawSnowMass_d _ _ _ _ (HH.out.1.below HB6.out)).mono ?_
  rintro e w7 ⟨⟨hh, dd, rfl, hh1, hd1⟩, hbw⟩
  have HB7 := Lib.hid (HB6.out.trans (hbw.mono HB6.out.size))
  clear hbw
  obtain ⟨M, c, k1, k2⟩ := snow_ex hh dd hh1 hd1
  have HK := Lib.hid k1
  clear k1
  rcases k2 with rfl | ⟨rfl, k2⟩
  case' inl =>
    go_wp2_with fail
    refine (HK.out _).mono ?_
    rintro e w' ⟨rfl, rfl⟩
    go_wp2_with fail
    have HB8 := HB7
  case' inr =>
    have HK2 := Lib.hid k2
    clear k2
    go_wp2_with fail
    refine (HK.out _).mono ?_
    rintro e w' ⟨rfl, rfl⟩
    go_wp2_with fail
    refine (HK2.out _).mono ?_
    rintro e w8 ⟨rfl, hbw⟩
    have HB8 := Lib.hid (HB7.out.trans (hbw.mono HB7.out.size))
    clear hbw
    go_wp2_with fail
  all_goals
    refine (DrawBeaufortOf_d _ _ _ _ (HH.out.2.below HB8.out)).mono ?_
    rintro e w9 ⟨⟨v, rfl, hv1, hv2⟩, hbw⟩
    have HB9 := Lib.hid (HB8.out.trans (hbw.mono HB8.out.size))
    clear hbw
    obtain ⟨a, c, p, s, a', c', p', s', k1, k2, k3, k4, k5⟩ := wind_2 v ⟨hv1, hv2⟩
    have HW := Lib.hid (And.intro k1 (And.intro k2 (And.intro k3 k4)))
    clear k1 k2 k3 k4
    rcases k5 with ⟨rfl, rfl⟩ | ⟨rfl, rfl, g1, g2, g3, g4, ⟨rfl, rfl⟩ | ⟨rfl, rfl, g5, g6, g7⟩⟩ <;>
    · go_wp2_with fail
      refine (HW.out.1 _).mono ?_
      rintro e w' ⟨rfl, rfl⟩
      go_wp2_with fail
      refine (HW.out.2.2.1 _).mono ?_
      rintro e w' ⟨rfl, rfl⟩
      go_wp2_with fail
      refine (HW.out.2.1 _).mono ?_
      rintro e w10 ⟨rfl, hbw⟩
      have HB10 := Lib.hid (HB9.out.trans (hbw.mono HB9.out.size))
      clear hbw
      go_wp2_with fail
      refine (HW.out.2.2.2 _).mono ?_
      rintro e w11 ⟨rfl, hbw⟩
      have HB11 := Lib.hid (HB10.out.trans (hbw.mono HB10.out.size))
      clear hbw
      go_wp2_with fail
      go_ret
      exact ⟨rfl, HB11.out⟩

set_option maxRecDepth 100000 in
theorem lifted (os : Os) (started : os.Started) (H : Type) (enc : TypeId × Value → H) :
    ReturnsInHanded {} Tryd.checked os 8 .any (fun w args => (Rows.fnUnitsSpec.pre enc Tryd.prog Tryd.f8 [] false w args ∧ laidMetH Tryd.prog Rows.fnUnitsRow.laid w) ∧ sizedMet enc Tryd.prog Tryd.f8 (OpenSpec.ofChange Rows.fnUnitsSpec) false w args) (Rows.fnUnitsSpec.post enc Tryd.prog Tryd.f8 false true false false) := by
  refine returns_laid (C := Tryd.checked) (X := fun w _ => laidMetH Tryd.prog Rows.fnUnitsRow.laid w) (fun _ _ _ hh h => h.of_heap hh) own started (by kernel_rfl) Tryd.func8
    (ChangeSpec.witness_shaped (enc := enc) (C := Tryd.checked) (os := os) (X := fun w _ => laidMetH Tryd.prog Rows.fnUnitsRow.laid w) false (World.laidAll Tryd.prog os tabs7) #[.slice none 0 0, .slice none 0 0] 8 (World.laidAll_os _ _ _) (all_shaped os) (by kernel_rfl) (by kernel_rfl) (by kernel_rfl) (all_met os _)) ?_
  intro W base args ds gs before hval0 hW _ _ hL hsh _
  have hT := env_ofLaid hL hsh
  clear hL hsh
  have hval : ∀ (j : Nat) t v, Tryd.f8.params[j]? = some t → args[j]? = some v → Value.okWide Tryd.prog W .any base t v := hval0
  have hW' := hW
  obtain ⟨p, q, hA0, hV, rfl, hfz, hnd⟩ := hW
  have hA : DataW.TrodAll enc Tryd.prog W 0 (fun _ => true) true Tryd.f8.params.toList args.toList ds p := hA0
  rw [Tryd.params8] at hA hval
  obtain ⟨v0, vs0, d0, ds0, p0, q0, hargs, rfl, rfl, h0, r0⟩ := trodAll_cons hA
  obtain ⟨v1, vs1, d1, ds1, p1, q1, rfl, rfl, rfl, h1, r1⟩ := trodAll_cons r0
  obtain ⟨rfl, rfl, rfl⟩ := trodAll_nil r1
  obtain rfl : args = #[v0, v1] := by cases args; simp_all
  obtain ⟨rfl, rfl⟩ := trodVars_none hV
  have k0 := h0
  have lt0 : ∀ x ∈ p0, x.block < W.heap.size := by obtain ⟨m, hm⟩ := k0; exact DataW.trod_lt m _ _ _ hm
  obtain ⟨a0, n0, c0, rfl⟩ := okWide_slice Tryd.underlying45 (hval 0 45 v0 rfl rfl)
  obtain ⟨z0, w0⟩ := bytes_open Tryd.underlying45 Tryd.underlying5 (by kernel_rfl) h0
  have k1 := h1
  have lt1 : ∀ x ∈ p1, x.block < W.heap.size := by obtain ⟨m, hm⟩ := k1; exact DataW.trod_lt m _ _ _ hm
  obtain ⟨a1, n1, c1, rfl⟩ := okWide_slice Tryd.underlying45 (hval 1 45 v1 rfl rfl)
  obtain ⟨z1, w1⟩ := bytes_open Tryd.underlying45 Tryd.underlying5 (by kernel_rfl) h1
  clear hA0 hval0
  refine (walk a0 n0 c0 z0 a1 n1 c1 z1 W w0 w1 hT).mono fun e W' ⟨he, bel⟩ => ?_
  subst he
  exact ⟨_, rfl, _, _, _, [], _, [], hW', trodAll_mk1 (shut_bool Tryd.underlying4 _), (trodAll_cons_mk (Below.trod laidOut (by kernel_rfl) (of_decide_eq_true (by kernel_rfl)) k0 bel lt0) (trodAll_cons_mk (Below.trod laidOut (by kernel_rfl) (of_decide_eq_true (by kernel_rfl)) k1 bel lt1) trodAll_mk0)), rfl, bel.frame _, fun h => by cases h⟩

theorem over : Rows.fnUnitsRow.holds Tryd.pinned (OpenSpec.ofChange Rows.fnUnitsSpec) :=
  OpenClaim.holds_of_wide 8 Tryd.f8 rfl rfl rfl rfl rfl rfl rfl ⟨rfl, rfl, rfl, rfl, rfl⟩ rfl rfl rfl rfl rfl (by kernel_rfl) Tryd.func8 (by kernel_rfl)
    (of_decide_eq_true (by kernel_rfl)) (by unfold Func.isWrapper; first | (rw [if_pos (by decide +kernel)]; kernel_rfl) | (rw [if_neg (by decide +kernel)]; exact ⟨rfl, rfl⟩))
    (fun os started H enc _ => lifted os started H enc)

/-- The statement. -/
theorem proved : Rows.FnUnitsCardSaid :=
  Claim7.holds_tied_plain_at .later [] [.data, .data, .data, .data, .sentinel, .sentinel, .pinned] true (true, "da04765a722824c07ec946a76548558b1fc9722f5084371853a7eaaaea03d127") true
    over (fun _ h => by cases h) (by kernel_rfl) (fun _ h => by cases h) fnUnits_row_tie rfl ⟨rfl, rfl⟩ (by kernel_rfl) rfl
    (fun f fn hf hfn => by
      obtain rfl : f = 8 := Option.some.inj ((show Tryd.prog.funcNamed "loop.example/g01013/laws.FnUnits" = some 8 by kernel_rfl).symm.trans hf) |>.symm
      obtain rfl : fn = Tryd.f8 := (Option.some.inj (Tryd.func8.symm.trans hfn)).symm
      exact ⟨by kernel_rfl, fun j t ht => by
        rw [Tryd.params8] at ht
        have hm : t ∈ [45, 45] := by simpa using Array.mem_of_getElem? ht
        have hall : ([45, 45].all fun u => !Tryd.prog.wantsStandIn u) = true := by kernel_rfl
        exact (show Tryd.prog.wantsStandIn t = false by simpa using List.all_eq_true.1 hall t hm)⟩)
    (by kernel_rfl)
end Go.Proofs.YthkpffmcafdmeaaDoor.fnUnits
