/-
  Proves: for every input the law FnDates returns true, and its arguments read as before; the listed tables of the library are tied to the program's text. No condition.
-/
import Derived.Test.YthkpffmcafdmeaaDoorLiftC
import Derived.Test.YthkpffmcafdmeaaDoorDateT
import Derived.Deep.DeepCutAuto
namespace Go.Proofs.YthkpffmcafdmeaaDoor.fnDates
open Go.ChangeShapes Go.WideShapes Go.ChangeAt Go.RowKit Go.Deep
set_option linter.unusedVariables false

theorem long_yes (A : Option Addr) (n c : Nat) (w : World) (h : n ≤ 9223372036854775807) (h1 : ¬ n ≤ 1048576) :
    Calls Tryd.prog 40 #[.slice A n c] w fun e w' => e = .returned (.bool true) ∧ w = w' :=
  (b10Long_any A n c w h).mono fun e w' ⟨he, hw⟩ => ⟨by rw [he]; congr 2; simp; omega, hw⟩
theorem long_no (A : Option Addr) (n c : Nat) (w : World) (h1 : n ≤ 1048576) :
    Calls Tryd.prog 40 #[.slice A n c] w fun e w' => e = .returned (.bool false) ∧ w = w' :=
  (b10Long_any A n c w (by omega)).mono fun e w' ⟨he, hw⟩ => ⟨by rw [he]; congr 2; simp; omega, hw⟩
theorem week_yes (d v : Int) (w : World) (h : inB d 0 36524 = true) (hv : v = (d + 5) % 7) :
    Calls Tryd.prog 58 #[.int .i64 d] w fun e w' => e = .returned (.tuple #[.int .i64 v, .int .i64 0]) ∧ w = w' :=
  (WeekdayOf_i d w).mono fun e w' ⟨he, hw⟩ => ⟨by rw [he, wkV, wkC, if_pos h, if_pos h, hv], hw⟩
theorem week_no (d : Int) (w : World) (h : inB d 0 36524 = false) :
    Calls Tryd.prog 58 #[.int .i64 d] w fun e w' => e = .returned (.tuple #[.int .i64 0, .int .i64 2]) ∧ w = w' :=
  (WeekdayOf_i d w).mono fun e w' ⟨he, hw⟩ => ⟨by rw [he, wkV, wkC, h]; rfl, hw⟩
theorem hour_yes (d h : Int) (w : World) (hb : hrB d h = true) :
    Calls Tryd.prog 60 #[.int .i64 d, .int .i64 h] w fun e w' => e = .returned (.tuple #[.int .i64 (24 * d + h), .int .i64 0]) ∧ w = w' :=
  (HourNumber_i d h w).mono fun e w' ⟨he, hw⟩ => ⟨by rw [he, if_pos hb, if_pos hb], hw⟩
theorem hour_no (d h : Int) (w : World) (hb : hrB d h = false) :
    Calls Tryd.prog 60 #[.int .i64 d, .int .i64 h] w fun e w' => e = .returned (.tuple #[.int .i64 0, .int .i64 2]) ∧ w = w' :=
  (HourNumber_i d h w).mono fun e w' ⟨he, hw⟩ => ⟨by rw [he, hb]; rfl, hw⟩
set_option maxRecDepth 100000 in
set_option maxHeartbeats 3200000 in
theorem walk (A0 : Option Addr) (n0 c0 : Nat) (z0 : Unit) (A1 : Option Addr) (n1 c1 : Nat) (z1 : Unit) (w : World) (h0 : Byts w A0 n0) (h1 : Byts w A1 n1) (hT : Tab w) :
    Calls Tryd.prog 9 #[.slice A0 n0 c0, .slice A1 n1 c1] w fun e w' => e = .returned (.bool true) ∧ Below w.heap.size w w' := by
  have hm0 := h0.1
  have hm1 := h1.1
  have HH := Lib.hid (And.intro h0 (And.intro h1 hT))
  clear h0 h1 hT
  by_cases hn0 : n0 ≤ 1048576
  rotate_left
  · have HN := Lib.hid hn0
    clear hn0
    go_enter Tryd.func9, Tryd.ntmps9
    go_wp2_with (go_at_call 40; refine (long_yes _ n0 _ _ hm0 HN.out).mono ?_; rintro e w' ⟨rfl, rfl⟩)
    go_ret
    exact ⟨rfl, Below.refl _ _⟩
  by_cases hn1 : n1 ≤ 1048576
  rotate_left
  · have HN := Lib.hid hn1
    clear hn1
    go_enter Tryd.func9, Tryd.ntmps9
    go_wp2_with fail
    refine (long_no _ n0 _ _ hn0).mono ?_
    rintro e w' ⟨rfl, rfl⟩
    go_wp2_with fail
    refine (long_yes _ n1 _ _ hm1 HN.out).mono ?_
    rintro e w' ⟨rfl, rfl⟩
    go_wp2_with fail
    go_ret
    exact ⟨rfl, Below.refl _ _⟩
  go_enter Tryd.func9, Tryd.ntmps9
  go_wp2_with fail
  refine (long_no _ n0 _ _ hn0).mono ?_
  rintro e w' ⟨rfl, rfl⟩
  go_wp2_with fail
  refine (long_no _ n1 _ _ hn1).mono ?_
  rintro e w' ⟨rfl, rfl⟩
  go_wp2_with fail
  refine (DrawDateOf_d _ _ _ _ HH.out.1).mono ?_
  rintro e w1 ⟨⟨d, rfl, hd1, hd2⟩, hb1⟩
  have H1 := Lib.hid hb1
  clear hb1
  cases hv : inB d 0 36524
  · have HV := Lib.hid hv
    clear hv
    go_wp2_with fail
    refine (DateOf_no d _ HV.out).mono ?_
    rintro e w' ⟨rfl, rfl⟩
    go_wp2_with fail
    refine (DateText_no d _ HV.out).mono ?_
    rintro e w' ⟨rfl, rfl⟩
    go_wp2_with fail
    go_ret
    exact ⟨rfl, H1.out⟩
  obtain ⟨e0, e1⟩ := inB_iff.1 hv
  have HV := Lib.hid hv
  clear hv hd1 hd2
  obtain ⟨⟨q, j, q0, q1, j3, hy, hd⟩, g1, g2, g3, g4, g5, g6, g7⟩ := date_ok e0 e1
  have HDO := fun (W : World) => Lib.hid (DateOf_yes d W e0 e1)
  have HN := fun (W : World) => Lib.hid ((DayNumber_yes (yF d) (dtF d) q (mthF d) j W q0 q1 j3 hy g3 g4 g5 g6).mono (fun e w' (h : _ ∧ _) => (show e = .returned (.tuple #[.int .i64 d, .int .i64 0]) ∧ W = w' from ⟨by rw [h.1, ← hd], h.2⟩)))
  obtain ⟨Y, hY⟩ : ∃ Y, Y = yF d := ⟨_, rfl⟩
  obtain ⟨M, hM⟩ : ∃ M, M = mthF d := ⟨_, rfl⟩
  obtain ⟨t, ht⟩ : ∃ t, t = dtF d := ⟨_, rfl⟩
  rw [← hY, ← hM, ← ht] at HDO HN
  clear hY hM ht hd hy g1 g2 g3 g4 g5 g6 g7 q0 q1 j3
  go_wp2_with fail
  refine (HDO _).out.mono ?_
  rintro e w' ⟨rfl, rfl⟩
  go_wp2_with fail
  refine (HN _).out.mono ?_
  rintro e w' ⟨rfl, rfl⟩
  go_wp2_with fail
  refine (DateText_yes d _ e0 e1 (HH.out.2.2.below H1.out)).mono ?_
  rintro e w2 ⟨rfl, hb2⟩
  have H2 := Lib.hid (H1.out.trans (hb2.mono H1.out.size))
  clear hb2
  obtain ⟨s, hs⟩ : ∃ s : ByteArray, s = ⟨(dateL d).toArray⟩ := ⟨_, rfl⟩
  rw [← hs]
  have HS := Lib.hid hs
  clear hs HDO HN
  go_wp2_with fail
  refine (ReadDate_yes d s _ e0 e1 (HH.out.2.2.below H2.out) HS.out).mono ?_
  rintro e w3 ⟨rfl, hb3⟩
  have H3 := Lib.hid (H2.out.trans (hb3.mono H2.out.size))
  clear hb3
  obtain ⟨v, hv⟩ : ∃ v, v = (d + 5) % 7 := ⟨_, rfl⟩
  have hv0 : 0 ≤ v := by omega
  have hv6 : v ≤ 6 := by omega
  have HW := Lib.hid hv
  have hvn : ¬ v < 0 := by omega
  have hvm : ¬ 6 < v := by omega
  clear hv
  go_wp2_with fail
  refine (week_yes d v _ HV.out HW.out).mono ?_
  rintro e w' ⟨rfl, rfl⟩
  go_wp2_with fail
  by_cases hl : d + 1 ≤ 36524
  · have HL := Lib.hid (inB_iff.2 (And.intro (show 0 ≤ d + 1 by omega) hl))
    have HW2 := Lib.hid (show (v + 1) % 7 = (d + 1 + 5) % 7 by have := HW.out; omega)
    clear hl
    refine (week_yes (d + 1) ((v + 1) % 7) _ HL.out HW2.out).mono ?_
    rintro e w' ⟨rfl, rfl⟩
    have hu0 : 0 ≤ (v + 1) % 7 := by omega
    go_wp2_with fail
    refine (DrawHourNumber_d _ _ _ _ (HH.out.2.1.below H3.out)).mono ?_
    rintro e w4 ⟨⟨x, y, rfl, ⟨hx1, hx2⟩, hy1, hy2⟩, hb4⟩
    have H4 := Lib.hid (H3.out.trans (hb4.mono H3.out.size))
    clear hb4
    cases hh : hrB x y
    · have HX := Lib.hid hh
      clear hh
      go_wp2_with fail
      refine (hour_no x y _ HX.out).mono ?_
      rintro e w' ⟨rfl, rfl⟩
      go_wp2_with fail
      go_ret
      exact ⟨rfl, H4.out⟩
    · have HX := Lib.hid hh
      have hxy : (0 ≤ x ∧ x ≤ 36524) ∧ 0 ≤ y ∧ y ≤ 23 := by
        simp only [hrB, Bool.and_eq_true] at hh
        exact ⟨inB_iff.1 hh.1, inB_iff.1 hh.2⟩
      obtain ⟨⟨x1, x2⟩, y1, y2⟩ := hxy
      clear hh
      go_wp2_with fail
      refine (hour_yes x y _ HX.out).mono ?_
      rintro e w' ⟨rfl, rfl⟩
      have e24 : (24 * x + y) / 24 = x := by omega
      have m24 : (24 * x + y) % 24 = y := by omega
      have p24 : 0 ≤ 24 * x + y := by omega
      go_wp2_with fail
      go_ret
      exact ⟨by first | rfl | simp, H4.out⟩
  · have HL := Lib.hid (show inB (d + 1) 0 36524 = false from inB_not.2 (Or.inr (by omega)))
    clear hl
    refine (week_no (d + 1) _ HL.out).mono ?_
    rintro e w' ⟨rfl, rfl⟩
    go_wp2_with fail
    refine (DrawHourNumber_d _ _ _ _ (HH.out.2.1.below H3.out)).mono ?_
    rintro e w4 ⟨⟨x, y, rfl, ⟨hx1, hx2⟩, hy1, hy2⟩, hb4⟩
    have H4 := Lib.hid (H3.out.trans (hb4.mono H3.out.size))
    clear hb4
    cases hh : hrB x y
    · have HX := Lib.hid hh
      clear hh
      go_wp2_with fail
      refine (hour_no x y _ HX.out).mono ?_
      rintro e w' ⟨rfl, rfl⟩
      go_wp2_with fail
      go_ret
      exact ⟨rfl, H4.out⟩
    · have HX := Lib.hid hh
      have hxy : (0 ≤ x ∧ x ≤ 36524) ∧ 0 ≤ y ∧ y ≤ 23 := by
        simp only [hrB, Bool.and_eq_true] at hh
        exact ⟨inB_iff.1 hh.1, inB_iff.1 hh.2⟩
      obtain ⟨⟨x1, x2⟩, y1, y2⟩ := hxy
      clear hh
      go_wp2_with fail
      refine (hour_yes x y _ HX.out).mono ?_
      rintro e w' ⟨rfl, rfl⟩
      have e24 : (24 * x + y) / 24 = x := by omega
      have m24 : (24 * x + y) % 24 = y := by omega
      have p24 : 0 ≤ 24 * x + y := by omega
      go_wp2_with fail
      go_ret
      exact ⟨by first | rfl | simp, H4.out⟩

set_option maxRecDepth 100000 in
theorem lifted (os : Os) (started : os.Started) (H : Type) (enc : TypeId × Value → H) :
    ReturnsInHanded {} Tryd.checked os 9 .any (fun w args => (Rows.fnDatesSpec.pre enc Tryd.prog Tryd.f9 [] false w args ∧ laidMetH Tryd.prog Rows.fnDatesRow.laid w) ∧ sizedMet enc Tryd.prog Tryd.f9 (OpenSpec.ofChange Rows.fnDatesSpec) false w args) (Rows.fnDatesSpec.post enc Tryd.prog Tryd.f9 false true false false) := by
  refine returns_laid (C := Tryd.checked) (X := fun w _ => laidMetH Tryd.prog Rows.fnDatesRow.laid w) (fun _ _ _ hh h => h.of_heap hh) own started (by kernel_rfl) Tryd.func9
    (ChangeSpec.witness_shaped (enc := enc) (C := Tryd.checked) (os := os) (X := fun w _ => laidMetH Tryd.prog Rows.fnDatesRow.laid w) false (World.doorLaid Tryd.prog 400 os) #[.slice none 0 0, .slice none 0 0] 8 rfl (World.shaped_of_RefB (by kernel_rfl) (by kernel_rfl)) (by kernel_rfl) (by kernel_rfl) (by kernel_rfl) (door_met os _)) ?_
  intro W base args ds gs before hval0 hW _ _ hL hsh _
  have hT := ofLaid hL hsh
  clear hL hsh
  have hval : ∀ (j : Nat) t v, Tryd.f9.params[j]? = some t → args[j]? = some v → Value.okWide Tryd.prog W .any base t v := hval0
  have hW' := hW
  obtain ⟨p, q, hA0, hV, rfl, hfz, hnd⟩ := hW
  have hA : DataW.TrodAll enc Tryd.prog W 0 (fun _ => true) true Tryd.f9.params.toList args.toList ds p := hA0
  rw [Tryd.params9] at hA hval
  obtain ⟨v0, vs0, d0, ds0, p0, q0, hargs, rfl, rfl, h0, r0⟩ := trodAll_cons hA
  obtain ⟨v1, vs1, d1, ds1, p1, q1, rfl, rfl, rfl, h1, r1⟩ := trodAll_cons r0
  obtain ⟨rfl, rfl, rfl⟩ := trodAll_nil r1
  obtain rfl : args = #[v0, v1] := by cases args; simp_all
  obtain ⟨rfl, rfl⟩ := trodVars_none hV
  have k0 := h0
  have lt0 : ∀ x ∈ p0, x.block < W.heap.size := by obtain ⟨m, hm⟩ := k0; exact DataW.trod_lt m _ _ _ hm
  obtain ⟨a0, n0, c0, rfl⟩ := okWide_slice Tryd.underlying45 (hval 0 45 v0 rfl rfl)
  obtain ⟨z0, w0⟩ := bytes_open Tryd.underlying45 Tryd.underlying5 (by kernel_rfl) h0
  have k1 := h1
  have lt1 : ∀ x ∈ p1, x.block < W.heap.size := by obtain ⟨m, hm⟩ := k1; exact DataW.trod_lt m _ _ _ hm
  obtain ⟨a1, n1, c1, rfl⟩ := okWide_slice Tryd.underlying45 (hval 1 45 v1 rfl rfl)
  obtain ⟨z1, w1⟩ := bytes_open Tryd.underlying45 Tryd.underlying5 (by kernel_rfl) h1
  clear hA0 hval0
  refine (walk a0 n0 c0 z0 a1 n1 c1 z1 W w0 w1 hT).mono fun e W' ⟨he, bel⟩ => ?_
  subst he
  exact ⟨_, rfl, _, _, _, [], _, [], hW', trodAll_mk1 (shut_bool Tryd.underlying4 _), (trodAll_cons_mk (Below.trod laidOut (by kernel_rfl) (of_decide_eq_true (by kernel_rfl)) k0 bel lt0) (trodAll_cons_mk (Below.trod laidOut (by kernel_rfl) (of_decide_eq_true (by kernel_rfl)) k1 bel lt1) trodAll_mk0)), rfl, bel.frame _, fun h => by cases h⟩

theorem over : Rows.fnDatesRow.holds Tryd.pinned (OpenSpec.ofChange Rows.fnDatesSpec) :=
  OpenClaim.holds_of_wide 9 Tryd.f9 rfl rfl rfl rfl rfl rfl rfl ⟨rfl, rfl, rfl, rfl, rfl⟩ rfl rfl rfl rfl rfl (by kernel_rfl) Tryd.func9 (by kernel_rfl)
    (of_decide_eq_true (by kernel_rfl)) (by unfold Func.isWrapper; first | (rw [if_pos (by decide +kernel)]; kernel_rfl) | (rw [if_neg (by decide +kernel)]; exact ⟨rfl, rfl⟩))
    (fun os started H enc _ => lifted os started H enc)

/-- The statement. -/
theorem proved : Rows.FnDatesCardSaid :=
  Claim7.holds_tied_plain_at .later [] [.data, .data, .data] true (true, "da04765a722824c07ec946a76548558b1fc9722f5084371853a7eaaaea03d127") true
    over (fun _ h => by cases h) (by kernel_rfl) (fun _ h => by cases h) fnDates_row_tie rfl ⟨rfl, rfl⟩ (by kernel_rfl) rfl
    (fun f fn hf hfn => by
      obtain rfl : f = 9 := Option.some.inj ((show Tryd.prog.funcNamed "loop.example/g01013/laws.FnDates" = some 9 by kernel_rfl).symm.trans hf) |>.symm
      obtain rfl : fn = Tryd.f9 := (Option.some.inj (Tryd.func9.symm.trans hfn)).symm
      exact ⟨by kernel_rfl, fun j t ht => by
        rw [Tryd.params9] at ht
        have hm : t ∈ [45, 45] := by simpa using Array.mem_of_getElem? ht
        have hall : ([45, 45].all fun u => !Tryd.prog.wantsStandIn u) = true := by kernel_rfl
        exact (show Tryd.prog.wantsStandIn t = false by simpa using List.all_eq_true.1 hall t hm)⟩)
    (by kernel_rfl)
end Go.Proofs.YthkpffmcafdmeaaDoor.fnDates
