/-
  Proves: for every input the law FnExactGridText returns true, and its arguments read as before; the listed tables of the library are tied to the program's text. No condition.
-/
import Derived.Test.YthkpffmcafdmeaaDoorLiftC
import Derived.Test.YthkpffmcafdmeaaDoorGridTx
namespace Go.Proofs.YthkpffmcafdmeaaDoor.fnExactGridText
open Go.ChangeShapes Go.WideShapes Go.ChangeAt Go.RowKit Go.Deep
set_option linter.unusedVariables false

set_option maxRecDepth 100000 in
set_option maxHeartbeats 4000000 in
theorem walk (R0 C0 S0 : Int) (A0 : Option Addr) (n0 c0 : Nat) (x0 : List Int) (w : World) (h0 : GridA w R0 C0 S0 A0 n0 x0) (hT : Tab w) :
    Calls Tryd.prog 4 #[.agg #[.int .i64 R0, .int .i64 C0, .int .i64 S0, .slice A0 n0 c0]] w fun e w' => e = .returned (.bool true) ∧ Below w.heap.size w w' := by
  have hm0 := h0.1.2.1
  by_cases hn0 : n0 ≤ 1048576
  rotate_left
  · go_enter Tryd.func4, Tryd.ntmps4
    go_wp2_with (go_at_call 15; refine (szGrid_no _ _ _ _ _ _ _ _ hm0 (by omega) (by omega) (by omega)).mono ?_; rintro e w' ⟨rfl, hbz⟩)
    go_ret
    exact ⟨rfl, ((Below.refl _ _).alloc (Nat.le_refl _) (.cells #[.int .i64 R0, .int .i64 C0, .int .i64 S0, .slice A0 n0 c0] 31)).trans (hbz.mono (by simp))⟩
  have HT := Lib.hid hT
  clear hT
  obtain ⟨S, hS⟩ : ∃ S : ByteArray, S = ⟨(grdS R0 C0 S0 x0).toArray⟩ := ⟨_, rfl⟩
  have HS := Lib.hid hS
  clear hS
  have B : Below w.heap.size w _ := ((Below.refl _ _).alloc (Nat.le_refl _) (.cells #[.int .i64 R0, .int .i64 C0, .int .i64 S0, .slice A0 n0 c0] 31))
  replace h0 := h0.below B
  have X := Lib.hid (boxG_of w R0 C0 S0 A0 n0 c0 31)
  go_enter Tryd.func4, Tryd.ntmps4
  obtain ⟨p0, p1, p2, p3⟩ := X.out
  go_wp2_with fail
  clear p0 p1 p2 p3
  refine (szGrid_ok _ _ _ _ _ _ _ _ (by omega) (by omega)).mono ?_
  rintro e w1 ⟨rfl, hb1⟩
  replace h0 := h0.below hb1
  replace X := Lib.hid (X.out.below hb1)
  replace B := B.trans (hb1.mono B.size)
  obtain ⟨p0, p1, p2, p3⟩ := X.out
  go_wp2_with fail
  clear p0 p1 p2 p3
  refine (toGrid_any _ _ _ _ _ _ x0 _ h0 hn0).mono ?_
  rintro e w2 ⟨ga2, rfl, ho2, hb2⟩
  replace h0 := h0.below hb2
  replace X := Lib.hid (X.out.below hb2)
  replace B := B.trans (hb2.mono B.size)
  have s0 := h0.to (Ints.of_own ho2 h0.1.2.2.1)
  have HZ2 := Lib.hid ho2
  clear ho2
  obtain ⟨p0, p1, p2, p3⟩ := X.out
  go_wp2_with fail
  clear p0 p1 p2 p3
  refine (GridText_s _ _ _ _ _ _ x0 _ s0).mono ?_
  rintro e w3 ⟨rfl, hb3⟩
  rw [← HS.out]
  replace h0 := h0.below hb3
  replace s0 := s0.below hb3
  replace X := Lib.hid (X.out.below hb3)
  replace B := B.trans (hb3.mono B.size)
  obtain ⟨p0, p1, p2, p3⟩ := X.out
  go_wp2_with fail
  clear p0 p1 p2 p3
  refine (toGrid_any _ _ _ _ _ _ x0 _ h0 hn0).mono ?_
  rintro e w4 ⟨ga4, rfl, ho4, hb4⟩
  replace h0 := h0.below hb4
  replace X := Lib.hid (X.out.below hb4)
  replace B := B.trans (hb4.mono B.size)
  have g0 := h0.to (Ints.of_own ho4 h0.1.2.2.1)
  have HZ4 := Lib.hid ho4
  clear ho4
  have hx4 : Below w4.heap.size w4 _ := (Below.refl _ _).alloc (Nat.le_refl _) (.cells #[.int .i64 R0, .int .i64 C0, .int .i64 S0, .slice (some ⟨ga4, 0, none⟩) n0 n0] 34)
  have Y4 := Lib.hid (boxG_of w4 R0 C0 S0 (some ⟨ga4, 0, none⟩) n0 n0 34)
  replace h0 := h0.below hx4
  replace g0 := g0.below hx4
  replace X := Lib.hid (X.out.below hx4)
  replace B := B.trans (hx4.mono B.size)
  obtain ⟨p0, p1, p2, p3⟩ := X.out
  obtain ⟨Y40, Y41, Y42, Y43⟩ := Y4.out
  go_wp2_with fail
  clear p0 p1 p2 p3
  clear Y40 Y41 Y42 Y43
  refine (GridText_i _ _ _ _ _ _ x0 _ g0 (HT.out.below B)).mono ?_
  rintro e w5 ⟨rfl, hb5⟩
  rw [← HS.out]
  replace h0 := h0.below hb5
  replace g0 := g0.below hb5
  replace X := Lib.hid (X.out.below hb5)
  replace Y4 := Lib.hid (Y4.out.below hb5)
  replace B := B.trans (hb5.mono B.size)
  obtain ⟨p0, p1, p2, p3⟩ := X.out
  obtain ⟨Y40, Y41, Y42, Y43⟩ := Y4.out
  go_wp2_with fail
  go_region_held3 (fun w' => w'.cell? ⟨w.heap.size, 0, none⟩ = some (.int .i64 R0) ∧ w'.cell? ⟨w.heap.size, 1, none⟩ = some (.int .i64 C0) ∧ w'.cell? ⟨w.heap.size, 2, none⟩ = some (.int .i64 S0) ∧ w'.cell? ⟨w.heap.size, 3, none⟩ = some (.slice A0 n0 c0) ∧ w'.cell? ⟨w4.heap.size, 0, none⟩ = some (.int .i64 R0) ∧ w'.cell? ⟨w4.heap.size, 1, none⟩ = some (.int .i64 C0) ∧ w'.cell? ⟨w4.heap.size, 2, none⟩ = some (.int .i64 S0) ∧ w'.cell? ⟨w4.heap.size, 3, none⟩ = some (.slice (some ⟨ga4, 0, none⟩) n0 n0))
    (first | go_keep | exact HS7 | exact HS6)
    ((first | (go_at_call 17; refine (toGrid_any _ _ _ _ _ _ x0 _ (h0.below (Below.refl _ _).drew) hn0).mono ?_; rintro e w6 ⟨ga6, rfl, ho6, hc6⟩; have hb6 := below_of_drew hc6; have r6 := Ints.of_own ho6 h0.1.2.2.1; have v6 := (g0).below hb6; have X6 := X.out.below hb6; have V6 := Y4.out.below hb6; have HS6 := (And.intro X6.1 (And.intro X6.2.1 (And.intro X6.2.2.1 (And.intro X6.2.2.2 (And.intro V6.1 (And.intro V6.2.1 (And.intro V6.2.2.1 V6.2.2.2)))))))) | (go_at_call 19; refine (eqGrid_same _ _ _ _ _ _ _ _ x0 _ v6.1 r6).mono ?_; rintro e w7 ⟨rfl, hb7⟩; have X7 := X6.below hb7; have V7 := V6.below hb7; have HS7 := (And.intro X7.1 (And.intro X7.2.1 (And.intro X7.2.2.1 (And.intro X7.2.2.2 (And.intro V7.1 (And.intro V7.2.1 (And.intro V7.2.2.1 V7.2.2.2))))))))))
  clear p0 p1 p2 p3
  clear Y40 Y41 Y42 Y43
  clear HS6 HS7 X6 V6 X7 V7 r6 v6 ho6 hc6
  replace h0 := h0.below hb6
  replace g0 := g0.below hb6
  replace X := Lib.hid (X.out.below hb6)
  replace Y4 := Lib.hid (Y4.out.below hb6)
  replace B := B.trans (hb6.mono B.size)
  replace h0 := h0.below hb7
  replace g0 := g0.below hb7
  replace X := Lib.hid (X.out.below hb7)
  replace Y4 := Lib.hid (Y4.out.below hb7)
  replace B := B.trans (hb7.mono B.size)
  obtain ⟨p0, p1, p2, p3⟩ := X.out
  obtain ⟨Y40, Y41, Y42, Y43⟩ := Y4.out
  go_wp2_with fail
  clear p0 p1 p2 p3
  clear Y40 Y41 Y42 Y43
  go_ret
  exact ⟨rfl, B⟩

set_option maxRecDepth 100000 in
theorem lifted (os : Os) (started : os.Started) (H : Type) (enc : TypeId × Value → H) :
    ReturnsInHanded {} Tryd.checked os 4 .any (fun w args => (Rows.fnExactGridTextSpec.pre enc Tryd.prog Tryd.f4 [] false w args ∧ laidMetH Tryd.prog Rows.fnExactGridTextRow.laid w) ∧ sizedMet enc Tryd.prog Tryd.f4 (OpenSpec.ofChange Rows.fnExactGridTextSpec) false w args) (Rows.fnExactGridTextSpec.post enc Tryd.prog Tryd.f4 false true false false) := by
  refine returns_laid (C := Tryd.checked) (X := fun w _ => laidMetH Tryd.prog Rows.fnExactGridTextRow.laid w) (fun _ _ _ hh h => h.of_heap hh) own started (by kernel_rfl) Tryd.func4
    (ChangeSpec.witness_shaped (enc := enc) (C := Tryd.checked) (os := os) (X := fun w _ => laidMetH Tryd.prog Rows.fnExactGridTextRow.laid w) false (World.doorLaid Tryd.prog 400 os) #[.agg #[.int .i64 0, .int .i64 0, .int .i64 0, .slice none 0 0]] 8 rfl (World.shaped_of_RefB (by kernel_rfl) (by kernel_rfl)) (by kernel_rfl) (by kernel_rfl) (by kernel_rfl) (door_met os _)) ?_
  intro W base args ds gs before hval0 hW _ _ hL hsh _
  have hT := ofLaid hL hsh
  clear hL hsh
  have hval : ∀ (j : Nat) t v, Tryd.f4.params[j]? = some t → args[j]? = some v → Value.okWide Tryd.prog W .any base t v := hval0
  have hW' := hW
  obtain ⟨p, q, hA0, hV, rfl, hfz, hnd⟩ := hW
  have hA : DataW.TrodAll enc Tryd.prog W 0 (fun _ => true) true Tryd.f4.params.toList args.toList ds p := hA0
  rw [Tryd.params4] at hA hval
  obtain ⟨v0, vs0, d0, ds0, p0, q0, hargs, rfl, rfl, h0, r0⟩ := trodAll_cons hA
  obtain ⟨rfl, rfl, rfl⟩ := trodAll_nil r0
  obtain rfl : args = #[v0] := by cases args; simp_all
  obtain ⟨rfl, rfl⟩ := trodVars_none hV
  have k0 := h0
  have lt0 : ∀ x ∈ p0, x.block < W.heap.size := by obtain ⟨m, hm⟩ := k0; exact DataW.trod_lt m _ _ _ hm
  obtain ⟨R0, G0, S0, a0, n0, c0, z0, rfl, w0⟩ := grid_open Tryd.underlying31 Tryd.underlying2 Tryd.underlying29 (by kernel_rfl) (by kernel_rfl) (by kernel_rfl) ⟨rfl, rfl, rfl, rfl⟩ (hval 0 31 v0 rfl rfl) h0
  clear hA0 hval0
  refine (walk R0 G0 S0 a0 n0 c0 z0 W w0 hT).mono fun e W' ⟨he, bel⟩ => ?_
  subst he
  exact ⟨_, rfl, _, _, _, [], _, [], hW', trodAll_mk1 (shut_bool Tryd.underlying4 _), (trodAll_cons_mk (Below.trod laidOut (by kernel_rfl) (of_decide_eq_true (by kernel_rfl)) k0 bel lt0) trodAll_mk0), rfl, bel.frame _, fun h => by cases h⟩

theorem over : Rows.fnExactGridTextRow.holds Tryd.pinned (OpenSpec.ofChange Rows.fnExactGridTextSpec) :=
  OpenClaim.holds_of_wide 4 Tryd.f4 rfl rfl rfl rfl rfl rfl rfl ⟨rfl, rfl, rfl, rfl, rfl⟩ rfl rfl rfl rfl rfl (by kernel_rfl) Tryd.func4 (by kernel_rfl)
    (of_decide_eq_true (by kernel_rfl)) (by unfold Func.isWrapper; first | (rw [if_pos (by decide +kernel)]; kernel_rfl) | (rw [if_neg (by decide +kernel)]; exact ⟨rfl, rfl⟩))
    (fun os started H enc _ => lifted os started H enc)

/-- The statement. -/
theorem proved : Rows.FnExactGridTextCardSaid :=
  Claim7.holds_tied_plain_at .later [] [.data, .data, .data] true (true, "da04765a722824c07ec946a76548558b1fc9722f5084371853a7eaaaea03d127") true
    over (fun _ h => by cases h) (by kernel_rfl) (fun _ h => by cases h) fnExactGridText_row_tie rfl ⟨rfl, rfl⟩ (by kernel_rfl) rfl
    (fun f fn hf hfn => by
      obtain rfl : f = 4 := Option.some.inj ((show Tryd.prog.funcNamed "loop.example/g01013/laws.FnExactGridText" = some 4 by kernel_rfl).symm.trans hf) |>.symm
      obtain rfl : fn = Tryd.f4 := (Option.some.inj (Tryd.func4.symm.trans hfn)).symm
      exact ⟨by kernel_rfl, fun j t ht => by
        rw [Tryd.params4] at ht
        have hm : t ∈ [31] := by simpa using Array.mem_of_getElem? ht
        have hall : ([31].all fun u => !Tryd.prog.wantsStandIn u) = true := by kernel_rfl
        exact (show Tryd.prog.wantsStandIn t = false by simpa using List.all_eq_true.1 hall t hm)⟩)
    (by kernel_rfl)
end Go.Proofs.YthkpffmcafdmeaaDoor.fnExactGridText
