/-
  Proves: for every input the law FnExactPathText returns true, and its arguments read as before; the listed tables of the library are tied to the program's text. No condition.
-/
import Derived.Test.YthkpffmcafdmeaaDoorLiftC
import Derived.Test.YthkpffmcafdmeaaDoorPthI
namespace Go.Proofs.YthkpffmcafdmeaaDoor.fnExactPathText
open Go.ChangeShapes Go.WideShapes Go.ChangeAt Go.RowKit Go.Deep
set_option linter.unusedVariables false

set_option maxRecDepth 100000 in
set_option maxHeartbeats 4000000 in
theorem walk (A0 : Option Addr) (n0 c0 : Nat) (x0 : Pth) (w : World) (h0 : Pts w A0 n0 x0) (hT : Tab w) :
    Calls Tryd.prog 3 #[.slice A0 n0 c0] w fun e w' => e = .returned (.bool true) ∧ Below w.heap.size w w' := by
  have hm0 := h0.2.1
  by_cases hn0 : n0 ≤ 1048576
  rotate_left
  · go_enter Tryd.func3, Tryd.ntmps3
    go_wp2_with (go_at_call 10; refine (szPathPointS_no _ _ _ _ _ hm0 (by omega) (by omega) (by omega)).mono ?_; rintro e w' ⟨rfl, rfl⟩)
    go_ret
    exact ⟨rfl, Below.refl _ _⟩
  have B := Below.refl w.heap.size w
  have HT := Lib.hid hT
  clear hT
  obtain ⟨S, hS⟩ : ∃ S : ByteArray, S = ⟨(pthS x0).toArray⟩ := ⟨_, rfl⟩
  have HS := Lib.hid hS
  clear hS
  go_enter Tryd.func3, Tryd.ntmps3
  go_wp2_with fail
  refine (szPathPointS_ok _ _ _ _ _ (by omega) (by omega)).mono ?_
  rintro e w1 ⟨rfl, rfl⟩
  go_wp2_with fail
  refine (toPathPointS_any _ _ _ x0 _ h0 hn0).mono ?_
  rintro e w2 ⟨rfl, ho2, hb2, hz2⟩
  replace h0 := h0.below hb2
  replace B := B.trans (hb2.mono B.size)
  have s0 := Pts.of_own ho2 h0.1.symm h0.2.1 h0.2.2.1
  have HZ2 := Lib.hid (And.intro ho2 hz2)
  clear ho2 hz2
  go_wp2_with fail
  refine (PathText_s _ _ _ x0 _ s0).mono ?_
  rintro e w3 ⟨rfl, hb3⟩
  rw [← HS.out]
  replace h0 := h0.below hb3
  replace s0 := s0.below hb3
  replace B := B.trans (hb3.mono B.size)
  go_wp2_with fail
  refine (toPathPointS_any _ _ _ x0 _ h0 hn0).mono ?_
  rintro e w4 ⟨rfl, ho4, hb4, hz4⟩
  replace h0 := h0.below hb4
  replace B := B.trans (hb4.mono B.size)
  have g0 := Pts.of_own ho4 h0.1.symm h0.2.1 h0.2.2.1
  have HZ4 := Lib.hid (And.intro ho4 hz4)
  clear ho4 hz4
  go_wp2_with fail
  refine (PathText_i _ _ _ x0 _ g0 (HT.out.below B)).mono ?_
  rintro e w5 ⟨rfl, hb5⟩
  rw [← HS.out]
  replace h0 := h0.below hb5
  replace g0 := g0.below hb5
  replace B := B.trans (hb5.mono B.size)
  go_wp2_with fail
  refine (toPathPointS_any _ _ _ x0 _ h0 hn0).mono ?_
  rintro e w6 ⟨rfl, ho6, hb6, hz6⟩
  replace h0 := h0.below hb6
  replace g0 := g0.below hb6
  replace B := B.trans (hb6.mono B.size)
  have t0 := Pts.of_own ho6 h0.1.symm h0.2.1 h0.2.2.1
  have HZ6 := Lib.hid (And.intro ho6 hz6)
  clear ho6 hz6
  go_wp2_with fail
  refine (eqPathPointS_same _ _ _ _ _ x0 _ g0 t0).mono ?_
  rintro e w7 ⟨rfl, hb7⟩
  replace h0 := h0.below hb7
  replace g0 := g0.below hb7
  replace t0 := t0.below hb7
  replace B := B.trans (hb7.mono B.size)
  go_wp2_with fail
  go_ret
  exact ⟨rfl, B⟩

set_option maxRecDepth 100000 in
theorem lifted (os : Os) (started : os.Started) (H : Type) (enc : TypeId × Value → H) :
    ReturnsInHanded {} Tryd.checked os 3 .any (fun w args => (Rows.fnExactPathTextSpec.pre enc Tryd.prog Tryd.f3 [] false w args ∧ laidMetH Tryd.prog Rows.fnExactPathTextRow.laid w) ∧ sizedMet enc Tryd.prog Tryd.f3 (OpenSpec.ofChange Rows.fnExactPathTextSpec) false w args) (Rows.fnExactPathTextSpec.post enc Tryd.prog Tryd.f3 false true false false) := by
  refine returns_laid (C := Tryd.checked) (X := fun w _ => laidMetH Tryd.prog Rows.fnExactPathTextRow.laid w) (fun _ _ _ hh h => h.of_heap hh) own started (by kernel_rfl) Tryd.func3
    (ChangeSpec.witness_shaped (enc := enc) (C := Tryd.checked) (os := os) (X := fun w _ => laidMetH Tryd.prog Rows.fnExactPathTextRow.laid w) false (World.doorLaid Tryd.prog 400 os) #[.slice none 0 0] 8 rfl (World.shaped_of_RefB (by kernel_rfl) (by kernel_rfl)) (by kernel_rfl) (by kernel_rfl) (by kernel_rfl) (door_met os _)) ?_
  intro W base args ds gs before hval0 hW _ _ hL hsh _
  have hT := ofLaid hL hsh
  clear hL hsh
  have hval : ∀ (j : Nat) t v, Tryd.f3.params[j]? = some t → args[j]? = some v → Value.okWide Tryd.prog W .any base t v := hval0
  have hW' := hW
  obtain ⟨p, q, hA0, hV, rfl, hfz, hnd⟩ := hW
  have hA : DataW.TrodAll enc Tryd.prog W 0 (fun _ => true) true Tryd.f3.params.toList args.toList ds p := hA0
  rw [Tryd.params3] at hA hval
  obtain ⟨v0, vs0, d0, ds0, p0, q0, hargs, rfl, rfl, h0, r0⟩ := trodAll_cons hA
  obtain ⟨rfl, rfl, rfl⟩ := trodAll_nil r0
  obtain rfl : args = #[v0] := by cases args; simp_all
  obtain ⟨rfl, rfl⟩ := trodVars_none hV
  have k0 := h0
  have lt0 : ∀ x ∈ p0, x.block < W.heap.size := by obtain ⟨m, hm⟩ := k0; exact DataW.trod_lt m _ _ _ hm
  obtain ⟨a0, n0, c0, rfl⟩ := okWide_slice Tryd.underlying22 (hval 0 22 v0 rfl rfl)
  obtain ⟨z0, w0⟩ := pts_open Tryd.underlying22 Tryd.underlying73 Tryd.underlying2 (by kernel_rfl) (by kernel_rfl) ⟨rfl, rfl⟩ h0
  clear hA0 hval0
  refine (walk a0 n0 c0 z0 W w0 hT).mono fun e W' ⟨he, bel⟩ => ?_
  subst he
  exact ⟨_, rfl, _, _, _, [], _, [], hW', trodAll_mk1 (shut_bool Tryd.underlying4 _), (trodAll_cons_mk (Below.trod laidOut (by kernel_rfl) (of_decide_eq_true (by kernel_rfl)) k0 bel lt0) trodAll_mk0), rfl, bel.frame _, fun h => by cases h⟩

theorem over : Rows.fnExactPathTextRow.holds Tryd.pinned (OpenSpec.ofChange Rows.fnExactPathTextSpec) :=
  OpenClaim.holds_of_wide 3 Tryd.f3 rfl rfl rfl rfl rfl rfl rfl ⟨rfl, rfl, rfl, rfl, rfl⟩ rfl rfl rfl rfl rfl (by kernel_rfl) Tryd.func3 (by kernel_rfl)
    (of_decide_eq_true (by kernel_rfl)) (by unfold Func.isWrapper; first | (rw [if_pos (by decide +kernel)]; kernel_rfl) | (rw [if_neg (by decide +kernel)]; exact ⟨rfl, rfl⟩))
    (fun os started H enc _ => lifted os started H enc)

/-- The statement. -/
theorem proved : Rows.FnExactPathTextCardSaid :=
  Claim7.holds_tied_plain_at .later [] [.data, .data, .data] true (true, "da04765a722824c07ec946a76548558b1fc9722f5084371853a7eaaaea03d127") true
    over (fun _ h => by cases h) (by kernel_rfl) (fun _ h => by cases h) fnExactPathText_row_tie rfl ⟨rfl, rfl⟩ (by kernel_rfl) rfl
    (fun f fn hf hfn => by
      obtain rfl : f = 3 := Option.some.inj ((show Tryd.prog.funcNamed "loop.example/g01013/laws.FnExactPathText" = some 3 by kernel_rfl).symm.trans hf) |>.symm
      obtain rfl : fn = Tryd.f3 := (Option.some.inj (Tryd.func3.symm.trans hfn)).symm
      exact ⟨by kernel_rfl, fun j t ht => by
        rw [Tryd.params3] at ht
        have hm : t ∈ [22] := by simpa using Array.mem_of_getElem? ht
        have hall : ([22].all fun u => !Tryd.prog.wantsStandIn u) = true := by kernel_rfl
        exact (show Tryd.prog.wantsStandIn t = false by simpa using List.all_eq_true.1 hall t hm)⟩)
    (by kernel_rfl)
end Go.Proofs.YthkpffmcafdmeaaDoor.fnExactPathText
