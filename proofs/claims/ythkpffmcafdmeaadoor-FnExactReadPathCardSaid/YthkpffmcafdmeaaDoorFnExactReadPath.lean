/-
  Proves: for every input the law FnExactReadPath returns true; the listed variables of the library are tied to the program's text. No condition.
-/
import Derived.Test.YthkpffmcafdmeaaDoorLiftD
import Derived.Test.YthkpffmcafdmeaaDoorRpI
import Derived.Test.YthkpffmcafdmeaaDoorRpS
import Derived.Test.YthkpffmcafdmeaaDoorPthMk
namespace Go.Proofs.YthkpffmcafdmeaaDoor.fnExactReadPath
open Go.ChangeShapes Go.WideShapes Go.ChangeAt Go.RowKit Go.Deep
set_option linter.unusedVariables false

theorem rp_all {l : List UInt8} {ps : Pth} (h : rp l = some ps) : allF rdP (pcP l) = some ps ∧ pathOk ps = true := by
  rw [rp_prog] at h
  cases hA : allF rdP (Lib.splitK [32] 0 (min 25 (l.length + 1) - 1) l) with
  | none => rw [hA] at h; cases h
  | some qs =>
    rw [hA] at h
    simp only at h
    split at h
    · rename_i hc
      cases h
      exact ⟨hA, hc.1⟩
    · cases h
theorem rp_bd (l : List UInt8) : ∀ p ∈ (rp l).getD [], (-9223372036854775808 ≤ p.1 ∧ p.1 ≤ 9223372036854775807) ∧ (-9223372036854775808 ≤ p.2 ∧ p.2 ≤ 9223372036854775807) := by
  cases h : rp l with
  | none => intro p hp; simp at hp
  | some ps => exact pts_bd (rp_all h).1
theorem rp_len (l : List UInt8) : ((rp l).getD []).length ≤ 1048576 := by
  cases h : rp l with
  | none => simp
  | some ps =>
    have := (rp_all h).2
    simp only [Option.getD_some]
    unfold pathOk at this
    simp at this
    omega

set_option maxRecDepth 100000 in
set_option maxHeartbeats 6400000 in
theorem walk (s : ByteArray) (w : World) (hs0 : s.size ≤ maxLen) (hE : Env w) :
    Calls Tryd.prog 5 #[.string s] w fun e w' => e = .returned (.bool true) ∧ Below w.heap.size w w' := by
  have hs1 : s.size ≤ 9223372036854775807 := by unfold maxLen at hs0; omega
  clear hs0
  by_cases hs : s.size ≤ 1048576
  rotate_left
  · have hs2 : (1048576 : Int) < (s.size : Int) := by omega
    go_enter Tryd.func5, Tryd.ntmps5
    go_wp2_with fail
    go_ret
    exact ⟨rfl, Below.refl _ _⟩
  have B := Below.refl w.heap.size w
  have HE := Lib.hid hE
  clear hE
  obtain ⟨P, hP⟩ : ∃ P, P = (rp s.data.toList).getD [] := ⟨_, rfl⟩
  obtain ⟨b, hb⟩ : ∃ b, b = (rp s.data.toList).isSome := ⟨_, rfl⟩
  have hbd := rp_bd s.data.toList
  have hpl := rp_len s.data.toList
  rw [← hP] at hbd hpl
  have HP := Lib.hid (And.intro hP hb)
  have HBD := Lib.hid hbd
  clear hP hb hbd
  go_enter Tryd.func5, Tryd.ntmps5
  go_wp2_with fail
  refine (ReadPath_s s _ hs).mono ?_
  rintro e w1 ⟨A1, c1, ps, rfl, hps, ho1, hb1⟩
  obtain rfl : ps = P := by rw [hps, HP.out.1]
  rw [← HP.out.2]
  have fw := Fresh.of_own ho1.out
  replace B := B.trans (hb1.mono B.size)
  have z1 := hb1.size
  have ufw := fw.upper
  clear ho1 hb1 hps
  go_wp2_with fail
  refine (ReadPath_i s _ (HE.out.below B) hs).mono ?_
  rintro e w2 ⟨A2, c2, ps2, rfl, hps, ho2, hb2⟩
  obtain rfl : ps2 = ps := by rw [hps, HP.out.1]
  rw [← HP.out.2]
  have fg := Fresh.of_own ho2.out
  replace fw := fw.below hb2
  replace B := B.trans (hb2.mono B.size)
  have z2 := hb2.size
  have ufg := fg.upper
  clear ho2 hb2 hps
  have PW := Lib.hid (show Pts w2 A1 ps2.length ps2 from fw.ptsb (by omega) HBD.out)
  have PG := Lib.hid (show Pts w2 A2 ps2.length ps2 from fg.ptsb (by omega) HBD.out)
  go_wp2_with fail
  refine (eqPathPointS_same _ _ _ _ _ ps2 _ PG.out PW.out).mono ?_
  rintro e w3 ⟨rfl, hb3⟩
  clear PW PG
  replace fw := fw.below hb3
  replace fg := fg.below hb3
  replace B := B.trans (hb3.mono B.size)
  have z3 := hb3.size
  clear hb3
  cases b <;>
  · go_wp2_with fail
    refine (markPathPointS_fresh _ _ _ _ _ _ _ fg hpl (by omega) (by omega)).mono ?_
    rintro e w4 ⟨rfl, r4, fm4, hgr4, hr4⟩
    have z4 := hgr4.size
    replace fw := fw.keep hgr4 (fun h0 g hA hb e => by have e1 := hr4 g e.symm; have e2 := ufw.out h0 g hA; omega)
    replace B := B.grown hgr4 B.size (fun g hg => by have := (hr4 g hg).1; omega)
    replace fg := fm4
    clear hgr4 hr4 fm4
    go_wp2_with fail
    have PG := Lib.hid (show Pts w4 A2 ps2.length (mks 1 ps2.length) from fg.ptsk (by omega) (by omega))
    refine (heldPathPointS_any _ _ _ _ _ PG.out hpl (by omega) (by omega)).mono ?_
    rintro e w5 ⟨rfl, hb5⟩
    clear PG
    replace fw := fw.below hb5
    replace fg := fg.below hb5
    replace B := B.trans (hb5.mono B.size)
    have z5 := hb5.size
    clear hb5
    go_wp2_with fail
    refine (ReadPath_i s _ (HE.out.below B) hs).mono ?_
    rintro e w6 ⟨A6, c6, ps3, rfl, hps, ho6, hb6⟩
    obtain rfl : ps3 = ps2 := by rw [hps, HP.out.1]
    rw [← HP.out.2]
    have fh := Fresh.of_own ho6.out
    replace fw := fw.below hb6
    replace fg := fg.below hb6
    replace B := B.trans (hb6.mono B.size)
    clear ho6 hb6 hps
    have PW := Lib.hid (show Pts w6 A1 ps3.length ps3 from fw.ptsb (by omega) HBD.out)
    have PH := Lib.hid (show Pts w6 A6 ps3.length ps3 from fh.ptsb (by omega) HBD.out)
    go_wp2_with fail
    refine (eqPathPointS_same _ _ _ _ _ ps3 _ PH.out PW.out).mono ?_
    rintro e w7 ⟨rfl, hb7⟩
    clear PW PH
    replace fg := fg.below hb7
    replace B := B.trans (hb7.mono B.size)
    clear hb7
    go_wp2_with fail
    have PG := Lib.hid (show Pts w7 A2 ps3.length (mks 1 ps3.length) from fg.ptsk (by omega) (by omega))
    refine (heldPathPointS_any _ _ _ _ _ PG.out hpl (by omega) (by omega)).mono ?_
    rintro e w8 ⟨rfl, hb8⟩
    replace B := B.trans (hb8.mono B.size)
    clear PG hb8
    go_wp2_with fail
    go_ret
    exact ⟨rfl, B⟩

set_option maxRecDepth 100000 in
theorem lifted (os : Os) (started : os.Started) (H : Type) (enc : TypeId × Value → H) :
    ReturnsInHanded {} Tryd.checked os 5 .any (fun w args => (Rows.fnExactReadPathSpec.pre enc Tryd.prog Tryd.f5 [] false w args ∧ laidMetH Tryd.prog Rows.fnExactReadPathRow.laid w) ∧ sizedMet enc Tryd.prog Tryd.f5 (OpenSpec.ofChange Rows.fnExactReadPathSpec) false w args) (Rows.fnExactReadPathSpec.post enc Tryd.prog Tryd.f5 false true false false) := by
  refine returns_laid (C := Tryd.checked) (X := fun w _ => laidMetH Tryd.prog Rows.fnExactReadPathRow.laid w) (fun _ _ _ hh h => h.of_heap hh) own started (by kernel_rfl) Tryd.func5
    (ChangeSpec.witness_shaped (enc := enc) (C := Tryd.checked) (os := os) (X := fun w _ => laidMetH Tryd.prog Rows.fnExactReadPathRow.laid w) false (World.laidAll Tryd.prog os tabs7) #[.string ByteArray.empty] 8 (World.laidAll_os _ _ _) (all_shaped os) (by kernel_rfl) (by kernel_rfl) (by kernel_rfl) (all_met os _)) ?_
  intro W base args ds gs before hval0 hW _ _ hL hsh _
  have hT := env_ofLaid hL hsh
  clear hL hsh
  have hval : ∀ (j : Nat) t v, Tryd.f5.params[j]? = some t → args[j]? = some v → Value.okWide Tryd.prog W .any base t v := hval0
  have hW' := hW
  obtain ⟨p, q, hA0, hV, rfl, hfz, hnd⟩ := hW
  have hA : DataW.TrodAll enc Tryd.prog W 0 (fun _ => true) true Tryd.f5.params.toList args.toList ds p := hA0
  rw [Tryd.params5] at hA hval
  obtain ⟨v0, vs0, d0, ds0, p0, q0, hargs, rfl, rfl, h0, r0⟩ := trodAll_cons hA
  obtain ⟨rfl, rfl, rfl⟩ := trodAll_nil r0
  obtain rfl : args = #[v0] := by cases args; simp_all
  obtain ⟨rfl, rfl⟩ := trodVars_none hV
  have k0 := h0
  have lt0 : ∀ x ∈ p0, x.block < W.heap.size := by obtain ⟨m, hm⟩ := k0; exact DataW.trod_lt m _ _ _ hm
  obtain ⟨a0, rfl, rfl, rfl, w0⟩ := Go.ChangeMaps.open_string Tryd.underlying9 (hval 0 9 v0 rfl rfl) h0
  clear hA0 hval0
  refine (walk a0 W w0 hT).mono fun e W' ⟨he, bel⟩ => ?_
  subst he
  exact ⟨_, rfl, _, _, _, [], _, [], hW', trodAll_mk1 (shut_bool Tryd.underlying4 _), (trodAll_cons_mk (Below.trod laidOut (by kernel_rfl) (of_decide_eq_true (by kernel_rfl)) k0 bel lt0) trodAll_mk0), rfl, bel.frame _, fun h => by cases h⟩

theorem over : Rows.fnExactReadPathRow.holds Tryd.pinned (OpenSpec.ofChange Rows.fnExactReadPathSpec) :=
  OpenClaim.holds_of_wide 5 Tryd.f5 rfl rfl rfl rfl rfl rfl rfl ⟨rfl, rfl, rfl, rfl, rfl⟩ rfl rfl rfl rfl rfl (by kernel_rfl) Tryd.func5 (by kernel_rfl)
    (of_decide_eq_true (by kernel_rfl)) (by unfold Func.isWrapper; first | (rw [if_pos (by decide +kernel)]; kernel_rfl) | (rw [if_neg (by decide +kernel)]; exact ⟨rfl, rfl⟩))
    (fun os started H enc _ => lifted os started H enc)

/-- The statement. -/
theorem proved : Rows.FnExactReadPathCardSaid :=
  Claim7.holds_tied_plain_at .later [] [.data, .data, .data, .data, .sentinel, .sentinel, .pinned] true (true, "da04765a722824c07ec946a76548558b1fc9722f5084371853a7eaaaea03d127") true
    over (fun _ h => by cases h) (by kernel_rfl) (fun _ h => by cases h) fnExactReadPath_row_tie rfl ⟨rfl, rfl⟩ (by kernel_rfl) rfl
    (fun f fn hf hfn => by
      obtain rfl : f = 5 := Option.some.inj ((show Tryd.prog.funcNamed "loop.example/g01013/laws.FnExactReadPath" = some 5 by kernel_rfl).symm.trans hf) |>.symm
      obtain rfl : fn = Tryd.f5 := (Option.some.inj (Tryd.func5.symm.trans hfn)).symm
      exact ⟨by kernel_rfl, fun j t ht => by
        rw [Tryd.params5] at ht
        have hm : t ∈ [9] := by simpa using Array.mem_of_getElem? ht
        have hall : ([9].all fun u => !Tryd.prog.wantsStandIn u) = true := by kernel_rfl
        exact (show Tryd.prog.wantsStandIn t = false by simpa using List.all_eq_true.1 hall t hm)⟩)
    (by kernel_rfl)
end Go.Proofs.YthkpffmcafdmeaaDoor.fnExactReadPath
