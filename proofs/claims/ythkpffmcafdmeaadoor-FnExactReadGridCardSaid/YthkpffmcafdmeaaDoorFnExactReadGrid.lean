/-
  Proves: for every input the law FnExactReadGrid returns true; the listed variables of the library are tied to the program's text. No condition.
-/
import Derived.Test.YthkpffmcafdmeaaDoorLiftD
import Derived.Test.YthkpffmcafdmeaaDoorRgI
import Derived.Test.YthkpffmcafdmeaaDoorRgS
import Derived.Test.YthkpffmcafdmeaaDoorGrid
namespace Go.Proofs.YthkpffmcafdmeaaDoor.fnExactReadGrid
open Go.ChangeShapes Go.WideShapes Go.ChangeAt Go.RowKit Go.Deep
set_option linter.unusedVariables false

theorem rg_bd {l : List UInt8} {R C S : Int} {hs : List Int} (h : (R, C, S, hs) = (rg l).getD (0, 0, 0, [])) : (0 ≤ R ∧ R ≤ 8) ∧ (0 ≤ C ∧ C ≤ 8) ∧ (0 ≤ S ∧ S ≤ 100) ∧ hs.length ≤ 64 ∧ ∀ x ∈ hs, 0 ≤ x ∧ x ≤ 5000 := by
  cases hr : rg l with
  | none =>
    rw [hr] at h
    simp only [Option.getD_none, Prod.mk.injEq] at h
    obtain ⟨rfl, rfl, rfl, rfl⟩ := h
    simp
  | some p =>
    rw [hr] at h
    simp only [Option.getD_some] at h
    subst h
    unfold rg at hr
    split at hr
    · rename_i h1 h2
      split at hr
      · rename_i hg
        cases hr
        obtain ⟨⟨r1, r2⟩, ⟨c1, c2⟩, ⟨s1, s2⟩, hn, hall⟩ := gridOk_iff.1 hg
        have hm := mul64 r1 r2 c1 c2
        refine ⟨by omega, by omega, by omega, by omega, ?_⟩
        intro x hx
        obtain ⟨i, hi, e⟩ := List.getElem_of_mem hx
        exact allB_iff.1 hall i x (by rw [List.getElem?_eq_getElem hi, e])
      · cases hr
    · cases hr

theorem heldGrid_any (R C S : Int) (A : Option Addr) (n c : Nat) (k : Int) (w : World) (h : Ints w A n (marks k n)) (hn : n ≤ 1048576) (hk1 : 0 ≤ k) (hk2 : k ≤ 100000000000) :
    Calls Tryd.prog 27 #[.agg #[.int .i64 R, .int .i64 C, .int .i64 S, .slice A n c], .int .i64 k] w fun e w' => e = .returned (.int .i64 (k + n)) ∧ Below w.heap.size w w' := by
  have hb0 : Below w.heap.size w (w.alloc (.cells #[.int .i64 R, .int .i64 C, .int .i64 S, .slice A n c] 34)) := (Below.refl _ _).alloc (Nat.le_refl _) _
  have HF := Lib.hid (And.intro (h.below hb0) hb0)
  clear h hb0
  go_enter Tryd.func27, Tryd.ntmps27
  go_wp2_with fail
  refine (heldInt64S_any _ _ _ _ _ HF.out.1 hn hk1 hk2).mono ?_
  rintro e w1 ⟨rfl, hq⟩
  have HB := Lib.hid (HF.out.2.trans ((below_held hq).mono HF.out.2.size))
  clear hq
  go_wp2_with fail
  go_ret
  exact ⟨rfl, HB.out⟩
set_option maxRecDepth 100000 in
set_option maxHeartbeats 6400000 in
theorem walk (s : ByteArray) (w : World) (hs0 : s.size ≤ maxLen) (hE : Env w) :
    Calls Tryd.prog 6 #[.string s] w fun e w' => e = .returned (.bool true) ∧ Below w.heap.size w w' := by
  have hs1 : s.size ≤ 9223372036854775807 := by unfold maxLen at hs0; omega
  clear hs0
  by_cases hs : s.size ≤ 1048576
  rotate_left
  · have hs2 : (1048576 : Int) < (s.size : Int) := by omega
    go_enter Tryd.func6, Tryd.ntmps6
    go_wp2_with fail
    go_ret
    exact ⟨rfl, Below.refl _ _⟩
  have B := Below.refl w.heap.size w
  have HE := Lib.hid hE
  clear hE
  obtain ⟨b, hb⟩ : ∃ b, b = (rg s.data.toList).isSome := ⟨_, rfl⟩
  have HP := Lib.hid hb
  clear hb
  go_enter Tryd.func6, Tryd.ntmps6
  go_wp2_with fail
  refine (ReadGrid_s s _ hs).mono ?_
  rintro e w1 ⟨A1, c1, R, C, S, hv, rfl, hps, ho1, hb1⟩
  rw [← HP.out]
  have HBD := Lib.hid (rg_bd hps.out)
  obtain ⟨n, hn⟩ : ∃ n, n = hv.length := ⟨_, rfl⟩
  have fw : Fresh w1 w.heap.size 2 1 A1 n c1 (hv.map (.int .i64)) := by rw [hn]; exact Fresh.of_own ho1.out
  have hn64 : n ≤ 64 := by rw [hn]; exact HBD.out.2.2.2.1
  have HXB := Lib.hid (show ∀ x ∈ hv, -9223372036854775808 ≤ x ∧ x ≤ 9223372036854775807 from fun x hx => by have := HBD.out.2.2.2.2 x hx; omega)
  rw [← hn]
  have HN := Lib.hid hn
  replace B := B.trans (hb1.mono B.size)
  have ufw := fw.upper
  clear ho1 hb1 hn
  have z1 := B.size
  have hba : Below w1.heap.size w1 (w1.alloc (.cells #[.int .i64 R, .int .i64 C, .int .i64 S, .slice A1 n c1] 34)) := (Below.refl _ _).alloc (Nat.le_refl _) _
  have zba : w1.heap.size < (w1.alloc (.cells #[.int .i64 R, .int .i64 C, .int .i64 S, .slice A1 n c1] 34)).heap.size := by simp
  have X := Lib.hid (boxG_of w1 R C S A1 n c1 34)
  replace fw := fw.below hba
  replace B := B.trans (hba.mono B.size)
  clear hba
  go_wp2_with fail
  refine (ReadGrid_i s _ (HE.out.below B) hs).mono ?_
  rintro e w2 ⟨A2, c2, R2, C2, S2, hv2, rfl, hps2, ho2, hb2⟩
  rw [← HP.out]
  obtain ⟨rfl, rfl, rfl, rfl⟩ : R2 = R ∧ C2 = C ∧ S2 = S ∧ hv2 = hv := by
    have h1 := hps2.out.trans hps.out.symm
    simp only [Prod.mk.injEq] at h1
    exact h1
  have fg := Fresh.of_own ho2.out
  rw [← HN.out] at fg
  rw [← HN.out]
  replace fw := fw.below hb2
  replace X := Lib.hid (X.out.below hb2)
  replace B := B.trans (hb2.mono B.size)
  have ufg := fg.upper
  have z2 := hb2.size
  clear ho2 hb2 hps2
  have hba : Below w2.heap.size w2 (w2.alloc (.cells #[.int .i64 R2, .int .i64 C2, .int .i64 S2, .slice A2 n c2] 34)) := (Below.refl _ _).alloc (Nat.le_refl _) _
  have Y := Lib.hid (boxG_of w2 R2 C2 S2 A2 n c2 34)
  replace fw := fw.below hba
  replace fg := fg.below hba
  replace X := Lib.hid (X.out.below hba)
  replace B := B.trans (hba.mono B.size)
  clear hba
  have PW := Lib.hid (fw.ints HXB.out)
  have PG := Lib.hid (fg.ints HXB.out)
  obtain ⟨x0, x1, x2, x3⟩ := X.out
  go_wp2_with fail
  refine (eqGrid_same _ _ _ _ _ _ _ _ hv2 _ PG.out PW.out).mono ?_
  rintro e w3 ⟨rfl, hb3⟩
  clear x0 x1 x2 x3 PW PG
  replace fw := fw.below hb3
  replace fg := fg.below hb3
  replace X := Lib.hid (X.out.below hb3)
  replace Y := Lib.hid (Y.out.below hb3)
  replace B := B.trans (hb3.mono B.size)
  have z3 := hb3.size
  clear hb3
  cases b <;>
  · obtain ⟨y0, y1, y2, y3⟩ := Y.out
    go_wp2_with fail
    refine (markGrid_fresh _ _ _ _ _ _ _ _ _ _ fg (by omega) (by omega) (by omega)).mono ?_
    rintro e w4 ⟨rfl, r4, fm4, hgr4, hr4⟩
    clear y0 y1 y2 y3
    replace fw := fw.keep hgr4 (fun h0 g hA hb e => by have e1 := hr4 g e.symm; have e2 := ufw.out h0 g hA; omega)
    replace X := Lib.hid (X.out.grow hgr4 (fun g hg => by have := (hr4 g hg).1; omega))
    replace Y := Lib.hid (Y.out.grow hgr4 (fun g hg => by have e1 := hr4 g hg; have e2 := ufg.out e1.2.1 g e1.2.2; omega))
    replace B := B.grown hgr4 B.size (fun g hg => by have := (hr4 g hg).1; omega)
    replace fg := fm4
    clear hgr4 hr4 fm4
    have PG := Lib.hid (fg.ints (marks_bd (by omega) (by omega) (by omega)))
    obtain ⟨y0, y1, y2, y3⟩ := Y.out
    go_wp2_with fail
    refine (heldGrid_any _ _ _ _ _ _ _ _ PG.out (by omega) (by omega) (by omega)).mono ?_
    rintro e w5 ⟨rfl, hb5⟩
    clear PG y0 y1 y2 y3
    replace fw := fw.below hb5
    replace fg := fg.below hb5
    replace X := Lib.hid (X.out.below hb5)
    replace Y := Lib.hid (Y.out.below hb5)
    replace B := B.trans (hb5.mono B.size)
    clear hb5
    go_wp2_with fail
    refine (ReadGrid_i s _ (HE.out.below B) hs).mono ?_
    rintro e w6 ⟨A6, c6, R6, C6, S6, hv6, rfl, hps6, ho6, hb6⟩
    rw [← HP.out]
    obtain ⟨rfl, rfl, rfl, rfl⟩ : R6 = R2 ∧ C6 = C2 ∧ S6 = S2 ∧ hv6 = hv2 := by
      have h1 := hps6.out.trans hps.out.symm
      simp only [Prod.mk.injEq] at h1
      exact h1
    have fh := Fresh.of_own ho6.out
    rw [← HN.out] at fh
    rw [← HN.out]
    replace fw := fw.below hb6
    replace fg := fg.below hb6
    replace X := Lib.hid (X.out.below hb6)
    replace Y := Lib.hid (Y.out.below hb6)
    replace B := B.trans (hb6.mono B.size)
    clear ho6 hb6 hps6
    have hba : Below w6.heap.size w6 (w6.alloc (.cells #[.int .i64 R6, .int .i64 C6, .int .i64 S6, .slice A6 n c6] 34)) := (Below.refl _ _).alloc (Nat.le_refl _) _
    have Z := Lib.hid (boxG_of w6 R6 C6 S6 A6 n c6 34)
    replace fw := fw.below hba
    replace fg := fg.below hba
    replace fh := fh.below hba
    replace X := Lib.hid (X.out.below hba)
    replace Y := Lib.hid (Y.out.below hba)
    replace B := B.trans (hba.mono B.size)
    clear hba
    have PW := Lib.hid (fw.ints HXB.out)
    have PH := Lib.hid (fh.ints HXB.out)
    obtain ⟨x0, x1, x2, x3⟩ := X.out
    go_wp2_with fail
    refine (eqGrid_same _ _ _ _ _ _ _ _ hv6 _ PH.out PW.out).mono ?_
    rintro e w7 ⟨rfl, hb7⟩
    clear PW PH x0 x1 x2 x3
    replace fg := fg.below hb7
    replace Y := Lib.hid (Y.out.below hb7)
    replace B := B.trans (hb7.mono B.size)
    clear hb7
    have PG := Lib.hid (fg.ints (marks_bd (by omega) (by omega) (by omega)))
    obtain ⟨y0, y1, y2, y3⟩ := Y.out
    go_wp2_with fail
    refine (heldGrid_any _ _ _ _ _ _ _ _ PG.out (by omega) (by omega) (by omega)).mono ?_
    rintro e w8 ⟨rfl, hb8⟩
    replace B := B.trans (hb8.mono B.size)
    clear PG hb8 y0 y1 y2 y3
    go_wp2_with fail
    go_ret
    exact ⟨rfl, B⟩

set_option maxRecDepth 100000 in
theorem lifted (os : Os) (started : os.Started) (H : Type) (enc : TypeId × Value → H) :
    ReturnsInHanded {} Tryd.checked os 6 .any (fun w args => (Rows.fnExactReadGridSpec.pre enc Tryd.prog Tryd.f6 [] false w args ∧ laidMetH Tryd.prog Rows.fnExactReadGridRow.laid w) ∧ sizedMet enc Tryd.prog Tryd.f6 (OpenSpec.ofChange Rows.fnExactReadGridSpec) false w args) (Rows.fnExactReadGridSpec.post enc Tryd.prog Tryd.f6 false true false false) := by
  refine returns_laid (C := Tryd.checked) (X := fun w _ => laidMetH Tryd.prog Rows.fnExactReadGridRow.laid w) (fun _ _ _ hh h => h.of_heap hh) own started (by kernel_rfl) Tryd.func6
    (ChangeSpec.witness_shaped (enc := enc) (C := Tryd.checked) (os := os) (X := fun w _ => laidMetH Tryd.prog Rows.fnExactReadGridRow.laid w) false (World.laidAll Tryd.prog os tabs7) #[.string ByteArray.empty] 8 (World.laidAll_os _ _ _) (all_shaped os) (by kernel_rfl) (by kernel_rfl) (by kernel_rfl) (all_met os _)) ?_
  intro W base args ds gs before hval0 hW _ _ hL hsh _
  have hT := env_ofLaid hL hsh
  clear hL hsh
  have hval : ∀ (j : Nat) t v, Tryd.f6.params[j]? = some t → args[j]? = some v → Value.okWide Tryd.prog W .any base t v := hval0
  have hW' := hW
  obtain ⟨p, q, hA0, hV, rfl, hfz, hnd⟩ := hW
  have hA : DataW.TrodAll enc Tryd.prog W 0 (fun _ => true) true Tryd.f6.params.toList args.toList ds p := hA0
  rw [Tryd.params6] at hA hval
  obtain ⟨v0, vs0, d0, ds0, p0, q0, hargs, rfl, rfl, h0, r0⟩ := trodAll_cons hA
  obtain ⟨rfl, rfl, rfl⟩ := trodAll_nil r0
  obtain rfl : args = #[v0] := by cases args; simp_all
  obtain ⟨rfl, rfl⟩ := trodVars_none hV
  have k0 := h0
  have lt0 : ∀ x ∈ p0, x.block < W.heap.size := by obtain ⟨m, hm⟩ := k0; exact DataW.trod_lt m _ _ _ hm
  obtain ⟨a0, rfl, rfl, rfl, w0⟩ := Go.ChangeMaps.open_string Tryd.underlying9 (hval 0 9 v0 rfl rfl) h0
  clear hA0 hval0
  refine (walk a0 W w0 hT).mono fun e W' ⟨he, bel⟩ => ?_
  subst he
  exact ⟨_, rfl, _, _, _, [], _, [], hW', trodAll_mk1 (shut_bool Tryd.underlying4 _), (trodAll_cons_mk (Below.trod laidOut (by kernel_rfl) (of_decide_eq_true (by kernel_rfl)) k0 bel lt0) trodAll_mk0), rfl, bel.frame _, fun h => by cases h⟩

theorem over : Rows.fnExactReadGridRow.holds Tryd.pinned (OpenSpec.ofChange Rows.fnExactReadGridSpec) :=
  OpenClaim.holds_of_wide 6 Tryd.f6 rfl rfl rfl rfl rfl rfl rfl ⟨rfl, rfl, rfl, rfl, rfl⟩ rfl rfl rfl rfl rfl (by kernel_rfl) Tryd.func6 (by kernel_rfl)
    (of_decide_eq_true (by kernel_rfl)) (by unfold Func.isWrapper; first | (rw [if_pos (by decide +kernel)]; kernel_rfl) | (rw [if_neg (by decide +kernel)]; exact ⟨rfl, rfl⟩))
    (fun os started H enc _ => lifted os started H enc)

/-- The statement. -/
theorem proved : Rows.FnExactReadGridCardSaid :=
  Claim7.holds_tied_plain_at .later [] [.data, .data, .data, .data, .sentinel, .sentinel, .pinned] true (true, "da04765a722824c07ec946a76548558b1fc9722f5084371853a7eaaaea03d127") true
    over (fun _ h => by cases h) (by kernel_rfl) (fun _ h => by cases h) fnExactReadGrid_row_tie rfl ⟨rfl, rfl⟩ (by kernel_rfl) rfl
    (fun f fn hf hfn => by
      obtain rfl : f = 6 := Option.some.inj ((show Tryd.prog.funcNamed "loop.example/g01013/laws.FnExactReadGrid" = some 6 by kernel_rfl).symm.trans hf) |>.symm
      obtain rfl : fn = Tryd.f6 := (Option.some.inj (Tryd.func6.symm.trans hfn)).symm
      exact ⟨by kernel_rfl, fun j t ht => by
        rw [Tryd.params6] at ht
        have hm : t ∈ [9] := by simpa using Array.mem_of_getElem? ht
        have hall : ([9].all fun u => !Tryd.prog.wantsStandIn u) = true := by kernel_rfl
        exact (show Tryd.prog.wantsStandIn t = false by simpa using List.all_eq_true.1 hall t hm)⟩)
    (by kernel_rfl)
end Go.Proofs.YthkpffmcafdmeaaDoor.fnExactReadGrid
