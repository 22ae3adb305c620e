/-
  Proves: for every input the law FnForms returns true, and its arguments read as before. No condition.
-/
import Derived.Test.YtlfjjdglffiinaaLift
import Derived.Test.YtlfjjdglffiinaaLyS
import Derived.Test.YtlfjjdglffiinaaLyG
import Derived.Test.YtlfjjdglffiinaaR8
namespace Go.Proofs.Ytlfjjdglffiinaa.fnForms
open Go.ChangeShapes Go.WideShapes Go.ChangeAt Go.RowKit Go.Deep
set_option linter.unusedVariables false

/-- Turned over, a gradient is the opposite one. -/
theorem grad_turned {ls : List Ly} {k n : Nat} (hn : ls.length = n) (hk : k + 1 < n) : gradF ls k = - gradF ls.reverse (n - 2 - k) := by
  obtain ⟨a, ha⟩ : ∃ a, ls[k]? = some a := ⟨_, List.getElem?_eq_getElem (by omega)⟩
  obtain ⟨b, hb⟩ : ∃ b, ls[k + 1]? = some b := ⟨_, List.getElem?_eq_getElem (by omega)⟩
  have h1 : ls.reverse[n - 2 - k]? = some b := by rw [List.getElem?_reverse (by omega), ← hb]; congr 1; omega
  have h2 : ls.reverse[n - 2 - k + 1]? = some a := by rw [List.getElem?_reverse (by omega), ← ha]; congr 1; omega
  rw [gradF_eq ha hb, gradF_eq h1 h2]
  exact gradN_swap _ _ _ _
theorem run_neq_ly (f i v d t h a : Int) (W : World) : (binOp .neq 35 (Lyv f i v d t h a) (Lyv f i v d t h a)).run Try.prog W = .ok (.bool false) W := by
  simp [go_sem]
theorem next_facts {f v a g : Int} (hf : 1 ≤ f ∧ f ≤ 6) (hv : 0 ≤ v) : (1 ≤ nextN f v a g ∧ nextN f v a g ≤ 6) ∧ (0 < v → nextN f v a g = 6) ∧ (v = 0 → nextN f v a g ≠ f → 24 ≤ a) := by
  refine ⟨nextN_bd hf, fun h => by unfold nextN; rw [if_pos (.inl h)], fun h h2 => ?_⟩
  revert h2
  unfold nextN
  (repeat' split) <;> omega
set_option maxRecDepth 100000 in
set_option maxHeartbeats 4000000 in
theorem walk (A0 : Option Addr) (n0 c0 : Nat) (z0 : Unit) (A1 : Option Addr) (n1 c1 : Nat) (z1 : Unit) (w : World) (h0 : Byts w A0 n0) (h1 : Byts w A1 n1) :
    Calls Try.prog 5 #[.slice A0 n0 c0, .slice A1 n1 c1] w fun e w' => e = .returned (.bool true) ∧ Below w.heap.size w w' := by
  have hm0 := h0.1
  have hm1 := h1.1
  by_cases hn : n0 ≤ 1048576 ∧ n1 ≤ 1048576
  rotate_left
  · have HN := Lib.hid hn
    clear hn
    go_enter Try.func5, Try.ntmps5
    go_wp2_with (go_at_call 6; refine (r8Long_yes _ _ _ _ _ _ _ hm0 hm1 HN.out).mono ?_; rintro e w' ⟨rfl, rfl⟩)
    go_ret
    exact ⟨rfl, Below.refl _ _⟩
  obtain ⟨hn0, hn1⟩ := hn
  have HH := Lib.hid (And.intro h0 h1)
  clear h0 h1
  go_enter Try.func5, Try.ntmps5
  go_wp2_with (go_at_call 6; refine (r8Long_no _ _ _ _ _ _ _ hn0 hn1).mono ?_; rintro e w' ⟨rfl, rfl⟩)
  refine (R8Profile_d _ _ _ _ HH.out.1).mono ?_
  rintro e w1 ⟨⟨A, n, c, ls, rfl, hl, hn5⟩, hb1⟩
  have HB1 := Lib.hid hb1
  have HL := Lib.hid hl
  have hown0 := World.ownsRow_lit (base := w1.heap.size) (e := 35) (size := 7) w1 #[] 0 (Nat.le_refl _) (by simp) rfl
  have hba : Below w1.heap.size w1 (w1.alloc (.cells #[] 35)) := (Below.refl _ _).alloc (Nat.le_refl _) _
  have H0 := Lib.hid (And.intro hown0 hba)
  clear hb1 hl hown0 hba
  go_wp2_with fail
  go_loopw [6, 7] (fun o kv wr => ∃ k : Nat, k ≤ n ∧ kv = .int .i64 ((k : Int) - 1) ∧ wr.ownsRow w1.heap.size 35 7 o (n - k) (lyCells ((ls.drop k).reverse)) ∧ Below w1.heap.size w1 wr) (fun _ kv _ => (intOf kv + 1).toNat)
  case atStart => exact ⟨n, Nat.le_refl _, rfl, by rw [List.drop_of_length_le (by rw [HL.out.1]; omega)]; simpa [lyCells] using H0.out.1, H0.out.2⟩
  case round =>
    clear H0
    obtain ⟨k, hk, rfl, hown, hbl⟩ := hrel
    cases k with
    | succ k =>
      obtain ⟨b, off, f, i, v, d, t, h, a, rfl, HX, hc, hb⟩ := (HL.out.below hbl).at_ (show k < n by omega)
      obtain ⟨c0, c1, c2, c3, c4, c5, c6⟩ := hc
      have hki : (k : Int) < (n : Int) := by omega
      have hks : (((k + 1 : Nat) : Int) - 1) = (k : Int) := by omega
      rw [hks]
      have hz := hbl.size
      have HO := Lib.hid (And.intro hown hbl)
      clear hb hown hbl hks
      go_wp2_with (at_builtin; refine wp_app rfl (.tmp 31) (.tmp 36) 24 rfl w1.heap.size 35 (.agg #[.int .i64 0, .int .i64 0, .int .i64 0, .int .i64 0, .int .i64 0, .int .i64 0, .int .i64 0]) 7 56 Try.underlying24 info_ly rfl (by omega) _ (n - (k + 1)) (lyCells ((ls.drop (k + 1)).reverse)) rfl HO.out.1 [.int .i64 f, .int .i64 i, .int .i64 v, .int .i64 d, .int .i64 t, .int .i64 h, .int .i64 a] rfl (by rfl) (by intro u hu; simp at hu; rcases hu with rfl | rfl | rfl | rfl | rfl | rfl | rfl <;> rfl) (by unfold maxLen; omega) (by omega) (by omega) ?_; intro v' w5 hown5 hgrow5 hv5)
      have HF := Lib.hid (show w5.ownsRow w1.heap.size 35 7 v' (n - k) (lyCells ((ls.drop k).reverse)) ∧ Below w1.heap.size w1 w5 from by
        refine ⟨?_, below_app HO.out.2 HO.out.1 hgrow5 (by omega) (Nat.le_refl _)⟩
        obtain ⟨hlt, hx⟩ := List.getElem?_eq_some_iff.1 HX.out
        rw [List.drop_eq_getElem_cons hlt, hx, List.reverse_cons, lyCells_snoc, show n - k = n - (k + 1) + 1 by omega]
        exact hown5)
      clear hown5 hgrow5 c0 c1 c2 c3 c4 c5 c6
      go_roundw
      case rel => exact ⟨k, by omega, rfl, HF.out.1, HF.out.2⟩
      case measure => simp [intOf]
    | zero =>
      rw [List.drop_zero, Nat.sub_zero] at hown
      obtain ⟨A2, c2, rfl, _⟩ := own_form hown
      have HT := Lib.hid (LBag.of_own hown (by rw [List.length_reverse]; exact HL.out.1) (by omega) (fun x hx => HL.out.2.2.1 x (by simpa using hx))).lys
      have HLR := Lib.hid (HL.out.below hbl)
      have HBR := Lib.hid (HB1.out.trans (hbl.mono HB1.out.size))
      clear hown hbl
      rename World => wt
      rw [show (((0 : Nat) : Int) - 1) = -1 from rfl]
      go_wp2_with fail
      go_loopw [8] (fun kv wr => ∃ k : Nat, kv = .int .i64 k ∧ Below wt.heap.size wt wr) (fun kv _ => n - (intOf kv).toNat)
      case atStart => exact ⟨0, rfl, Below.refl _ _⟩
      case round =>
        obtain ⟨k, rfl, hbl⟩ := hrel
        have HB := Lib.hid hbl
        clear hbl
        by_cases hlt : k + 1 < n
        · have hki : (k : Int) < (n : Int) - 1 := by omega
          have hq : (n : Int) - 2 - (k : Int) = ((n - 2 - k : Nat) : Int) := by omega
          have hgt := grad_turned HL.out.1 hlt
          obtain ⟨G, hG⟩ : ∃ G, G = gradF ls.reverse (n - 2 - k) := ⟨_, rfl⟩
          have hGb := gradF_bd (ls := ls.reverse) (fun x hx => HL.out.2.2.1 x (by simpa using hx)) (n - 2 - k)
          rw [← hG] at hgt hGb
          have HG := Lib.hid (And.intro hgt hG)
          have HQ := Lib.hid hq
          clear hgt hG hq
          go_wp2_with fail
          refine (GradientOf_t _ _ _ ls k _ (HLR.out.below HB.out) hlt).mono ?_
          rintro e w2 ⟨rfl, hb2⟩
          rw [HG.out.1]
          have HB2 := Lib.hid (HB.out.trans (hb2.mono HB.out.size))
          clear hb2
          go_wp2_with fail
          rw [HQ.out]
          refine (GradientOf_t _ _ _ ls.reverse (n - 2 - k) _ (HT.out.below HB2.out) (by omega)).mono ?_
          rintro e w3 ⟨rfl, hb3⟩
          rw [← HG.out.2]
          have HB3 := Lib.hid (HB2.out.trans (hb3.mono HB2.out.size))
          clear hb3
          go_wp2_with fail
          go_roundw
          case rel => exact ⟨k + 1, by go_num, HB3.out⟩
          case measure => simp [intOf]; omega
        · have hki : ¬ (k : Int) < (n : Int) - 1 := by omega
          have HBR2 := Lib.hid (HBR.out.trans (HB.out.mono HBR.out.size))
          go_wp2_with fail
          refine (ChangeForms_t _ _ _ ls _ (HLR.out.below HB.out)).mono ?_
          rintro e w2 ⟨A3, c3, rfl, hbag, hb2⟩
          have HL3 := Lib.hid ((HLR.out.below HB.out).below hb2)
          have HN3 := Lib.hid hbag.lys
          have HB3 := Lib.hid (HBR2.out.trans (hb2.mono HBR2.out.size))
          clear hbag hb2
          go_wp2_with fail
          go_loopw [15, 16, 17] (fun kv _ _ wr => ∃ k : Nat, k ≤ n ∧ kv = .int .i64 k ∧ Below w2.heap.size w2 wr) (fun kv _ _ _ => n - (intOf kv).toNat)
          case atStart => exact ⟨0, Nat.zero_le _, rfl, Below.refl _ _⟩
          case round =>
            clear hlt hki
            obtain ⟨k, hk, rfl, hbl⟩ := hrel
            have HB := Lib.hid hbl
            by_cases hlt : k < n
            · obtain ⟨b, off, f, i, v, d, t, h, a, rfl, HX, hc, hb⟩ := (HL3.out.below hbl).at_ hlt
              obtain ⟨b', off', f', i', v', d', t', h', a', hA', HX', hc', hb'⟩ := (HN3.out.below hbl).at_ hlt
              subst hA'
              have hfx := formsF_at HX.out
              rw [HX'.out] at hfx
              simp only [formX, Option.some.injEq, Ly.mk.injEq] at hfx
              obtain ⟨rfl, rfl, rfl, rfl, rfl, rfl, rfl⟩ := hfx
              obtain ⟨c0, c1, c2', c3', c4, c5, c6⟩ := hc
              obtain ⟨e0, e1, e2, e3, e4, e5, e6⟩ := hc'
              obtain ⟨hnf, hn6, hna⟩ := next_facts (f := f) (v := v') (a := a') (g := steepF ls k) hb.1 hb.2.2.1.1
              obtain ⟨nf, hnfe⟩ : ∃ nf, nf = nextN f v' a' (steepF ls k) := ⟨_, rfl⟩
              rw [← hnfe] at hnf hn6 hna e0
              have hbl1 := cell_lt c0
              have nb1 : b ≠ wr.heap.size := by omega
              have hki : (k : Int) < (n : Int) := by omega
              have hv := hb.2.2.1.1
              have HNF := Lib.hid (And.intro hn6 hna)
              clear hb hb' hbl hnfe hn6 hna
              have hne := fun W => run_neq_ly f i' v' d' t' h' a' W
              have hcase : (0 < v' ∧ nf = 6) ∨ (v' = 0 ∧ nf = f) ∨ (v' = 0 ∧ nf ≠ f ∧ 24 ≤ a') := by
                by_cases h0 : 0 < v'
                · exact .inl ⟨h0, HNF.out.1 h0⟩
                · by_cases h1 : nf = f
                  · exact .inr (.inl ⟨by omega, h1⟩)
                  · exact .inr (.inr ⟨by omega, h1, HNF.out.2 (by omega) h1⟩)
              rcases hcase with ⟨h0, rfl⟩ | ⟨rfl, rfl⟩ | ⟨rfl, h1, h2⟩
              · have hv0 : (v' == 0) = false := by simp; omega
                have hvd : decide (0 < v') = true := by simp; omega
                cases hb1 : ((6 : Int) != f) <;> cases hb2 : decide (a' < 24)
                all_goals
                  have hsn := (nameS_full 6).1
                  have hsn2 := (nameS_full 6).2
                  have HFN := fun W : World => Lib.hid (FormName_t 6 W (by omega) (by omega))
                  go_wp2_with fail
                  go_quiet ((go_at_call 24; exact quiet_left (HFN _).out))
                  clear c0 c1 c2' c3' c4 c5 c6 e0 e1 e2 e3 e4 e5 e6
                  go_wp2_with fail
                  go_roundw
                  case rel => exact ⟨k + 1, by omega, by go_num, below_drewN (HB.out.alloc HB.out.size _) _⟩
                  case measure => simp [intOf]; omega
              · have g2 : (nf != nf) = false := by simp
                have hsn := (nameS_full nf).1
                have hsn2 := (nameS_full nf).2
                have HFN := fun W : World => Lib.hid (FormName_t nf W (by omega) (by omega))
                go_wp2_with fail
                go_quiet ((go_at_call 24; exact quiet_left (HFN _).out))
                clear c0 c1 c2' c3' c4 c5 c6 e0 e1 e2 e3 e4 e5 e6
                go_wp2_with fail
                go_roundw
                case rel => exact ⟨k + 1, by omega, by go_num, below_drewN (HB.out.alloc HB.out.size _) _⟩
                case measure => simp [intOf]; omega
              · have hb1 : (nf != f) = true := by simpa using h1
                have hb2 : decide (a' < 24) = false := by simp; omega
                have hsn := (nameS_full nf).1
                have hsn2 := (nameS_full nf).2
                have HFN := fun W : World => Lib.hid (FormName_t nf W (by omega) (by omega))
                go_wp2_with fail
                go_quiet ((go_at_call 24; exact quiet_left (HFN _).out))
                clear c0 c1 c2' c3' c4 c5 c6 e0 e1 e2 e3 e4 e5 e6
                go_wp2_with fail
                go_roundw
                case rel => exact ⟨k + 1, by omega, by go_num, below_drewN (HB.out.alloc HB.out.size _) _⟩
                case measure => simp [intOf]; omega
            · obtain rfl : k = n := by omega
              have HF := Lib.hid (HB3.out.trans (hbl.mono HB3.out.size))
              clear hbl
              go_wp2_with fail
              go_ret
              exact ⟨rfl, HF.out⟩

set_option maxRecDepth 100000 in
theorem lifted (os : Os) (started : os.Started) (H : Type) (enc : TypeId × Value → H) :
    ReturnsInHanded {} Try.checked os 5 .any (Rows.fnFormsSpec.pre6 enc Try.prog Try.f5 Rows.fnFormsRow.domain false) (Rows.fnFormsSpec.post enc Try.prog Try.f5 false true false false) := by
  refine returnsInHanded_of_change (C := Try.checked) own started (by kernel_rfl) Try.func5
    (ChangeSpec.witness6 (enc := enc) (C := Try.checked) false ⟨#[], #[.slice none 0 0, .slice none 0 0], []⟩ 8 (by kernel_rfl) (by kernel_rfl) (by kernel_rfl) (by kernel_rfl)) ?_
  intro W base args ds gs before hval0 hW hcnd _
  have hval : ∀ (j : Nat) t v, Try.f5.params[j]? = some t → args[j]? = some v → Value.okWide Try.prog W .any base t v := hval0
  have hW' := hW
  obtain ⟨p, q, hA0, hV, rfl, hfz, hnd⟩ := hW
  have hA : DataW.TrodAll enc Try.prog W 0 (fun _ => true) true Try.f5.params.toList args.toList ds p := hA0
  rw [Try.params5] at hA hval
  obtain ⟨v0, vs0, d0, ds0, p0, q0, hargs, rfl, rfl, h0, r0⟩ := trodAll_cons hA
  obtain ⟨v1, vs1, d1, ds1, p1, q1, rfl, rfl, rfl, h1, r1⟩ := trodAll_cons r0
  obtain ⟨rfl, rfl, rfl⟩ := trodAll_nil r1
  obtain rfl : args = #[v0, v1] := by cases args; simp_all
  obtain ⟨rfl, rfl⟩ := trodVars_none hV
  have k0 := h0
  have lt0 : ∀ x ∈ p0, x.block < W.heap.size := by obtain ⟨m, hm⟩ := k0; exact DataW.trod_lt m _ _ _ hm
  obtain ⟨a0, n0, c0, rfl⟩ := okWide_slice Try.underlying22 (hval 0 22 v0 rfl rfl)
  obtain ⟨z0, w0⟩ := bytes_open Try.underlying22 Try.underlying5 (by kernel_rfl) h0
  have k1 := h1
  have lt1 : ∀ x ∈ p1, x.block < W.heap.size := by obtain ⟨m, hm⟩ := k1; exact DataW.trod_lt m _ _ _ hm
  obtain ⟨a1, n1, c1, rfl⟩ := okWide_slice Try.underlying22 (hval 1 22 v1 rfl rfl)
  obtain ⟨z1, w1⟩ := bytes_open Try.underlying22 Try.underlying5 (by kernel_rfl) h1
  clear hA0 hval0
  refine (walk a0 n0 c0 z0 a1 n1 c1 z1 W w0 w1).mono fun e W' ⟨he, bel⟩ => ?_
  subst he
  exact ⟨_, rfl, _, _, _, [], _, [], hW', trodAll_mk1 (shut_bool Try.underlying4 _), (trodAll_cons_mk (Below.trod laidOut (by kernel_rfl) (of_decide_eq_true (by kernel_rfl)) k0 bel lt0) (trodAll_cons_mk (Below.trod laidOut (by kernel_rfl) (of_decide_eq_true (by kernel_rfl)) k1 bel lt1) trodAll_mk0)), rfl, bel.frame _, fun h => by cases h⟩

theorem over : Rows.fnFormsRow.holds Try.pinned (OpenSpec.ofChange Rows.fnFormsSpec) :=
  OpenClaim.holds_of_wide 5 Try.f5 rfl rfl rfl rfl rfl rfl rfl ⟨rfl, rfl, rfl, rfl, rfl⟩ rfl rfl rfl rfl rfl (by kernel_rfl) Try.func5 (by kernel_rfl)
    (of_decide_eq_true (by kernel_rfl)) (by unfold Func.isWrapper; first | (rw [if_pos (by decide +kernel)]; kernel_rfl) | (rw [if_neg (by decide +kernel)]; exact ⟨rfl, rfl⟩))
    (fun os started H enc _ => lifted os started H enc)

/-- The statement. -/
theorem proved : Rows.FnFormsSaid := over
end Go.Proofs.Ytlfjjdglffiinaa.fnForms
