/-
  Proves: for every input the law FnHours returns true, and its arguments read as before. No condition.
-/
import Derived.Test.YtlfjjdglffiinaaLift
import Derived.Test.YtlfjjdglffiinaaLyX
import Derived.Test.YtlfjjdglffiinaaR8
namespace Go.Proofs.Ytlfjjdglffiinaa.fnHours
open Go.ChangeShapes Go.WideShapes Go.ChangeAt Go.RowKit Go.Deep
set_option linter.unusedVariables false

theorem R8Profile_r (A : Option Addr) (n c : Nat) (w : World) (h : Byts w A n) :
    Calls Try.prog 7 #[.slice A n c] w fun e w' => (∃ A' n' c' ls, e = .returned (.slice A' n' c') ∧ Lys w' A' n' ls ∧ n' ≤ 5 ∧ (0 < n' → n' ≤ c' ∧ c' ≤ maxLen)) ∧ Below w.heap.size w w' := by
  have HH := Lib.hid h
  clear h
  go_enter Try.func7, Try.ntmps7
  go_wp2_with fail
  refine (from_p _ _ _ _ HH.out).mono ?_
  rintro e w1 ⟨rfl, hs1, hb1⟩
  have H1 := Lib.hid (And.intro hs1 hb1)
  clear hs1 hb1
  go_wp2_with fail
  refine (l03Draw_d _ _ _ H1.out.1 (by omega)).mono ?_
  rintro e w2 ⟨⟨A', n', c', ls, rfl, hbag, hn5⟩, hs2, hg2⟩
  have hlb := LBag.of_own hbag.1 hbag.2.1 (by omega) hbag.2.2
  have H2 := Lib.hid (And.intro hlb.lys (And.intro (fun h => hlb.room h) (below_grown H1.out.2 hg2 H1.out.2.size (Nat.le_refl _))))
  clear hs2 hg2 hbag hlb
  go_wp2_with fail
  go_ret
  exact ⟨⟨_, _, _, _, rfl, H2.out.1, hn5, H2.out.2.1⟩, H2.out.2.2⟩
set_option maxRecDepth 100000 in
set_option maxHeartbeats 8000000 in
theorem walk (A0 : Option Addr) (n0 c0 : Nat) (z0 : Unit) (A1 : Option Addr) (n1 c1 : Nat) (z1 : Unit) (w : World) (h0 : Byts w A0 n0) (h1 : Byts w A1 n1) :
    Calls Try.prog 4 #[.slice A0 n0 c0, .slice A1 n1 c1] w fun e w' => e = .returned (.bool true) ∧ Below w.heap.size w w' := by
  have hm0 := h0.1
  have hm1 := h1.1
  by_cases hn : n0 ≤ 1048576 ∧ n1 ≤ 1048576
  rotate_left
  · have HN := Lib.hid hn
    clear hn
    go_enter Try.func4, Try.ntmps4
    go_wp2_with (go_at_call 6; refine (r8Long_yes _ _ _ _ _ _ _ hm0 hm1 HN.out).mono ?_; rintro e w' ⟨rfl, rfl⟩)
    go_ret
    exact ⟨rfl, Below.refl _ _⟩
  obtain ⟨hn0, hn1⟩ := hn
  have HH := Lib.hid (And.intro h0 h1)
  clear h0 h1
  go_enter Try.func4, Try.ntmps4
  go_wp2_with (go_at_call 6; refine (r8Long_no _ _ _ _ _ _ _ hn0 hn1).mono ?_; rintro e w' ⟨rfl, rfl⟩)
  refine (R8Profile_r _ _ _ _ HH.out.1).mono ?_
  rintro e w1 ⟨⟨A, n, c, ls, rfl, hl, hn5, hroom⟩, hb1⟩
  have H1 := Lib.hid (And.intro hb1 (And.intro hl hroom))
  clear hb1 hl hroom
  go_wp2_with fail
  refine (R8Joules_d _ _ _ _ (HH.out.2.below H1.out.1)).mono ?_
  rintro e w2 ⟨⟨B, m, d, js, rfl, hj, hjs, hm6⟩, hb2⟩
  have H2 := Lib.hid (And.intro (H1.out.1.trans (hb2.mono H1.out.1.size)) (And.intro (H1.out.2.1.below hb2) (And.intro hj hjs)))
  have HJL := Lib.hid hj.1
  have HL := Lib.hid H1.out.2.1.1
  clear hb2 hj hjs
  have hms := mass_le H2.out.2.1.2.2.1 (by rw [H2.out.2.1.1]; omega)
  obtain ⟨I, hI⟩ : ∃ I, I = sumF Ly.ice ls := ⟨_, rfl⟩
  obtain ⟨V, hV⟩ : ∃ V, V = sumF Ly.water ls := ⟨_, rfl⟩
  rw [← hI, ← hV] at hms
  have HIV := Lib.hid (And.intro hI hV)
  clear hI hV
  go_wp2_with fail
  refine (MassOf_t _ _ _ ls _ H2.out.2.1).mono ?_
  rintro e w' ⟨rfl, rfl⟩
  rw [← HIV.out.1, ← HIV.out.2]
  go_wp2_with fail
  refine (SettleProfile_t _ _ _ ls _ H2.out.2.1 H1.out.2.2).mono ?_
  rintro e w3 ⟨A3, c3, rfl, hbag, hb⟩
  have H3 := Lib.hid (And.intro (H2.out.1.trans (hb.mono H2.out.1.size)) (And.intro (H2.out.2.1.below hb) (And.intro (H2.out.2.2.1.below hb) hbag.lys)))
  clear hbag hb
  go_wp2_with fail
  go_loopw [12] (fun kv wr => ∃ k : Nat, k ≤ n ∧ kv = .int .i64 k ∧ Below w3.heap.size w3 wr) (fun kv _ => n - (intOf kv).toNat)
  case atStart => exact ⟨0, Nat.zero_le _, rfl, Below.refl _ _⟩
  case round =>
    obtain ⟨k, hk, rfl, hbl⟩ := hrel
    have HB := Lib.hid hbl
    clear hbl
    by_cases hlt : k < n
    · obtain ⟨b, off, f, i, v, d1, t, h, a, hAe, HX, hc, hb⟩ := (H3.out.2.1.below HB.out).at_ hlt
      obtain ⟨b', off', f', i', v', d', t', h', a', hAe', HX', hc', hb'⟩ := (H3.out.2.2.2.below HB.out).at_ hlt
      have hfx := settledF_at HX.out
      rw [HX'.out] at hfx
      simp only [settleX, Option.some.injEq, Ly.mk.injEq] at hfx
      obtain ⟨rfl, rfl, rfl, hd', rfl, rfl, ha'⟩ := hfx
      subst hAe hAe'
      have hll := loadF_bd H2.out.2.1.2.2.1 (by rw [HL.out]; omega) k
      have hd0 := settleD_bd hb.2.2.2.1 hll.1
      have hd1 := settleD_bd (l := 1000) hb.2.2.2.1 (by omega)
      have hd2 := settleD_mono (d := d1) (show (1000 : Int) ≤ 200000 by omega)
      rw [← hd'] at hd0
      obtain ⟨D1, hD1⟩ : ∃ D1, D1 = settleD d1 1000 := ⟨_, rfl⟩
      obtain ⟨D2, hD2⟩ : ∃ D2, D2 = settleD d1 200000 := ⟨_, rfl⟩
      rw [← hD1] at hd1 hd2
      rw [← hD2] at hd2
      have HDD := Lib.hid (And.intro hD1 (And.intro hD2 (And.intro hd0 (And.intro hd1 hd2))))
      have HC := Lib.hid (And.intro hc (And.intro hc' hb))
      have hki : (k : Int) < (n : Int) := by omega
      obtain ⟨x0, x1, x2, x3, x4, x5, x6⟩ := hc
      clear hD1 hD2 hd0 hd1 hd2 hd' ha' hc' hb hb' hll
      go_wp2_with fail
      refine (SettleLayer_t _ _ _ _ _ _ _ 1000 _ HC.out.2.2 (by omega) (by omega)).mono ?_
      rintro e w4 ⟨rfl, hb4⟩
      rw [← HDD.out.1]
      have HB4 := Lib.hid (And.intro hb4 (HB.out.trans (hb4.mono HB.out.size)))
      have hx4 := HC.out.1.below hb4
      have ho1 := ly_alloc w4 f' i' v' D1 t' h' (min (a + 1) 10000) 35
      have hba1 : Below w4.heap.size w4 (w4.alloc (.cells #[.int .i64 f', .int .i64 i', .int .i64 v', .int .i64 D1, .int .i64 t', .int .i64 h', .int .i64 (min (a + 1) 10000)] 35)) := (Below.refl _ _).alloc (Nat.le_refl _) _
      have HO1 := Lib.hid (And.intro ho1 (And.intro (hx4.below hba1) (And.intro ((HC.out.2.1.below hb4).below hba1) (HB4.out.2.trans (hba1.mono HB4.out.2.size)))))
      clear hb4 ho1 hba1 x0 x1 x2 x3 x4 x5 x6
      obtain ⟨x0, x1, x2, x3, x4, x5, x6⟩ := hx4
      have hb4l := cell_lt x0
      have nb4 : b ≠ w4.heap.size := by omega
      obtain ⟨M, hM⟩ : ∃ M, M = min (a + 1) 10000 := ⟨_, rfl⟩
      rw [← hM] at HO1 ⊢
      have HM := Lib.hid hM
      clear hM
      go_wp2_with fail
      refine (SettleLayer_t _ _ _ _ _ _ _ 200000 _ HC.out.2.2 (by omega) (by omega)).mono ?_
      rintro e w6 ⟨rfl, hb6⟩
      rw [← HDD.out.2.1, ← HM.out]
      have hba2 : Below w6.heap.size w6 (w6.alloc (.cells #[.int .i64 f', .int .i64 i', .int .i64 v', .int .i64 D2, .int .i64 t', .int .i64 h', .int .i64 M] 35)) := (Below.refl _ _).alloc (Nat.le_refl _) _
      have HO2 := Lib.hid (And.intro ((HO1.out.1.below hb6).below hba2) (And.intro ((HO1.out.2.1.below hb6).below hba2) (And.intro ((HO1.out.2.2.1.below hb6).below hba2) (And.intro (ly_alloc w6 f' i' v' D2 t' h' M 35) (HO1.out.2.2.2.trans ((hb6.trans (hba2.mono hb6.size)).mono HO1.out.2.2.2.size))))))
      clear hb6 hba2 x0 x1 x2 x3 x4 x5 x6 nb4 hb4l
      go_wp2_with fail
      generalize hW : World.alloc _ _ = W
      rw [hW] at HO2
      clear hW
      obtain ⟨o1, o2, o3, o4, o5⟩ := HO2.out
      obtain ⟨-, -, -, p3, -⟩ := o1
      obtain ⟨-, x1, x2, x3, -⟩ := o2
      obtain ⟨-, y1, y2, y3, -⟩ := o3
      obtain ⟨-, -, -, r3, -⟩ := o4
      simp only [Nat.zero_add] at p3 r3
      have HF := Lib.hid o5
      obtain ⟨-, -, g0, g1, g2⟩ := HDD.out
      have t1 : decide (d' < d1) = false := by simp; omega
      have t2 : (i' != i') = false := by simp
      have t3 : (v' != v') = false := by simp
      have t4 : decide (D2 < D1) = false := by simp; omega
      have t5 : decide (D1 < d1) = false := by simp; omega
      clear o5 g0 g1 g2
      go_quiet (fail)
      go_wp2_with fail
      go_roundw
      case rel => exact ⟨k + 1, by omega, by go_num, below_drewN HF.out _⟩
      case measure => simp [intOf]; omega
    · obtain rfl : n = k := by omega
      have HB3 := Lib.hid (H3.out.1.trans (HB.out.mono H3.out.1.size))
      have HLw := Lib.hid (And.intro (H3.out.2.1.below HB.out) (H3.out.2.2.1.below HB.out))
      clear hlt
      rename World => wt
      go_wp2_with fail
      refine (RunHours_t _ _ _ ls _ _ _ js _ HLw.out.1 HLw.out.2 H2.out.2.2.2 (by omega)).mono ?_
      rintro e wu ⟨A4, c4, rfl, hbag, hbu⟩
      have hok := hoursTo_ok H2.out.2.1.2.2.1 (by rw [HL.out]; omega) js
      have hmx := mass_le hok.ok (by rw [hok.len, HL.out]; omega)
      have hmm := hok.mass
      have hlo := hok.low
      rw [← HIV.out.1, ← HIV.out.2] at hmm
      obtain ⟨R, hR⟩ : ∃ R, R = (hoursTo ls js).2 := ⟨_, rfl⟩
      obtain ⟨X, hX⟩ : ∃ X, X = sumF Ly.ice (hoursTo ls js).1 := ⟨_, rfl⟩
      obtain ⟨Y, hY⟩ : ∃ Y, Y = sumF Ly.water (hoursTo ls js).1 := ⟨_, rfl⟩
      rw [← hR, ← hX, ← hY] at hmm
      rw [← hX, ← hY] at hmx
      rw [← hR] at hlo ⊢
      have HR := Lib.hid (And.intro hR (And.intro hX hY))
      have H4 := Lib.hid (And.intro (HB3.out.trans (hbu.mono HB3.out.size)) (And.intro (HLw.out.1.below hbu) (And.intro (HLw.out.2.below hbu) hbag.lys)))
      have HRB := Lib.hid (show ∀ k, 0 ≤ (hoursTo ls (js.take k)).2 ∧ (hoursTo ls (js.take k)).2 ≤ 32000000 from fun k => by
        have a := hoursTo_ok H2.out.2.1.2.2.1 (by rw [HL.out]; omega) (js.take k)
        have b := mass_le a.ok (by rw [a.len, HL.out]; omega)
        have c := a.mass
        have e := a.low
        rw [← HIV.out.1, ← HIV.out.2] at c
        omega)
      have t1 : (X + Y + R != I + V) = false := by simp; omega
      clear hR hX hY hbag hbu hok
      go_wp2_with (go_at_call 19; refine (ValidProfile_s _ _ _ _ _ H4.out.2.2.2).mono ?_; rintro e w' ⟨rfl, rfl⟩)
      refine (MassOf_t _ _ _ _ _ H4.out.2.2.2).mono ?_
      rintro e w' ⟨rfl, rfl⟩
      rw [← HR.out.2.1, ← HR.out.2.2]
      go_wp2_with fail
      go_loopw [23, 24, 25] (fun ov sv kv wr => ∃ (k : Nat) (A' : Option Addr) (c' : Nat), k ≤ m ∧ kv = .int .i64 k ∧ ov = .slice A' n c' ∧ sv = .int .i64 (hoursTo ls (js.take k)).2 ∧ Hid (Lys wr A' n (hoursTo ls (js.take k)).1) ∧ Below wu.heap.size wu wr) (fun _ _ kv _ => m - (intOf kv).toNat)
      case atStart => exact ⟨0, A, c, Nat.zero_le _, rfl, rfl, rfl, H4.out.2.1, Below.refl _ _⟩
      case round =>
        clear t1 hmm hlo hmx
        obtain ⟨k, A', c', hk, rfl, rfl, rfl, HY, hbl⟩ := hrel
        have HB5 := Lib.hid hbl
        have hrb := HRB.out k
        have hrb2 := HRB.out (k + 1)
        by_cases hlt : k < m
        · obtain ⟨b, off, j, rfl, HJX, hc, hj1, hj2⟩ := (H4.out.2.2.1.below hbl).at_ hlt
          have hki : (k : Int) < (m : Int) := by omega
          have hjb := H2.out.2.2.2 j (List.mem_of_getElem? HJX.out)
          have hsn := hoursTo_snoc (ls := ls) HJX.out
          have hlow := (hourF_ok HY.out.2.2.1 (by rw [HY.out.1]; omega) j).low
          have hlen := (hourF_ok HY.out.2.2.1 (by rw [HY.out.1]; omega) j).len
          rw [hsn] at hrb2
          simp only at hrb2
          obtain ⟨S, hS⟩ : ∃ S, S = (hoursTo ls (js.take k)).2 := ⟨_, rfl⟩
          obtain ⟨Q, hQ⟩ : ∃ Q, Q = (hourF (hoursTo ls (js.take k)).1 j).2 := ⟨_, rfl⟩
          rw [← hS, ← hQ] at hrb2
          rw [← hS] at hrb ⊢
          rw [← hQ] at hlow
          have HSQ := Lib.hid (And.intro hsn (And.intro hS (And.intro hQ hlen)))
          clear hsn hS hQ hbl hlen
          go_wp2_with fail
          refine (StepHour_t _ _ _ _ j _ HY.out hjb.1 hjb.2).mono ?_
          rintro e w8 ⟨A8, c8, rfl, hbag, hb8⟩
          rw [← HSQ.out.2.2.1]
          have H8 := Lib.hid (And.intro hbag.lys (HB5.out.trans (hb8.mono HB5.out.size)))
          clear hbag hb8 hc
          go_wp2_with fail
          go_roundw
          case rel => exact ⟨k + 1, A8, c8, by omega, by go_num, rfl, by rw [HSQ.out.1, HSQ.out.2.1, HSQ.out.2.2.1], by rw [HSQ.out.1]; exact H8.out.1, H8.out.2⟩
          case measure => simp [intOf]; omega
        · obtain rfl : k = m := by omega
          have hte : js.take k = js := List.take_of_length_le (by rw [HJL.out]; omega)
          rw [hte] at HY ⊢
          rw [← HR.out.1]
          have HE := Lib.hid (H4.out.1.trans (hbl.mono H4.out.1.size))
          have HZ := Lib.hid (H4.out.2.2.2.below hbl)
          clear hte hbl hrb hrb2
          go_wp2_with fail
          refine (SameProfile_t _ _ _ _ _ _ _ HY.out HZ.out).mono ?_
          rintro e w9 ⟨rfl, hb9⟩
          have HF := Lib.hid (HE.out.trans (hb9.mono HE.out.size))
          clear hb9
          go_wp2_with fail
          go_ret
          exact ⟨rfl, HF.out⟩

set_option maxRecDepth 100000 in
theorem lifted (os : Os) (started : os.Started) (H : Type) (enc : TypeId × Value → H) :
    ReturnsInHanded {} Try.checked os 4 .any (Rows.fnHoursSpec.pre6 enc Try.prog Try.f4 Rows.fnHoursRow.domain false) (Rows.fnHoursSpec.post enc Try.prog Try.f4 false true false false) := by
  refine returnsInHanded_of_change (C := Try.checked) own started (by kernel_rfl) Try.func4
    (ChangeSpec.witness6 (enc := enc) (C := Try.checked) false ⟨#[], #[.slice none 0 0, .slice none 0 0], []⟩ 8 (by kernel_rfl) (by kernel_rfl) (by kernel_rfl) (by kernel_rfl)) ?_
  intro W base args ds gs before hval0 hW hcnd _
  have hval : ∀ (j : Nat) t v, Try.f4.params[j]? = some t → args[j]? = some v → Value.okWide Try.prog W .any base t v := hval0
  have hW' := hW
  obtain ⟨p, q, hA0, hV, rfl, hfz, hnd⟩ := hW
  have hA : DataW.TrodAll enc Try.prog W 0 (fun _ => true) true Try.f4.params.toList args.toList ds p := hA0
  rw [Try.params4] at hA hval
  obtain ⟨v0, vs0, d0, ds0, p0, q0, hargs, rfl, rfl, h0, r0⟩ := trodAll_cons hA
  obtain ⟨v1, vs1, d1, ds1, p1, q1, rfl, rfl, rfl, h1, r1⟩ := trodAll_cons r0
  obtain ⟨rfl, rfl, rfl⟩ := trodAll_nil r1
  obtain rfl : args = #[v0, v1] := by cases args; simp_all
  obtain ⟨rfl, rfl⟩ := trodVars_none hV
  have k0 := h0
  have lt0 : ∀ x ∈ p0, x.block < W.heap.size := by obtain ⟨m, hm⟩ := k0; exact DataW.trod_lt m _ _ _ hm
  obtain ⟨a0, n0, c0, rfl⟩ := okWide_slice Try.underlying22 (hval 0 22 v0 rfl rfl)
  obtain ⟨z0, w0⟩ := bytes_open Try.underlying22 Try.underlying5 (by kernel_rfl) h0
  have k1 := h1
  have lt1 : ∀ x ∈ p1, x.block < W.heap.size := by obtain ⟨m, hm⟩ := k1; exact DataW.trod_lt m _ _ _ hm
  obtain ⟨a1, n1, c1, rfl⟩ := okWide_slice Try.underlying22 (hval 1 22 v1 rfl rfl)
  obtain ⟨z1, w1⟩ := bytes_open Try.underlying22 Try.underlying5 (by kernel_rfl) h1
  clear hA0 hval0
  refine (walk a0 n0 c0 z0 a1 n1 c1 z1 W w0 w1).mono fun e W' ⟨he, bel⟩ => ?_
  subst he
  exact ⟨_, rfl, _, _, _, [], _, [], hW', trodAll_mk1 (shut_bool Try.underlying4 _), (trodAll_cons_mk (Below.trod laidOut (by kernel_rfl) (of_decide_eq_true (by kernel_rfl)) k0 bel lt0) (trodAll_cons_mk (Below.trod laidOut (by kernel_rfl) (of_decide_eq_true (by kernel_rfl)) k1 bel lt1) trodAll_mk0)), rfl, bel.frame _, fun h => by cases h⟩

theorem over : Rows.fnHoursRow.holds Try.pinned (OpenSpec.ofChange Rows.fnHoursSpec) :=
  OpenClaim.holds_of_wide 4 Try.f4 rfl rfl rfl rfl rfl rfl rfl ⟨rfl, rfl, rfl, rfl, rfl⟩ rfl rfl rfl rfl rfl (by kernel_rfl) Try.func4 (by kernel_rfl)
    (of_decide_eq_true (by kernel_rfl)) (by unfold Func.isWrapper; first | (rw [if_pos (by decide +kernel)]; kernel_rfl) | (rw [if_neg (by decide +kernel)]; exact ⟨rfl, rfl⟩))
    (fun os started H enc _ => lifted os started H enc)

/-- The statement. -/
theorem proved : Rows.FnHoursSaid := over
end Go.Proofs.Ytlfjjdglffiinaa.fnHours
