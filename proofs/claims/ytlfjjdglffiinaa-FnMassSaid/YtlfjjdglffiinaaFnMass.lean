/-
  Proves: for every input the law FnMass returns true, and its arguments read as before. No condition.
-/
import Derived.Test.YtlfjjdglffiinaaLift
import Derived.Test.YtlfjjdglffiinaaLyS
import Derived.Test.YtlfjjdglffiinaaLyD
import Derived.Test.YtlfjjdglffiinaaR8
namespace Go.Proofs.Ytlfjjdglffiinaa.fnMass
open Go.ChangeShapes Go.WideShapes Go.ChangeAt Go.RowKit Go.Deep
set_option linter.unusedVariables false

theorem sums_bd {w : World} {A : Option Addr} {n : Nat} {ls : List Ly} (H : Lys w A n ls) : (0 ≤ sumF Ly.ice ls ∧ sumF Ly.ice ls ≤ 16000000) ∧ (0 ≤ sumF Ly.water ls ∧ sumF Ly.water ls ≤ 16000000) ∧ 0 ≤ sumF coldL ls ∧ sumF coldL ls ≤ 1344000000 := by
  have h1 := iceS_bd H n
  have h2 := coldS_bd H n
  rw [List.take_of_length_le (by rw [H.1]; omega)] at h1 h2
  omega
theorem sumF_neg (ls : List Ly) : sumF (fun x => -x.ice) ls = - sumF Ly.ice ls := by
  induction ls with
  | nil => rfl
  | cons x t ih => rw [sumF_cons, sumF_cons, ih]; omega
set_option maxRecDepth 100000 in
set_option maxHeartbeats 4000000 in
theorem walk (A0 : Option Addr) (n0 c0 : Nat) (z0 : Unit) (A1 : Option Addr) (n1 c1 : Nat) (z1 : Unit) (w : World) (h0 : Byts w A0 n0) (h1 : Byts w A1 n1) :
    Calls Try.prog 3 #[.slice A0 n0 c0, .slice A1 n1 c1] w fun e w' => e = .returned (.bool true) ∧ Below w.heap.size w w' := by
  have hm0 := h0.1
  have hm1 := h1.1
  by_cases hn : n0 ≤ 1048576 ∧ n1 ≤ 1048576
  rotate_left
  · have HN := Lib.hid hn
    clear hn
    go_enter Try.func3, Try.ntmps3
    go_wp2_with (go_at_call 6; refine (r8Long_yes _ _ _ _ _ _ _ hm0 hm1 HN.out).mono ?_; rintro e w' ⟨rfl, rfl⟩)
    go_ret
    exact ⟨rfl, Below.refl _ _⟩
  obtain ⟨hn0, hn1⟩ := hn
  have HH := Lib.hid (And.intro h0 h1)
  clear h0 h1
  go_enter Try.func3, Try.ntmps3
  go_wp2_with (go_at_call 6; refine (r8Long_no _ _ _ _ _ _ _ hn0 hn1).mono ?_; rintro e w' ⟨rfl, rfl⟩)
  refine (R8Profile_d _ _ _ _ HH.out.1).mono ?_
  rintro e w1 ⟨⟨A, n, c, ls, rfl, hl, hn5⟩, hb1⟩
  have HB1 := Lib.hid hb1
  have HL := Lib.hid hl
  clear hb1 hl
  go_wp2_with fail
  refine (r8Wide_any _ _ _ 0 3000 _ (HH.out.2.below HB1.out) hn1 (by omega) (by omega) (by omega)).mono ?_
  rintro e w' ⟨⟨x, rfl, hx1, hx2⟩, rfl⟩
  obtain ⟨j, hj⟩ : ∃ j, j = 1000 * x := ⟨_, rfl⟩
  have hj0 : 0 ≤ j ∧ j ≤ 100000000 := by omega
  have HSB := Lib.hid (sums_bd HL.out)
  have HW := Lib.hid (heatF_kept (fun x j hx h0 => warmX_kept hx h0) n ls j HL.out.2.2.1 hj0.1)
  have HC := Lib.hid (heatF_kept (fun x j hx h0 => coolX_kept hx h0) n ls j HL.out.2.2.1 hj0.1)
  have HD := Lib.hid (drainF_ok n ls 0 HL.out.2.2.1 (Int.le_refl _) (by rw [HL.out.1]; omega))
  obtain ⟨I, hI⟩ : ∃ I, I = sumF Ly.ice ls := ⟨_, rfl⟩
  obtain ⟨V, hV⟩ : ∃ V, V = sumF Ly.water ls := ⟨_, rfl⟩
  obtain ⟨K, hK⟩ : ∃ K, K = sumF coldL ls := ⟨_, rfl⟩
  have HI := Lib.hid (And.intro hI (And.intro hV hK))
  clear hI hV hK
  go_wp2_with fail
  refine (MassOf_t _ _ _ ls _ HL.out).mono ?_
  rintro e w' ⟨rfl, rfl⟩
  rw [← HI.out.1, ← HI.out.2.1, ← hj]
  clear hj hx1 hx2
  go_wp2_with fail
  refine (ColdOf_i _ _ _ ls _ HL.out).mono ?_
  rintro e w2 ⟨rfl, hb2⟩
  rw [← HI.out.2.2]
  have HB2 := Lib.hid (HB1.out.trans (hb2.mono HB1.out.size))
  have HL2 := Lib.hid (HL.out.below hb2)
  clear hb2
  go_wp2_with fail
  refine (WarmTop_t _ _ _ ls j _ HL2.out hj0.1 hj0.2).mono ?_
  rintro e w3 ⟨A3, c3, rfl, hbag3, hb3⟩
  have HB3 := Lib.hid (HB2.out.trans (hb3.mono HB2.out.size))
  have HL3 := Lib.hid (HL2.out.below hb3)
  have HY3 := Lib.hid hbag3.lys
  clear hb3 hbag3
  go_wp2_with fail
  refine (CoolTop_t _ _ _ ls j _ HL3.out hj0.1 hj0.2).mono ?_
  rintro e w4 ⟨A4, c4, rfl, hbag4, hb4⟩
  have HB4 := Lib.hid (HB3.out.trans (hb4.mono HB3.out.size))
  have HL4 := Lib.hid (HL3.out.below hb4)
  have HY4 := Lib.hid (And.intro (HY3.out.below hb4) hbag4.lys)
  clear hb4 hbag4
  go_wp2_with fail
  refine (DrainProfile_t _ _ _ ls _ HL4.out).mono ?_
  rintro e w5 ⟨A5, c5, rfl, hbag5, hb5⟩
  have HB5 := Lib.hid (HB4.out.trans (hb5.mono HB4.out.size))
  have HY5 := Lib.hid (And.intro (HY4.out.1.below hb5) (And.intro (HY4.out.2.below hb5) hbag5.lys))
  clear hb5 hbag5
  obtain ⟨L, hL⟩ : ∃ L, L = (heatF warmX n ls j).2 := ⟨_, rfl⟩
  obtain ⟨R, hR⟩ : ∃ R, R = (heatF coolX n ls j).2 := ⟨_, rfl⟩
  obtain ⟨D, hD⟩ : ∃ D, D = (drainF n ls 0).2 := ⟨_, rfl⟩
  rw [← hL, ← hR, ← hD]
  have HLRD := Lib.hid (And.intro hL (And.intro hR hD))
  have f1 : 0 ≤ L ∧ L ≤ j := by rw [hL]; exact ⟨HW.out.low, HW.out.up⟩
  have f2 : 0 ≤ R ∧ R ≤ j := by rw [hR]; exact ⟨HC.out.low, HC.out.up⟩
  have f3 : 0 ≤ D := by rw [hD]; exact HD.out.low
  clear hL hR hD
  go_wp2_with fail
  have SB3 := sums_bd HY5.out.1
  have SB4 := sums_bd HY5.out.2.1
  have SB5 := sums_bd HY5.out.2.2
  obtain ⟨X, hX⟩ : ∃ X, X = sumF Ly.ice (heatF warmX n ls j).1 := ⟨_, rfl⟩
  obtain ⟨Y, hY⟩ : ∃ Y, Y = sumF Ly.water (heatF warmX n ls j).1 := ⟨_, rfl⟩
  obtain ⟨P, hP⟩ : ∃ P, P = sumF coldL (heatF warmX n ls j).1 := ⟨_, rfl⟩
  obtain ⟨Z, hZ⟩ : ∃ Z, Z = sumF Ly.ice (heatF coolX n ls j).1 := ⟨_, rfl⟩
  obtain ⟨T, hT⟩ : ∃ T, T = sumF Ly.water (heatF coolX n ls j).1 := ⟨_, rfl⟩
  obtain ⟨M, hM⟩ : ∃ M, M = sumF Ly.ice (drainF n ls 0).1 := ⟨_, rfl⟩
  obtain ⟨O, hO⟩ : ∃ O, O = sumF Ly.water (drainF n ls 0).1 := ⟨_, rfl⟩
  have hsb := HSB.out
  have g1 : X + Y = I + V := by rw [hX, hY, HI.out.1, HI.out.2.1]; exact HW.out.mass
  have g2 : X ≤ I := by rw [hX, HI.out.1]; exact HW.out.less
  have g3 : (I - X) * 334 ≤ j - L := by rw [hX, HI.out.1, HLRD.out.1]; exact HW.out.pay
  have g4 : P ≤ K := by rw [hP, HI.out.2.2]; exact HW.out.cold
  have g5 : Z + T = I + V := by rw [hZ, hT, HI.out.1, HI.out.2.1]; exact HC.out.mass
  have g6 : I ≤ Z := by have := HC.out.less; rw [sumF_neg, sumF_neg] at this; rw [hZ, HI.out.1]; exact Int.le_of_neg_le_neg this
  have g7 : (Z - I) * 334 ≤ j - R := by have := HC.out.pay; rw [sumF_neg, sumF_neg] at this; rw [hZ, HI.out.1, HLRD.out.2.1]; rw [show sumF Ly.ice (heatF coolX n ls j).1 - sumF Ly.ice ls = -sumF Ly.ice ls - -sumF Ly.ice (heatF coolX n ls j).1 by omega]; exact this
  have g8 : M = I := by rw [hM, HI.out.1]; exact HD.out.ice
  have g9 : O + D = V := by have := HD.out.water; rw [Int.add_zero] at this; rw [hO, HI.out.2.1, HLRD.out.2.2]; exact this
  rw [← hX, ← hY, ← hP] at SB3
  rw [← hZ, ← hT] at SB4
  rw [← hM, ← hO] at SB5
  rw [← HI.out.1, ← HI.out.2.1, ← HI.out.2.2] at hsb
  have HE := Lib.hid (And.intro (And.intro hX (And.intro hY hP)) (And.intro (And.intro hZ hT) (And.intro hM hO)))
  have HG := Lib.hid (And.intro g1 (And.intro g2 (And.intro g3 (And.intro g4 (And.intro g5 (And.intro g6 (And.intro g7 (And.intro g8 g9))))))))
  clear hX hY hP hZ hT hM hO g1 g2 g3 g4 g5 g6 g7 g8 g9
  obtain ⟨⟨sb1, sb1'⟩, ⟨sb2, sb2'⟩, sb3, sb3'⟩ := SB3
  obtain ⟨⟨sb4, sb4'⟩, ⟨sb5, sb5'⟩, _⟩ := SB4
  obtain ⟨⟨sb6, sb6'⟩, ⟨sb7, sb7'⟩, _⟩ := SB5
  obtain ⟨⟨k1, k1'⟩, ⟨k2, k2'⟩, k3, k3'⟩ := hsb
  refine (MassOf_t _ _ _ _ _ HY5.out.1).mono ?_
  rintro e w' ⟨rfl, rfl⟩
  rw [← HE.out.1.1, ← HE.out.1.2.1]
  go_wp2_with fail
  refine (MassOf_t _ _ _ _ _ HY5.out.2.1).mono ?_
  rintro e w' ⟨rfl, rfl⟩
  rw [← HE.out.2.1.1, ← HE.out.2.1.2]
  go_wp2_with fail
  refine (MassOf_t _ _ _ _ _ HY5.out.2.2).mono ?_
  rintro e w' ⟨rfl, rfl⟩
  rw [← HE.out.2.2.1, ← HE.out.2.2.2]
  go_wp2_with fail
  refine (ColdOf_s _ _ _ _ _ HY5.out.1).mono ?_
  rintro e w6 ⟨rfl, hb6⟩
  rw [← HE.out.1.2.2]
  have HB6 := Lib.hid (HB5.out.trans (hb6.mono HB5.out.size))
  have HY6 := Lib.hid (HY5.out.2.2.below hb6)
  clear hb6
  obtain ⟨g1, g2, g3, g4, g5, g6, g7, g8, g9⟩ := HG.out
  obtain rfl := g8
  have t1 : (X + Y != M + V) = false := by simp; omega
  have t2 : (Z + T != M + V) = false := by simp; omega
  have t3 : (O + D != V) = false := by simp; omega
  go_wp2_with fail
  have HBZ := Lib.hid HB6.out
  clear t1 t2 t3 g1 g2 g3 g4 g5 g6 g7 g9 sb1 sb1' sb2 sb2' sb3 sb3' sb4 sb4' sb5 sb5' sb6 sb6' sb7 sb7' k1 k1' k2 k2' k3 k3' f1 f2 f3
  go_loopw [32] (fun i wr => ∃ k : Nat, k ≤ n ∧ i = .int .i64 k ∧ Below w6.heap.size w6 wr) (fun i _ => n - (intOf i).toNat)
  case atStart => exact ⟨0, Nat.zero_le _, rfl, Below.refl _ _⟩
  case round =>
    obtain ⟨k, hk, rfl, hbl⟩ := hrel
    by_cases hlt : k < n
    · obtain ⟨b, off, f, i, v, d, g, h, a, rfl, HX, hc, hb⟩ := (HY6.out.below hbl).at_ hlt
      have hki : (k : Int) < (n : Int) := by omega
      have HBL := Lib.hid hbl
      obtain ⟨_, q1, q2, _⟩ := hc
      obtain ⟨_, b1, b2, _⟩ := hb
      have hd := HD.out.dry k _ hlt HX.out
      simp only at hd
      have hdb : decide (i * 60 < 1000 * v) = false := by simp; omega
      have hw1 : IntKind.i64.wrap (1000 * v) = 1000 * v := IntWalk.i64_in _ (by omega)
      have hw2 : IntKind.i64.wrap (i * 60) = i * 60 := IntWalk.i64_in _ (by omega)
      clear hbl
      go_wp2_with fail
      go_quiet (fail)
      go_wp2_with fail
      go_roundw
      case rel => exact ⟨k + 1, by omega, by go_num, below_drewN HBL.out _⟩
      case measure => simp [intOf]; omega
    · obtain rfl : k = n := by omega
      have HF := Lib.hid (HBZ.out.trans (hbl.mono HBZ.out.size))
      clear hbl hlt
      go_wp2_with fail
      go_ret
      exact ⟨rfl, HF.out⟩

set_option maxRecDepth 100000 in
theorem lifted (os : Os) (started : os.Started) (H : Type) (enc : TypeId × Value → H) :
    ReturnsInHanded {} Try.checked os 3 .any (Rows.fnMassSpec.pre6 enc Try.prog Try.f3 Rows.fnMassRow.domain false) (Rows.fnMassSpec.post enc Try.prog Try.f3 false true false false) := by
  refine returnsInHanded_of_change (C := Try.checked) own started (by kernel_rfl) Try.func3
    (ChangeSpec.witness6 (enc := enc) (C := Try.checked) false ⟨#[], #[.slice none 0 0, .slice none 0 0], []⟩ 8 (by kernel_rfl) (by kernel_rfl) (by kernel_rfl) (by kernel_rfl)) ?_
  intro W base args ds gs before hval0 hW hcnd _
  have hval : ∀ (j : Nat) t v, Try.f3.params[j]? = some t → args[j]? = some v → Value.okWide Try.prog W .any base t v := hval0
  have hW' := hW
  obtain ⟨p, q, hA0, hV, rfl, hfz, hnd⟩ := hW
  have hA : DataW.TrodAll enc Try.prog W 0 (fun _ => true) true Try.f3.params.toList args.toList ds p := hA0
  rw [Try.params3] at hA hval
  obtain ⟨v0, vs0, d0, ds0, p0, q0, hargs, rfl, rfl, h0, r0⟩ := trodAll_cons hA
  obtain ⟨v1, vs1, d1, ds1, p1, q1, rfl, rfl, rfl, h1, r1⟩ := trodAll_cons r0
  obtain ⟨rfl, rfl, rfl⟩ := trodAll_nil r1
  obtain rfl : args = #[v0, v1] := by cases args; simp_all
  obtain ⟨rfl, rfl⟩ := trodVars_none hV
  have k0 := h0
  have lt0 : ∀ x ∈ p0, x.block < W.heap.size := by obtain ⟨m, hm⟩ := k0; exact DataW.trod_lt m _ _ _ hm
  obtain ⟨a0, n0, c0, rfl⟩ := okWide_slice Try.underlying22 (hval 0 22 v0 rfl rfl)
  obtain ⟨z0, w0⟩ := bytes_open Try.underlying22 Try.underlying5 (by kernel_rfl) h0
  have k1 := h1
  have lt1 : ∀ x ∈ p1, x.block < W.heap.size := by obtain ⟨m, hm⟩ := k1; exact DataW.trod_lt m _ _ _ hm
  obtain ⟨a1, n1, c1, rfl⟩ := okWide_slice Try.underlying22 (hval 1 22 v1 rfl rfl)
  obtain ⟨z1, w1⟩ := bytes_open Try.underlying22 Try.underlying5 (by kernel_rfl) h1
  clear hA0 hval0
  refine (walk a0 n0 c0 z0 a1 n1 c1 z1 W w0 w1).mono fun e W' ⟨he, bel⟩ => ?_
  subst he
  exact ⟨_, rfl, _, _, _, [], _, [], hW', trodAll_mk1 (shut_bool Try.underlying4 _), (trodAll_cons_mk (Below.trod laidOut (by kernel_rfl) (of_decide_eq_true (by kernel_rfl)) k0 bel lt0) (trodAll_cons_mk (Below.trod laidOut (by kernel_rfl) (of_decide_eq_true (by kernel_rfl)) k1 bel lt1) trodAll_mk0)), rfl, bel.frame _, fun h => by cases h⟩

theorem over : Rows.fnMassRow.holds Try.pinned (OpenSpec.ofChange Rows.fnMassSpec) :=
  OpenClaim.holds_of_wide 3 Try.f3 rfl rfl rfl rfl rfl rfl rfl ⟨rfl, rfl, rfl, rfl, rfl⟩ rfl rfl rfl rfl rfl (by kernel_rfl) Try.func3 (by kernel_rfl)
    (of_decide_eq_true (by kernel_rfl)) (by unfold Func.isWrapper; first | (rw [if_pos (by decide +kernel)]; kernel_rfl) | (rw [if_neg (by decide +kernel)]; exact ⟨rfl, rfl⟩))
    (fun os started H enc _ => lifted os started H enc)

/-- The statement. -/
theorem proved : Rows.FnMassSaid := over
end Go.Proofs.Ytlfjjdglffiinaa.fnMass
