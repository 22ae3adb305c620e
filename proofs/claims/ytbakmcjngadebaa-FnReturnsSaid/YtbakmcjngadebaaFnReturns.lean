/-
  Proves: for every input the law FnReturns returns true, and its arguments read as before. No condition.
-/
import Derived.Test.YtbakmcjngadebaaLift
import Derived.Test.YtbakmcjngadebaaDrawF
import Derived.Test.YtbakmcjngadebaaRetM
import Derived.Deep.DeepCutAuto
namespace Go.Proofs.Ytbakmcjngadebaa.fnReturns
open Go.ChangeShapes Go.WideShapes Go.ChangeAt Go.RowKit Go.Deep
set_option linter.unusedVariables false

set_option maxRecDepth 100000 in
theorem b10Has_yes (A : Option Addr) (n c : Nat) (x : Int) (xs : List Int) (w : World) (h : Ints w A n xs) (hx : x ∈ xs) :
    Calls Try.prog 57 #[.slice A n c, .int .i64 x] w fun e w' => e = .returned (.bool true) ∧ ∃ q, w' = w.drewN q := by
  have hn := h.2.1
  have HL := Lib.hid h.1
  obtain ⟨p, hp⟩ := List.mem_iff_getElem?.1 hx
  have hpn : p < n := by have := (List.getElem?_eq_some_iff.1 hp).1; have := h.1; omega
  have HP := Lib.hid hp
  clear hx hp
  go_enter Try.func57, Try.ntmps57
  go_wp2_with fail
  go_loopw [5] (fun i wr => ∃ k q : Nat, k ≤ p ∧ i = .int .i64 k ∧ wr = w.drewN q) (fun i _ => n - (intOf i).toNat)
  case atStart => exact ⟨0, 0, Nat.zero_le _, rfl, rfl⟩
  case round =>
    obtain ⟨k, q, hk, rfl, rfl⟩ := hrel
    have hlt : k < n := by omega
    obtain ⟨b, off, y, rfl, HX, hc, hy1, hy2⟩ := h.at_ hlt
    have hki : (k : Int) < (n : Int) := by omega
    clear h
    by_cases hyx : y = x
    · subst hyx
      go_wp2_with fail
      go_ret
      exact ⟨rfl, _, rfl⟩
    · have hkp : k ≠ p := by
        intro e
        subst e
        have := HX.out.symm.trans HP.out
        injection this with this
        exact hyx this
      have hb0 : (y == x) = false := by simpa using hyx
      go_wp2_with fail
      go_roundw
      case rel => exact ⟨k + 1, _, by omega, by go_num, rfl⟩
      case measure => simp [intOf]; omega
set_option maxRecDepth 100000 in
theorem walk_far0 (A0 : Option Addr) (n0 c0 : Nat) (z0 : Unit) (A1 : Option Addr) (n1 c1 : Nat) (z1 : Unit) (w : World) (h0 : Byts w A0 n0) (h1 : Byts w A1 n1) (hn0 : ¬ n0 ≤ 1048576) :
    Calls Try.prog 14 #[.slice A0 n0 c0, .slice A1 n1 c1] w fun e w' => e = .returned (.bool true) ∧ Below w.heap.size w w' := by
  have hm0 := h0.1
  have hm1 := h1.1
  have hd : decide (1048576 < n0) = true := by simp; omega
  go_enter Try.func14, Try.ntmps14
  go_wp2_with (go_at_call 43; refine (b10Long_any _ _ _ _ hm0).mono ?_; rintro e w' ⟨rfl, rfl⟩)
  go_ret
  exact ⟨rfl, Below.refl _ _⟩
set_option maxRecDepth 100000 in
theorem walk_far1 (A0 : Option Addr) (n0 c0 : Nat) (z0 : Unit) (A1 : Option Addr) (n1 c1 : Nat) (z1 : Unit) (w : World) (h0 : Byts w A0 n0) (h1 : Byts w A1 n1) (hn0 : n0 ≤ 1048576) (hn1 : ¬ n1 ≤ 1048576) :
    Calls Try.prog 14 #[.slice A0 n0 c0, .slice A1 n1 c1] w fun e w' => e = .returned (.bool true) ∧ Below w.heap.size w w' := by
  have hm0 := h0.1
  have hm1 := h1.1
  have hd0 : decide (1048576 < n0) = false := by simp; omega
  have hd : decide (1048576 < n1) = true := by simp; omega
  go_enter Try.func14, Try.ntmps14
  go_wp2_with (go_at_call 43; refine (b10Long_any _ _ _ _ (by omega)).mono ?_; rintro e w' ⟨rfl, rfl⟩)
  go_ret
  exact ⟨rfl, Below.refl _ _⟩
set_option maxRecDepth 100000 in
set_option maxHeartbeats 4000000 in
theorem walk_near (A0 : Option Addr) (n0 c0 : Nat) (z0 : Unit) (A1 : Option Addr) (n1 c1 : Nat) (z1 : Unit) (w : World) (h0 : Byts w A0 n0) (h1 : Byts w A1 n1) (hn0 : n0 ≤ 1048576) (hn1 : n1 ≤ 1048576) :
    Calls Try.prog 14 #[.slice A0 n0 c0, .slice A1 n1 c1] w fun e w' => e = .returned (.bool true) ∧ Below w.heap.size w w' := by
  have hm0 := h0.1
  have hm1 := h1.1
  have hd0 : decide (1048576 < n0) = false := by simp; omega
  have hd1 : decide (1048576 < n1) = false := by simp; omega
  have HH := Lib.hid (And.intro h0 h1)
  clear h0 h1
  go_enter Try.func14, Try.ntmps14
  go_wp2_with (go_at_call 43; refine (b10Long_any _ _ _ _ (by omega)).mono ?_; rintro e w' ⟨rfl, rfl⟩)
  refine (DrawReturnYears_d _ _ _ _ HH.out.1).mono ?_
  rintro e w1 ⟨⟨v, A2, m, c2, xs, rfl, hv, hxs, hm65, hxb⟩, hb1⟩
  have HX := Lib.hid hxs
  have HB1 := Lib.hid hb1
  clear hxs hb1 hxb
  go_wp2_with fail
  refine (ReturnYears_i _ _ _ v xs _ HX.out).mono ?_
  rintro e w2 ⟨rfl, hb2⟩
  have HB2 := Lib.hid (HB1.out.trans (hb2.mono HB1.out.size))
  replace HX := Lib.hid (HX.out.below hb2)
  clear hb2
  go_wp2_with fail
  refine (ReturnYears_i _ _ _ (v + 1) xs _ HX.out).mono ?_
  rintro e w3 ⟨rfl, hb3⟩
  have HB3 := Lib.hid (HB2.out.trans (hb3.mono HB2.out.size))
  clear hb3
  have hg : (retC xs v == 0) = true → 100 ≤ retA xs v ∧ ((retC xs (v + 1) == 0) = true → retA xs v ≤ retA xs (v + 1)) := fun hc => by
    have := ret_grow (show retC xs v = 0 by simpa using hc)
    exact ⟨this.1, fun h2 => this.2 (by simpa using h2)⟩
  generalize retC xs v = ca at hg ⊢
  generalize retA xs v = ra at hg ⊢
  generalize retA xs (v + 1) = rb at hg ⊢
  generalize retC xs (v + 1) = cb at hg ⊢
  have HG := Lib.hid hg
  clear hg
  go_upto_region 6 with (fail)
  go_cut [73] (fun r wr => r = .bool false ∧ Below w.heap.size w wr)
  case first =>
    cases hc : (ca == 0)
    · go_wp2_with fail
      go_meet
      exact ⟨rfl, HB3.out⟩
    · obtain ⟨g1, g2⟩ := HG.out hc
      cases hc2 : (cb == 0)
      · clear g2
        go_wp2_with fail
        go_meet
        exact ⟨by simp; omega, HB3.out⟩
      · have g3 := g2 hc2
        clear g2
        go_wp2_with fail
        go_meet
        exact ⟨by simp; omega, HB3.out⟩
  case rest =>
    obtain ⟨rfl, hbc⟩ := hcut
    have HB4 := Lib.hid hbc
    clear hbc
    go_wp2_with fail
    clear HG
    refine (DrawValueOfYears_d _ _ _ _ (HH.out.2.below HB4.out)).mono ?_
    rintro e w5 ⟨⟨yrs, A5, m5, c5, ys, rfl, hyrs, hys, hm5, _⟩, hb5⟩
    have HY := Lib.hid hys
    have HB5 := Lib.hid (HB4.out.trans (hb5.mono HB4.out.size))
    clear hys hb5
    go_wp2_with fail
    refine (ValueOfYears_i _ _ _ yrs ys _ HY.out).mono ?_
    rintro e w6 ⟨rfl, hb6⟩
    have HB6 := Lib.hid (HB5.out.trans (hb6.mono HB5.out.size))
    replace HY := Lib.hid (HY.out.below hb6)
    clear hb6
    have hvb : (vC ys yrs == 0) = true → vA ys yrs ∈ ys ∧ retC ys (vA ys yrs) = 0 ∧ retA ys (vA ys yrs) ≤ yrs ∧ ∀ x ∈ ys, retC ys x = 0 ∧ (retA ys x ≤ yrs → x ≤ vA ys yrs) := fun hc => by
      have := value_back (show vC ys yrs = 0 by simpa using hc)
      exact ⟨this.1, this.2.1, this.2.2.1, this.2.2.2.2⟩
    generalize vC ys yrs = cv at hvb ⊢
    generalize vA ys yrs = vv at hvb ⊢
    have HV := Lib.hid hvb
    clear hvb
    go_upto_if 86 with (fail)
    go_cut [17] (fun _ wr => Below w.heap.size w wr)
    case first =>
      cases hc : (cv == 0)
      · go_wp2_with fail
        go_meet
        exact HB6.out
      · obtain ⟨v1, v2, v3, v4⟩ := HV.out hc
        have HV4 := Lib.hid (And.intro v1 (And.intro v2 v4))
        clear v1 v4
        generalize hra : retA ys vv = ra2 at v3
        have HRA := Lib.hid (And.intro hra v2)
        clear hra v2
        go_wp2_with fail
        refine (ReturnYears_i _ _ _ vv ys _ HY.out).mono ?_
        rintro e w7 ⟨rfl, hb7⟩
        rw [HRA.out.1, HRA.out.2]
        have HB7 := Lib.hid (HB6.out.trans (hb7.mono HB6.out.size))
        have HY7 := Lib.hid (HY.out.below hb7)
        clear hb7
        go_wp2_with fail
        refine (b10Has_yes _ _ _ vv ys _ HY7.out HV4.out.1).mono ?_
        rintro e w8 ⟨rfl, q8, rfl⟩
        have HL := Lib.hid HY7.out.1
        go_wp2_with fail
        go_loopw [17] (fun iv wr => ∃ k : Nat, k ≤ m5 ∧ iv = .int .i64 k ∧ Below w.heap.size w wr ∧ Hid (Ints wr A5 m5 ys)) (fun iv _ => m5 - (intOf iv).toNat)
        case atStart => exact ⟨0, Nat.zero_le _, rfl, below_drewN HB7.out _, HY7.out.drewN q8⟩
        case round =>
          obtain ⟨k, hk, rfl, hbl, HYR⟩ := hrel
          have HBL := Lib.hid hbl
          clear hbl
          by_cases hlt : k < m5
          · obtain ⟨b, off, x, rfl, HXX, hcx, hx1, hx2⟩ := HYR.out.at_ hlt
            obtain ⟨t1, t2⟩ := HV4.out.2.2 x (List.mem_of_getElem? HXX.out)
            generalize hrx : retA ys x = rx at t2
            have HRX := Lib.hid (And.intro hrx t1)
            clear hrx t1
            have hki : (k : Int) < (m5 : Int) := by omega
            go_wp2_with fail
            refine (ReturnYears_s _ _ _ x ys _ HYR.out).mono ?_
            rintro e w9 ⟨rfl, hb9⟩
            rw [HRX.out.1, HRX.out.2]
            have HB9 := Lib.hid (HBL.out.trans (hb9.mono HBL.out.size))
            replace hcx := cell_kept hb9 hcx
            have HY9 := Lib.hid (HYR.out.below hb9)
            clear hb9
            by_cases hrl : rx ≤ yrs
            · have t3 := t2 hrl
              clear t2
              go_wp2_with fail
              go_roundw
              case rel => exact ⟨k + 1, by omega, by go_num, HB9.out, HY9.out⟩
              case measure => simp [intOf]; omega
            · clear t2
              go_wp2_with fail
              go_roundw
              case rel => exact ⟨k + 1, by omega, by go_num, HB9.out, HY9.out⟩
              case measure => simp [intOf]; omega
          · obtain rfl : k = m5 := by omega
            clear hlt
            go_wp2_with fail
            go_meet
            exact HBL.out
    case rest =>
      as_aux_lemma =>
        have HB10 := Lib.hid hcut
        clear hcut HV
        go_wp2_with fail
        refine (DrawRiskOf_d _ _ _ _ (HH.out.1.below HB10.out)).mono ?_
        rintro e w11 ⟨⟨A3, n3, c3, es, a, v3, rfl, hev, hn9, ha, hv⟩, hb11⟩
        have HE := Lib.hid hev
        have HB11 := Lib.hid (HB10.out.trans (hb11.mono HB10.out.size))
        clear hev hb11
        go_wp2_with fail
        refine (RiskOf_i _ _ _ a v3 es _ HE.out (by omega) (by omega)).mono ?_
        rintro e w12 ⟨rfl, hb12⟩
        have HB12 := Lib.hid (HB11.out.trans (hb12.mono HB11.out.size))
        replace HE := Lib.hid (HE.out.below hb12)
        clear hb12
        by_cases hk : riskK es a v3 = 0
        · obtain ⟨f1, f2, f3, f4, f5, f6, f7, f8⟩ := risk_facts hk
          have HF := Lib.hid (And.intro f1 (And.intro f2 (And.intro f5 (And.intro f7 f8))))
          have HK := Lib.hid (And.intro f4 f6)
          clear f1 f2 f4 f5 f6 f7 f8
          rw [hk]
          clear hk
          go_wp2_with fail
          refine (RiskOf_i _ _ _ a 0 es _ HE.out (by omega) (by omega)).mono ?_
          rintro e w13 ⟨rfl, hb13⟩
          rw [HF.out.1, HF.out.2.1]
          have HB13 := Lib.hid (HB12.out.trans (hb13.mono HB12.out.size))
          replace HE := Lib.hid (HE.out.below hb13)
          clear hb13
          go_wp2_with fail
          refine (RiskOf_i _ _ _ a (v3 + 1) es _ HE.out (by omega) (by omega)).mono ?_
          rintro e w14 ⟨rfl, hb14⟩
          have HB14 := Lib.hid (HB13.out.trans (hb14.mono HB13.out.size))
          replace HE := Lib.hid (HE.out.below hb14)
          clear hb14
          go_wp2_with fail
          refine (ZonesOf_i _ _ _ es _ HE.out).mono ?_
          rintro e w15 ⟨A5, c5, rfl, hfr, hb15⟩
          rw [HF.out.2.2.1]
          have HB15 := Lib.hid (HB14.out.trans (hb15.mono HB14.out.size))
          replace HE := Lib.hid (HE.out.below hb15)
          have HZ := Lib.hid (hfr.ints (zonesR_ok es).1)
          clear hfr hb15
          have hk4 : (riskK es a (v3 + 1) == 0) = true → riskA es a v3 ≤ riskA es a (v3 + 1) := fun hc => HK.out.1 (by simpa using hc)
          obtain ⟨hk6, hk7⟩ := HK.out.2
          obtain ⟨ca, rfl⟩ : ∃ ca : Nat, a = (ca : Int) := ⟨a.toNat, by omega⟩
          generalize riskA es (ca : Int) v3 = r1 at hk4 f3 ⊢
          generalize riskA es (ca : Int) (v3 + 1) = r2 at hk4 ⊢
          generalize riskK es (ca : Int) (v3 + 1) = ck at hk4 ⊢
          generalize hLL : (zonesR es).length = L at hk7 ⊢
          have HLL := Lib.hid hLL
          have HZ2 := Lib.hid (show Ints w15 A5 L (zonesR es) by have := HZ.out; rw [hLL] at this; exact this)
          clear hLL HK HZ
          have HK := Lib.hid hk4
          clear hk4
          go_upto_region 27 with (fail)
          go_cut [204] (fun r wr => r = .bool false ∧ Below w.heap.size w wr ∧ Hid (Evs wr A3 n3 es) ∧ Hid (Ints wr A5 L (zonesR es)))
          case first =>
            have hr0 : decide (r1 < 0) = false := decide_eq_false (by omega)
            have ha0 : decide ((ca : Int) < 0) = false := decide_eq_false (by omega)
            have hlL : decide ((L : Int) ≤ (ca : Int)) = false := decide_eq_false (by omega)
            cases hc : (ck == 0)
            · go_wp2_with fail
              go_meet
              exact ⟨by simp; omega, HB15.out, HE, HZ2⟩
            · have g2 := HK.out hc
              have hr12 : decide (r2 < r1) = false := decide_eq_false (by omega)
              go_wp2_with fail
              go_meet
              exact ⟨by simp; omega, HB15.out, HE, HZ2⟩
          case rest =>
            obtain ⟨rfl, hbc, HE, HZ⟩ := hcut
            have HBC := Lib.hid hbc
            clear hbc
            go_wp2_with fail
            go_loopw [31, 32] (fun tv iv wr => ∃ k q : Nat, k ≤ n3 ∧ iv = .int .i64 k ∧ wr = wc.drewN q ∧ tv = .int .i64 (zw es ca k)) (fun _ iv _ => n3 - (intOf iv).toNat)
            case atStart => exact ⟨0, 0, Nat.zero_le _, rfl, rfl, by simp [zw]⟩
            case round =>
              obtain ⟨k, q, hk, rfl, rfl, rfl⟩ := hrel
              obtain ⟨t, ht⟩ : ∃ t, t = zw es ca k := ⟨_, rfl⟩
              rw [← ht]
              have HT := Lib.hid ht
              clear ht
              by_cases hlt : k < n3
              · obtain ⟨b, off, y, P, m3, d, ps, rfl, HX, hc1, hc2, hy, hp⟩ := HE.out.at_ hlt
                obtain ⟨x, hx, hcm, hz1, hz2⟩ := HF.out.2.2.2.2 k y ps HX.out
                rw [hp.1] at hcm
                obtain ⟨b2, off2, x2, rfl, HX2, hcx, hx1, hx2⟩ := hp.at_ (show ca < m3 by omega)
                rw [Int.toNat_natCast, HX2.out] at hx
                injection hx with hx
                subst hx
                have hm63 := hp.2.1
                have HS := Lib.hid (show zw es ca (k + 1) = max t (zoneV x2 y) by
                  have hx' := HX2.out
                  rw [zw_snoc HX.out, ← HT.out, zwF]
                  simp [hx'])
                have HC := fun W : World => Lib.hid (show Calls Try.prog 59 #[.int .i64 x2, .int .i64 y] W fun e w' => e = .returned (.tuple #[.int .i64 (zoneV x2 y), .int .i64 0]) ∧ W = w' by
                  have := ZoneOf_s x2 y W
                  rw [hz1, hz2] at this
                  exact this)
                generalize zoneV x2 y = zv at HS HC
                clear hz1 hz2 hp
                have hki : (k : Int) < (n3 : Int) := by omega
                have hnm : decide ((m3 : Int) ≤ (ca : Int)) = false := decide_eq_false (by omega)
                go_wp2_with fail
                go_quiet ((go_at_call 59; exact quiet_add_left (HC _).out))
                by_cases htz : t < zv
                · have HS2 := Lib.hid (show zw es ca (k + 1) = zv by rw [HS.out]; omega)
                  go_wp2_with fail
                  go_roundw
                  case rel => exact ⟨k + 1, _, by omega, by go_num, rfl, by rw [HS2.out]⟩
                  case measure => simp [intOf]; omega
                · have HS2 := Lib.hid (show zw es ca (k + 1) = t by rw [HS.out]; omega)
                  go_wp2_with fail
                  go_roundw
                  case rel => exact ⟨k + 1, _, by omega, by go_num, rfl, by rw [HS2.out]⟩
                  case measure => simp [intOf]; omega
              · obtain rfl : k = n3 := by omega
                clear hlt
                obtain ⟨b, off, x2, rfl, HX2, hcx, hx1, hx2⟩ := HZ.out.at_ (show ca < L by omega)
                have hxt : x2 = t := by
                  have h7 := HF.out.2.2.2.1
                  rw [Int.toNat_natCast, HX2.out, HE.out.1, ← HT.out] at h7
                  injection h7
                subst hxt
                go_wp2_with fail
                go_ret
                exact ⟨by simp, below_drewN HBC.out _⟩
        · rw [risk_none hk]
          have hk0 : (riskK es a v3 == 0) = false := by simpa using hk
          generalize riskK es a v3 = ck at hk0 ⊢
          clear hk
          go_wp2_with fail
          go_ret
          exact ⟨rfl, HB12.out⟩
theorem walk (A0 : Option Addr) (n0 c0 : Nat) (z0 : Unit) (A1 : Option Addr) (n1 c1 : Nat) (z1 : Unit) (w : World) (h0 : Byts w A0 n0) (h1 : Byts w A1 n1) :
    Calls Try.prog 14 #[.slice A0 n0 c0, .slice A1 n1 c1] w fun e w' => e = .returned (.bool true) ∧ Below w.heap.size w w' := by
  by_cases hn0 : n0 ≤ 1048576
  · by_cases hn1 : n1 ≤ 1048576
    · exact walk_near A0 n0 c0 z0 A1 n1 c1 z1 w h0 h1 hn0 hn1
    · exact walk_far1 A0 n0 c0 z0 A1 n1 c1 z1 w h0 h1 hn0 hn1
  · exact walk_far0 A0 n0 c0 z0 A1 n1 c1 z1 w h0 h1 hn0

set_option maxRecDepth 100000 in
theorem lifted (os : Os) (started : os.Started) (H : Type) (enc : TypeId × Value → H) :
    ReturnsInHanded {} Try.checked os 14 .any (Rows.fnReturnsSpec.pre6 enc Try.prog Try.f14 Rows.fnReturnsRow.domain false) (Rows.fnReturnsSpec.post enc Try.prog Try.f14 false true false false) := by
  refine returnsInHanded_of_change (C := Try.checked) own started (by kernel_rfl) Try.func14
    (ChangeSpec.witness6 (enc := enc) (C := Try.checked) false ⟨#[], #[.slice none 0 0, .slice none 0 0], []⟩ 8 (by kernel_rfl) (by kernel_rfl) (by kernel_rfl) (by kernel_rfl)) ?_
  intro W base args ds gs before hval0 hW hcnd _
  have hval : ∀ (j : Nat) t v, Try.f14.params[j]? = some t → args[j]? = some v → Value.okWide Try.prog W .any base t v := hval0
  have hW' := hW
  obtain ⟨p, q, hA0, hV, rfl, hfz, hnd⟩ := hW
  have hA : DataW.TrodAll enc Try.prog W 0 (fun _ => true) true Try.f14.params.toList args.toList ds p := hA0
  rw [Try.params14] at hA hval
  obtain ⟨v0, vs0, d0, ds0, p0, q0, hargs, rfl, rfl, h0, r0⟩ := trodAll_cons hA
  obtain ⟨v1, vs1, d1, ds1, p1, q1, rfl, rfl, rfl, h1, r1⟩ := trodAll_cons r0
  obtain ⟨rfl, rfl, rfl⟩ := trodAll_nil r1
  obtain rfl : args = #[v0, v1] := by cases args; simp_all
  obtain ⟨rfl, rfl⟩ := trodVars_none hV
  have k0 := h0
  have lt0 : ∀ x ∈ p0, x.block < W.heap.size := by obtain ⟨m, hm⟩ := k0; exact DataW.trod_lt m _ _ _ hm
  obtain ⟨a0, n0, c0, rfl⟩ := okWide_slice Try.underlying51 (hval 0 51 v0 rfl rfl)
  obtain ⟨z0, w0⟩ := bytes_open Try.underlying51 Try.underlying5 (by kernel_rfl) h0
  have k1 := h1
  have lt1 : ∀ x ∈ p1, x.block < W.heap.size := by obtain ⟨m, hm⟩ := k1; exact DataW.trod_lt m _ _ _ hm
  obtain ⟨a1, n1, c1, rfl⟩ := okWide_slice Try.underlying51 (hval 1 51 v1 rfl rfl)
  obtain ⟨z1, w1⟩ := bytes_open Try.underlying51 Try.underlying5 (by kernel_rfl) h1
  clear hA0 hval0
  refine (walk a0 n0 c0 z0 a1 n1 c1 z1 W w0 w1).mono fun e W' ⟨he, bel⟩ => ?_
  subst he
  exact ⟨_, rfl, _, _, _, [], _, [], hW', trodAll_mk1 (shut_bool Try.underlying4 _), (trodAll_cons_mk (Below.trod laidOut (by kernel_rfl) (of_decide_eq_true (by kernel_rfl)) k0 bel lt0) (trodAll_cons_mk (Below.trod laidOut (by kernel_rfl) (of_decide_eq_true (by kernel_rfl)) k1 bel lt1) trodAll_mk0)), rfl, bel.frame _, fun h => by cases h⟩

theorem over : Rows.fnReturnsRow.holds Try.pinned (OpenSpec.ofChange Rows.fnReturnsSpec) :=
  OpenClaim.holds_of_wide 14 Try.f14 rfl rfl rfl rfl rfl rfl rfl ⟨rfl, rfl, rfl, rfl, rfl⟩ rfl rfl rfl rfl rfl (by kernel_rfl) Try.func14 (by kernel_rfl)
    (of_decide_eq_true (by kernel_rfl)) (by unfold Func.isWrapper; first | (rw [if_pos (by decide +kernel)]; kernel_rfl) | (rw [if_neg (by decide +kernel)]; exact ⟨rfl, rfl⟩))
    (fun os started H enc _ => lifted os started H enc)

/-- The statement. -/
theorem proved : Rows.FnReturnsSaid := over
end Go.Proofs.Ytbakmcjngadebaa.fnReturns
