/-
  The walk of the law FnProfiles: for every input it returns true, and its arguments read as before.
-/
import Derived.Test.YtknppcgoooaaaaaGreatDoorProM
import Derived.Test.YtknppcgoooaaaaaGreatDoorProR
import Derived.Test.YtknppcgoooaaaaaGreatDoorProD
import Derived.Test.YtknppcgoooaaaaaGreatDoorProE
import Derived.Test.YtknppcgoooaaaaaGreatDoorProS
import Derived.Test.YtknppcgoooaaaaaGreatDoorProL
import Derived.Test.YtknppcgoooaaaaaGreatDoorR8
import Derived.Deep.DeepCutAuto
namespace Go.Proofs.YtknppcgoooaaaaaGreatDoor.fnProfiles
open Go.ChangeShapes Go.WideShapes Go.ChangeAt Go.RowKit Go.Deep
set_option linter.unusedVariables false

theorem R8Profile_r (A : Option Addr) (n c : Nat) (w : World) (h : Byts w A n) :
    Calls Tryz.prog 18 #[.slice A n c] w fun e w' => (∃ A' n' c' ls, e = .returned (.slice A' n' c') ∧ Lys w' A' n' ls ∧ n' ≤ 5 ∧ (0 < n' → n' ≤ c' ∧ c' ≤ maxLen)) ∧ Below w.heap.size w w' := by
  have HH := Lib.hid h
  clear h
  go_enter Tryz.func18, Tryz.ntmps18
  go_wp2_with fail
  refine (from_p _ _ _ _ HH.out).mono ?_
  rintro e w1 ⟨rfl, hs1, hb1⟩
  have H1 := Lib.hid (And.intro hs1 hb1)
  clear hs1 hb1
  go_wp2_with fail
  refine (l03Draw_d _ _ _ H1.out.1 (by omega)).mono ?_
  rintro e w2 ⟨⟨A', n', c', ls, rfl, hbag, hn5⟩, hs2, hg2⟩
  have hlb := LBag.of_own hbag.1 hbag.2.1 (by omega) hbag.2.2
  have H2 := Lib.hid (And.intro hlb.lys (And.intro (fun h => hlb.room h) (below_grown H1.out.2 hg2 H1.out.2.size (Nat.le_refl _))))
  clear hs2 hg2 hbag hlb
  go_wp2_with fail
  go_ret
  exact ⟨⟨_, _, _, _, rfl, H2.out.1, hn5, H2.out.2.1⟩, H2.out.2.2⟩
theorem tmod_bd {x i : Int} (h : 0 ≤ x) (hi : 1 ≤ i) : 0 ≤ x.tmod i ∧ x.tmod i < i := by
  rw [Int.tmod_eq_emod_of_nonneg h]
  exact ⟨Int.emod_nonneg _ (by omega), Int.emod_lt_of_pos _ (by omega)⟩
set_option maxRecDepth 100000 in
set_option maxHeartbeats 60000000 in
theorem walk (A0 : Option Addr) (n0 c0 : Nat) (z0 : Unit) (A1 : Option Addr) (n1 c1 : Nat) (z1 : Unit) (w : World) (h0 : Byts w A0 n0) (h1 : Byts w A1 n1) (hE : Env w) :
    Calls Tryz.prog 4 #[.slice A0 n0 c0, .slice A1 n1 c1] w fun e w' => e = .returned (.bool true) ∧ Below w.heap.size w w' := by
  have hm0 := h0.1
  have hm1 := h1.1
  have HE0 := Lib.hid hE
  clear hE
  by_cases hn : n0 ≤ 1048576 ∧ n1 ≤ 1048576
  rotate_left
  · have HN := Lib.hid hn
    clear hn
    go_enter Tryz.func4, Tryz.ntmps4
    go_wp2_with (go_at_call 17; refine (r8Long_yes _ _ _ _ _ _ _ hm0 hm1 HN.out).mono ?_; rintro e w' ⟨rfl, rfl⟩)
    go_ret
    exact ⟨rfl, Below.refl _ _⟩
  obtain ⟨hn0, hn1⟩ := hn
  have HH := Lib.hid (And.intro h0 h1)
  clear h0 h1
  go_enter Tryz.func4, Tryz.ntmps4
  go_wp2_with (go_at_call 17; refine (r8Long_no _ _ _ _ _ _ _ hn0 hn1).mono ?_; rintro e w' ⟨rfl, rfl⟩)
  refine (R8Profile_r _ _ _ _ HH.out.1).mono ?_
  rintro e w1 ⟨⟨A, n, c, ls, rfl, hl, hn5, hroom⟩, hb1⟩
  have HL := Lib.hid hl.1
  have HOK := Lib.hid hl.2.2.1
  have HR := Lib.hid hroom
  have H1 := Lib.hid (And.intro hl (And.intro hb1 (And.intro (HH.out.2.below hb1) (HE0.out.below hb1))))
  clear hl hb1 hroom HH HE0
  go_wp2_with fail
  refine (R8Layer_d _ _ _ _ H1.out.2.2.1).mono ?_
  rintro e w2 ⟨⟨f, i, v, d, t, h, a, rfl, hB⟩, hb2⟩
  have HB := Lib.hid hB
  have hba : Below w2.heap.size w2 (w2.alloc (.cells (lyArr f i v d t h a) 44)) := below_alloc1 w2 _
  have hbox := ly_alloc w2 f i v d t h a 44
  have hbb := hb2.trans (hba.mono hb2.size)
  obtain ⟨w3, hw3⟩ : ∃ w3, w3 = w2.alloc (.cells (lyArr f i v d t h a) 44) := ⟨_, rfl⟩
  have HW3 := Lib.hid hw3
  have H3 := Lib.hid (show Lys w3 A n ls ∧ Below w.heap.size w w3 ∧ Byts w3 A1 n1 ∧ Env w3 ∧ LyAt w3 w2.heap.size 0 f i v d t h a from by
    rw [hw3]
    exact ⟨H1.out.1.below hbb, H1.out.2.1.trans (hbb.mono H1.out.2.1.size), H1.out.2.2.1.below hbb, H1.out.2.2.2.below hbb, hbox⟩)
  obtain ⟨xb, hxb⟩ : ∃ xb, xb = w2.heap.size := ⟨_, rfl⟩
  rw [← hxb] at H3
  have HXB := Lib.hid hxb
  clear hb2 hB hba hbox hbb hw3 H1 hxb
  go_upto_region 5 with (fail)
  rw [show w2.alloc (.cells #[.int .i64 f, .int .i64 i, .int .i64 v, .int .i64 d, .int .i64 t, .int .i64 h, .int .i64 a] 44) = w3 from HW3.out.symm, ← HXB.out]
  go_wp2_with fail
  refine (MassOf_i _ _ _ ls _ H3.out.1).mono ?_
  rintro e w4 ⟨rfl, hb⟩
  have H4 := Lib.hid (And.intro (H3.out.1.below hb) (And.intro (H3.out.2.1.trans (hb.mono H3.out.2.1.size)) (And.intro (H3.out.2.2.1.below hb) (And.intro (H3.out.2.2.2.1.below hb) (H3.out.2.2.2.2.below hb)))))
  clear hb H3
  go_wp2_with fail
  refine (HeightOf_i _ _ _ ls _ H4.out.1).mono ?_
  rintro e w5 ⟨rfl, hb⟩
  have H5 := Lib.hid (And.intro (H4.out.1.below hb) (And.intro (H4.out.2.1.trans (hb.mono H4.out.2.1.size)) (And.intro (H4.out.2.2.1.below hb) (And.intro (H4.out.2.2.2.1.below hb) (H4.out.2.2.2.2.below hb)))))
  clear hb H4
  go_wp2_with fail
  refine (ProfileText_i _ _ _ ls _ H5.out.1 H5.out.2.2.2.1.tab).mono ?_
  rintro e w6 ⟨rfl, hb⟩
  have H6 := Lib.hid (And.intro (H5.out.1.below hb) (And.intro (H5.out.2.1.trans (hb.mono H5.out.2.1.size)) (And.intro (H5.out.2.2.1.below hb) (And.intro (H5.out.2.2.2.1.below hb) (H5.out.2.2.2.2.below hb)))))
  clear hb H5
  go_wp2_with fail
  refine (ReadProfile_i ls _ H6.out.2.2.2.1 (by rw [HL.out]; omega) HOK.out).mono ?_
  rintro e w7 ⟨A4, n4, c4, rfl, hrd, hb⟩
  obtain rfl : n4 = n := by rw [← hrd.1, HL.out]
  have H7 := Lib.hid (And.intro (H6.out.1.below hb) (And.intro (H6.out.2.1.trans (hb.mono H6.out.2.1.size)) (And.intro (H6.out.2.2.1.below hb) (And.intro hrd (H6.out.2.2.2.2.below hb)))))
  clear hb hrd H6
  obtain ⟨x0, x1, x2, x3, x4, x5, x6⟩ := H7.out.2.2.2.2
  simp only [Nat.zero_add] at x1 x2 x3 x4 x5 x6
  go_wp2_with fail
  refine (AddLayer_i _ _ _ ls f i v d t h a _ H7.out.1 (by omega) HB.out).mono ?_
  rintro e w8 ⟨A5, c5, rfl, hbag, hb⟩
  have HRN := Lib.hid (hbag.room (by omega))
  have H8 := Lib.hid (And.intro (H7.out.2.2.2.1.below hb) (show PFam w w8 A n4 ls A5 xb f i v d t h a A1 n1 from ⟨H7.out.1.below hb, hbag.lys, H7.out.2.2.2.2.below hb, H7.out.2.2.1.below hb, H7.out.2.1.trans (hb.mono H7.out.2.1.size)⟩))
  clear hb hbag H7 x0 x1 x2 x3 x4 x5 x6
  obtain ⟨IC, hIC⟩ : ∃ IC, IC = sumF Ly.ice ls := ⟨_, rfl⟩
  obtain ⟨WT, hWT⟩ : ∃ WT, WT = sumF Ly.water ls := ⟨_, rfl⟩
  obtain ⟨HT, hHT⟩ : ∃ HT, HT = sumF thickL ls := ⟨_, rfl⟩
  rw [← hIC, ← hWT, ← hHT]
  have HSU := Lib.hid (And.intro hIC (And.intro hWT hHT))
  clear hIC hWT hHT
  go_wp2_with fail
  refine (SameProfile_i _ _ _ _ _ ls _ H8.out.1 H8.out.2.list).mono ?_
  rintro e w9 ⟨rfl, hb⟩
  have H9 := Lib.hid (And.intro (H8.out.1.below hb) (H8.out.2.step hb))
  clear hb H8
  go_wp2_with fail
  refine (SameProfile_t _ _ _ _ _ ls _ H9.out.1 H9.out.2.list).mono ?_
  rintro e w10 ⟨rfl, hb⟩
  have H10 := Lib.hid (H9.out.2.step hb)
  clear hb H9
  go_wp2_with fail
  go_loopw [16, 17] (fun sv kv wr => ∃ k : Nat, k ≤ n4 ∧ kv = .int .i64 k ∧ sv = .int .i64 (sumF thickL (ls.take k)) ∧ Hid (PFam w wr A n4 ls A5 xb f i v d t h a A1 n1)) (fun _ kv _ => n4 - (intOf kv).toNat)
  case atStart => exact ⟨0, Nat.zero_le _, rfl, rfl, H10.out⟩
  case round =>
    clear H10
    obtain ⟨k, hk, rfl, rfl, HF⟩ := hrel
    have hs := thickS_bd HF.out.list k
    obtain ⟨S, hS⟩ : ∃ S, S = sumF thickL (ls.take k) := ⟨_, rfl⟩
    rw [← hS] at hs ⊢
    have HS := Lib.hid hS
    clear hS
    by_cases hlt : k < n4
    rotate_left
    · obtain rfl : k = n4 := by omega
      obtain rfl : S = HT := by rw [HS.out, HSU.out.2.2, List.take_of_length_le (by rw [HL.out]; exact Nat.le_refl _)]
      clear hlt
      go_wp2_with fail
      go_ret
      exact ⟨by first | rfl | (simp; done), HF.out.below⟩
    have hki : (k : Int) < (n4 : Int) := by omega
    obtain ⟨b, off, f', i', v', d', t', h', a', rfl, HX, hc, hb'⟩ := HF.out.list.at_ hlt
    have HBX := Lib.hid hb'
    have htb := thick_bd hb'.2.1 hb'.2.2.2.1
    obtain ⟨tk, htk⟩ : ∃ tk, tk = divN i' d' := ⟨_, rfl⟩
    rw [← htk] at htb
    have HTK := Lib.hid htk
    have HSN := Lib.hid (show sumF thickL (ls.take (k + 1)) = S + tk by rw [sumF_take thickL HX.out, ← HS.out, htk]; rfl)
    have hbi := hb'.2.1
    clear htk hb'
    obtain ⟨q0, q1, q2, q3, q4, q5, q6⟩ := hc
    go_wp2_with fail
    refine (ThicknessOf_i _ _ _ _ _ _ _ _ HBX.out).mono ?_
    rintro e wa ⟨rfl, hb⟩
    rw [← HTK.out]
    have HFa := Lib.hid (HF.out.step hb)
    clear hb HF q0 q1 q2 q3 q4 q5 q6
    go_wp2_with fail
    refine (LoadAbove_i _ _ _ k _ _ HFa.out.next (by omega) HRN.out.1 HRN.out.2).mono ?_
    rintro e wb ⟨rfl, hb⟩
    rw [load_next (by rw [HL.out]; exact hlt)]
    have HFb := Lib.hid (HFa.out.step hb)
    clear hb HFa
    have HAB := Lib.hid (fun j => above_bd HOK.out (by rw [HL.out]; omega) k j)
    have hdb := HAB.out (n4 - (k + 1))
    have HD := Lib.hid (show (ls.drop (k + 1)).take (n4 - (k + 1)) = ls.drop (k + 1) from List.take_of_length_le (by rw [List.length_drop, HL.out]; exact Nat.le_refl _))
    rw [HD.out] at hdb
    obtain ⟨LD, hLD⟩ : ∃ LD, LD = sumF wetL (ls.drop (k + 1)) := ⟨_, rfl⟩
    rw [← hLD] at hdb ⊢
    have HLD := Lib.hid hLD
    clear hLD
    obtain ⟨y0, y1, y2, y3, y4, y5, y6⟩ := HFb.out.box
    simp only [Nat.zero_add] at y1 y2 y3 y4 y5 y6
    have hBi := HB.out.2.1
    have hBv := HB.out.2.2.1
    go_wp2_with fail
    clear y0 y1 y2 y3 y4 y5 y6
    as_aux_lemma =>
    go_loopw [22, 23] (fun av jv wq => ∃ j : Nat, k + 1 ≤ j ∧ j ≤ n4 ∧ jv = .int .i64 j ∧ av = .int .i64 ((i + v) + sumF wetL ((ls.drop (k + 1)).take (j - (k + 1)))) ∧ Hid (PFam w wq (some ⟨b, off, none⟩) n4 ls A5 xb f i v d t h a A1 n1)) (fun _ jv _ => n4 - (intOf jv).toNat)
    case atStart => exact ⟨k + 1, Nat.le_refl _, by omega, by go_num, by simp [sumF], HFb.out⟩
    case round =>
      clear HFb
      obtain ⟨j, hj1, hj2, rfl, rfl, HFj⟩ := hrel
      have hab := HAB.out (j - (k + 1))
      obtain ⟨P, hP⟩ : ∃ P, P = sumF wetL ((ls.drop (k + 1)).take (j - (k + 1))) := ⟨_, rfl⟩
      rw [← hP] at hab ⊢
      have HP := Lib.hid hP
      clear hP
      by_cases hjl : j < n4
      · as_aux_lemma =>
        have hji : (j : Int) < (n4 : Int) := by omega
        obtain ⟨b2, off2, f2, i2, v2, d2, t2, h2, a2, hA2, HX2, hc2, hb2⟩ := HFj.out.list.at_ hjl
        injection hA2 with hA2
        injection hA2 with hA21 hA22 _
        subst hA21 hA22
        obtain ⟨c0, c1, c2, c3, c4, c5, c6⟩ := hc2
        have hb21 := hb2.2.1
        have hb22 := hb2.2.2.1
        have HPN := Lib.hid (show sumF wetL ((ls.drop (k + 1)).take (j + 1 - (k + 1))) = P + (i2 + v2) by rw [above_snoc hj1 HX2.out, ← HP.out])
        have hw1 : IntKind.i64.wrap (i2 + v2) = i2 + v2 := IntWalk.i64_in _ (by omega)
        have hw2 : IntKind.i64.wrap (i + v + P + (i2 + v2)) = i + v + P + (i2 + v2) := IntWalk.i64_in _ (by omega)
        clear hb2
        go_wp2_with fail
        go_quiet (fail)
        go_wp2_with fail
        go_roundw
        case rel => exact ⟨j + 1, by omega, by omega, by go_num, by rw [HPN.out]; congr 1; omega, HFj.out.step (below_drewN (Below.refl _ _) _)⟩
        case measure => simp [intOf]; omega
      · obtain rfl : j = n4 := by omega
        obtain rfl : P = LD := by rw [HP.out, HD.out, HLD.out]
        clear hjl hj1 hj2
        go_upto_if 161 with (fail)
        go_cut [] (fun wz => Hid (PFam w wz (some ⟨b, off, none⟩) j ls A5 xb f i v d t h a A1 n1))
        case first =>
         as_aux_lemma =>
          by_cases ht0 : 0 < tk
          · have hg1 : S + tk - 1 < S + tk := by omega
            go_wp2_with fail
            refine (LayerAt_i _ _ _ k ls _ S _ HFj.out.list HX.out (by rw [HS.out]; exact Int.le_refl _) (by rw [← HS.out]; show S < S + divN i' d'; rw [← HTK.out]; omega)).mono ?_
            rintro e wc ⟨rfl, hb⟩
            have HFc := Lib.hid (HFj.out.step hb)
            clear hb HFj
            go_wp2_with fail
            refine (LayerAt_i _ _ _ k ls _ (S + tk - 1) _ HFc.out.list HX.out (by rw [← HS.out]; omega) (by rw [← HS.out]; show S + tk - 1 < S + divN i' d'; rw [← HTK.out]; omega)).mono ?_
            rintro e wd ⟨rfl, hb⟩
            have HFd := Lib.hid (HFc.out.step hb)
            clear hb HFc
            go_wp2_with fail
            go_meet
            exact HFd.out
          · go_wp2_with fail
            go_meet
            exact HFj.out
        case rest =>
         as_aux_lemma =>
          have HFc := hcut
          clear hcut HFj
          go_wp2_with fail
          refine (JoinLayers_i _ _ _ ls k _ HFc.out.list HR.out hlt).mono ?_
          rintro e wd hj
          obtain ⟨A6, n6, c6, q6, rfl, hq6, hb⟩ := JoinR.form hj
          have HFd := Lib.hid (HFc.out.step hb)
          have HJ := Lib.hid hq6
          clear hb HFc hj hq6
          go_upto_if 203 with (fail)
          go_cut [] (fun wz => Hid (PFam w wz (some ⟨b, off, none⟩) j ls A5 xb f i v d t h a A1 n1))
          case first =>
           as_aux_lemma =>
            rcases HJ.out with (rfl | rfl | rfl) | ⟨rfl, ls6, hl6, hn6, hi6, hw6⟩
            · go_wp2_with fail
              go_meet
              exact HFd.out
            · go_wp2_with fail
              go_meet
              exact HFd.out
            · go_wp2_with fail
              go_meet
              exact HFd.out
            · have HSJ := Lib.hid (show sumF Ly.ice ls6 = IC ∧ sumF Ly.water ls6 = WT from ⟨hi6.trans HSU.out.1.symm, hw6.trans HSU.out.2.1.symm⟩)
              have HL6 := Lib.hid hl6
              obtain rfl : j = n6 + 1 := by rw [HL.out] at hn6; omega
              have hn6' : n6 ≤ 16 := hl6.2.1
              clear hl6 hi6 hw6 HJ hn6
              go_wp2_with fail
              refine (MassOf_t _ _ _ ls6 _ HL6.out).mono ?_
              rintro e we ⟨rfl, rfl⟩
              rw [HSJ.out.1, HSJ.out.2]
              go_wp2_with fail
              go_meet
              exact HFd.out
          case rest =>
            have HFe := hcut
            clear hcut HFd HJ
            rename World => wv
            have hcx := HFe.out.list.at_ hlt
            obtain ⟨b3, off3, f3, i3, v3, d3, t3, h3, a3, hA3, HX3, hc3, hb3⟩ := hcx
            injection hA3 with hA3
            injection hA3 with hA31 hA32 _
            subst hA31 hA32
            have he3 := HX3.out.symm.trans HX.out
            simp only [Option.some.injEq, Ly.mk.injEq] at he3
            obtain ⟨rfl, rfl, rfl, rfl, rfl, rfl, rfl⟩ := he3
            obtain ⟨-, c1', -⟩ := hc3
            have hi0 : ¬ i3 = 0 := by omega
            have hib : (i3 == 0) = false := by rw [beq_eq_false_iff_ne]; omega
            clear hb3
            go_upto_region 37 with (fail)
            go_cut [33] (fun pv wz => ∃ p : Int, pv = .int .i64 p ∧ 1 ≤ p ∧ p ≤ i3 ∧ Hid (PFam w wz (some ⟨b, off, none⟩) j ls A5 xb f i v d t h a A1 n1))
            case first =>
              have HS0 : wv.cell? ⟨b, off + k * 7 + 1, none⟩ = some (.int .i64 i3) ∧ PFam w wv (some ⟨b, off, none⟩) j ls A5 xb f i v d t h a A1 n1 := ⟨c1', HFe.out⟩
              go_region_held3 (fun W => W.cell? ⟨b, off + k * 7 + 1, none⟩ = some (.int .i64 i3) ∧ PFam w W (some ⟨b, off, none⟩) j ls A5 xb f i v d t h a A1 n1)
                (first | assumption | exact HS0 | exact ⟨HS0.1, HS0.2.step (below_drewN (Below.refl _ _) 1)⟩)
                ((go_at_call 32; refine (r8Wide_any _ _ _ 20 60000 _ (HS0.2.step (below_drewN (Below.refl _ _) 1)).more hn1 (by omega) (by omega) (by omega)).mono ?_; rintro e w2 ⟨⟨x, rfl, hx1, hx2⟩, rfl⟩))
              all_goals
                have htm := tmod_bd hx1 hbi.1
                go_wp2_with fail
                go_meet
                obtain ⟨m, hm⟩ : ∃ m, m = x.tmod i3 := ⟨_, rfl⟩
                rw [← hm] at htm ⊢
                have hwm : IntKind.i64.wrap (1 + m) = 1 + m := IntWalk.i64_in _ (by omega)
                exact ⟨1 + m, by rw [hwm], by omega, by omega, HS0.2.step (below_drewN (Below.refl _ _) 1)⟩
            case rest =>
             as_aux_lemma =>
              obtain ⟨p, rfl, hp1, hp2, HFf⟩ := hcut
              rename World => wu
              clear HFe c1' hi0 hib
              go_wp2_with fail
              by_cases hpe : p = i3
              · subst hpe
                refine (SplitLayer_no _ _ _ ls k ⟨f3, p, v3, d3, t3, h3, a3⟩ _ HFf.out.list HX.out).mono ?_
                rintro e wx ⟨rfl, hb⟩
                have HFg := Lib.hid (HFf.out.step hb)
                clear hb HFf
                obtain ⟨b4, off4, f4, i4, v4, d4, t4, h4, a4, hA4, HX4, hc4, -⟩ := HFg.out.list.at_ hlt
                injection hA4 with hA4
                injection hA4 with hA41 hA42 _
                subst hA41 hA42
                have he4 := HX4.out.symm.trans HX.out
                simp only [Option.some.injEq, Ly.mk.injEq] at he4
                obtain ⟨rfl, rfl, rfl, rfl, rfl, rfl, rfl⟩ := he4
                obtain ⟨-, c1', -⟩ := hc4
                go_wp2_with fail
                go_roundw
                case rel => exact ⟨k + 1, by omega, by go_num, by rw [HSN.out], HFg.out⟩
                case measure => simp [intOf]; omega
              · have hlt2 : p < i3 := by omega
                refine (SplitLayer_yes _ _ _ ls k ⟨f3, i3, v3, d3, t3, h3, a3⟩ p _ HFf.out.list HR.out HX.out (by omega) hp1 hlt2).mono ?_
                rintro e wx ⟨A7, c7, ls7, rfl, hl7, hi7, hw7, ⟨y7, hy7, hyp⟩, hb⟩
                have HFg := Lib.hid (HFf.out.step hb)
                have HSJ := Lib.hid (show sumF Ly.ice ls7 = IC ∧ sumF Ly.water ls7 = WT from ⟨hi7.trans HSU.out.1.symm, hw7.trans HSU.out.2.1.symm⟩)
                have HL7 := Lib.hid hl7
                obtain ⟨b4, off4, f4, i4, v4, d4, t4, h4, a4, rfl, HX4, hc4, -⟩ := hl7.at_ (show k < j + 1 by omega)
                obtain rfl : i4 = p := by
                  have := HX4.out.symm.trans hy7
                  injection this with this
                  rw [← hyp, ← this]
                obtain ⟨-, c1', -⟩ := hc4
                have hk2 : (k : Int) < (j : Int) + 1 := by omega
                clear hb HFf hl7 hi7 hw7 hy7 hyp
                go_wp2_with fail
                refine (MassOf_t _ _ _ ls7 _ HL7.out).mono ?_
                rintro e we ⟨rfl, rfl⟩
                rw [HSJ.out.1, HSJ.out.2]
                go_wp2_with fail
                go_roundw
                case rel => exact ⟨k + 1, by omega, by go_num, by rw [HSN.out], HFg.out⟩
                case measure => simp [intOf]; omega
end Go.Proofs.YtknppcgoooaaaaaGreatDoor.fnProfiles
