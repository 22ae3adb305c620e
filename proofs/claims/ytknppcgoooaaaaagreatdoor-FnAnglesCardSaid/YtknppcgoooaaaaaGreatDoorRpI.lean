/-
  Reading a path: the program's.
-/
import Derived.Test.YtknppcgoooaaaaaGreatDoorRpM
import Derived.Test.YtknppcgoooaaaaaGreatDoorSplN
import Derived.Test.YtknppcgoooaaaaaGreatDoorPthI
namespace Go.Proofs.YtknppcgoooaaaaaGreatDoor
open Go.ChangeShapes Go.WideShapes Go.ChangeAt Go.RowKit Go.Deep
set_option linter.unusedVariables false

def pcP (l : List UInt8) : List (List UInt8) := Lib.splitK [32] 0 (min 25 (l.length + 1) - 1) l
theorem rpI_bad {l : List UInt8} {k : Nat} {u : List UInt8} (h : (pcP l)[k]? = some u) (hu : rdP u = none) : rp l = none := by
  rw [rp_prog, show Lib.splitK [32] 0 (min 25 (l.length + 1) - 1) l = pcP l from rfl, allF_none h hu]
theorem rpI_end {l : List UInt8} {ps : Pth} (h : allF rdP (pcP l) = some ps) : rp l = if pthS ps = l then some ps else none := by
  have hne : l ≠ [] := fun e => by
    subst e
    have h1 : pcP [] = [[]] := rfl
    rw [h1] at h
    have h2 : allF rdP [[]] = none := allF_none (k := 0) (x := []) rfl rfl
    rw [h2] at h; cases h
  rw [rp_prog, show Lib.splitK [32] 0 (min 25 (l.length + 1) - 1) l = pcP l from rfl, h]
  by_cases hp : pathOk ps = true
  · have hS : pthS ps = pthT ps := if_pos hp
    by_cases he : pthT ps = l
    · rw [if_pos (by rw [hS]; exact he)]
      exact if_pos ⟨hp, he⟩
    · rw [if_neg (by rw [hS]; exact he)]
      exact if_neg (fun e => he e.2)
  · have hS : pthS ps = [] := if_neg hp
    rw [if_neg (by rw [hS]; exact fun e => hne e.symm)]
    exact if_neg (fun e => hp e.1)
set_option maxRecDepth 100000 in
set_option maxHeartbeats 6400000 in
theorem ReadPath_i (s : ByteArray) (w : World) (hE : Env w) (hs : s.size ≤ 1048576) :
    Calls Tryz.prog 12 #[.string s] w (RpR s.data.toList w) := by
  have HE := Lib.hid hE
  clear hE
  go_enter Tryz.func12, Tryz.ntmps12
  go_wp2_with fail
  refine (split_n s 32 25 25 _ HE.out hs rfl (by omega) (by omega)).mono ?_
  rintro e w1 ⟨A1, c1, PB, rfl, HPB, HPL, hstr, hb1⟩
  obtain ⟨n, hn⟩ : ∃ n, n = PB.length := ⟨_, rfl⟩
  rw [← hn] at hstr ⊢
  have hn1 : n ≤ 25 := by have := HPL.out; omega
  have HN := Lib.hid hn
  have H1 := Lib.hid (And.intro hstr hb1)
  clear hstr hb1 hn
  go_wp2_with fail
  go_loopw [4, 17] (fun v iv wr => ∃ (k : Nat) (ps : Pth), k ≤ n ∧ iv = .int .i64 k ∧ Hid (ps.length = k) ∧ (∃ A c, v = .slice A ps.length c) ∧ Hid (allF rdP ((pcP s.data.toList).take k) = some ps) ∧
    Hid (wr.ownsRow w.heap.size 36 2 v ps.length (ptCells ps)) ∧ Hid (Below w.heap.size w wr) ∧ Hid (Strs wr A1 n PB)) (fun _ iv _ => n - (intOf iv).toNat)
  case atStart => exact ⟨0, [], Nat.zero_le _, rfl, rfl, ⟨none, 0, rfl⟩, rfl, World.ownsRow_nil _ _ _ _, H1.out.2, H1.out.1⟩
  case round =>
    clear H1
    obtain ⟨k, ps, hk, rfl, hpl, ⟨A, c, rfl⟩, HP, HO, HB, HS⟩ := hrel
    have hwz := HB.out.size
    have hpl2 : ps.length ≤ 25 := by have := hpl.out; omega
    by_cases hlt : k < n
    · obtain ⟨b, off, x, rfl, HX, hx⟩ := HS.out.at_ hlt
      have hki : (k : Int) < (n : Int) := by omega
      have HG := Lib.hid (show (pcP s.data.toList)[k]? = some x.data.toList from map_get HPB.out HX.out)
      have hxs : x.size ≤ 1048576 := by
        have h1 := splitK_mem_le [32] _ s.data.toList _ (List.mem_of_getElem? (show (Lib.splitK [32] 0 (min 25 (s.data.toList.length + 1) - 1) s.data.toList)[k]? = some x.data.toList from HG.out))
        rw [← Lib.size_eq, ← Lib.size_eq] at h1
        omega
      go_wp2_with fail
      refine (cut_n x 58 _ (HE.out.below HB.out) hxs).mono ?_
      rintro e w2 ⟨z1, z2, fb, rfl, HZ, ⟨hz1, hz2⟩, hb2⟩
      have HO2 := Lib.hid (own_below HO.out hb2)
      have HB2 := Lib.hid (HB.out.trans (hb2.mono HB.out.size))
      have HS2 := Lib.hid (HS.out.below hb2)
      clear hb2 hx HO HB HS hxs
      go_wp2_with fail
      refine (ReadDecimal_i z1 _ (HE.out.below HB2.out) (by omega)).mono ?_
      rintro e w3 ⟨rfl, hb3⟩
      have HO3 := Lib.hid (own_below HO2.out hb3)
      have HB3 := Lib.hid (HB2.out.trans (hb3.mono HB2.out.size))
      have HS3 := Lib.hid (HS2.out.below hb3)
      clear hb3 HO2 HB2 HS2
      rw [HZ.out.1]
      obtain ⟨v1, hv1⟩ : ∃ v1, v1 = rdV (Lib.cut x.data.toList [58]).1 := ⟨_, rfl⟩
      obtain ⟨b1, hb1⟩ : ∃ b1, b1 = rdB (Lib.cut x.data.toList [58]).1 := ⟨_, rfl⟩
      rw [← hv1, ← hb1]
      have HV1 := Lib.hid (And.intro hv1 hb1)
      clear hv1 hb1
      go_wp2_with fail
      refine (ReadDecimal_i z2 _ (HE.out.below HB3.out) (by omega)).mono ?_
      rintro e w4 ⟨rfl, hb4⟩
      have HO4 := Lib.hid (own_below HO3.out hb4)
      have HB4 := Lib.hid (HB3.out.trans (hb4.mono HB3.out.size))
      have HS4 := Lib.hid (HS3.out.below hb4)
      clear hb4 HO3 HB3 HS3
      rw [HZ.out.2]
      obtain ⟨v2, hv2⟩ : ∃ v2, v2 = rdV (Lib.cut x.data.toList [58]).2.1 := ⟨_, rfl⟩
      obtain ⟨b2, hb2⟩ : ∃ b2, b2 = rdB (Lib.cut x.data.toList [58]).2.1 := ⟨_, rfl⟩
      rw [← hv2, ← hb2]
      have HV2 := Lib.hid (And.intro hv2 hb2)
      have hwz4 := HB4.out.size
      clear hv2 hb2
      cases hr1 : rd (Lib.cut x.data.toList [58]).1 with
      | none =>
        have HN2 := Lib.hid (rpI_bad HG.out (rdP_none1 hr1))
        obtain rfl : b1 = false := by rw [HV1.out.2, (rdV_none hr1).2]
        clear hr1
        go_wp2_with fail
        go_ret2
        exact rpr_none HN2.out HB4.out
      | some d =>
        cases hr2 : rd (Lib.cut x.data.toList [58]).2.1 with
        | none =>
          have HN2 := Lib.hid (rpI_bad HG.out (rdP_none2 hr2))
          obtain rfl : b1 = true := by rw [HV1.out.2, (rdV_some hr1).2]
          obtain rfl : b2 = false := by rw [HV2.out.2, (rdV_none hr2).2]
          clear hr1 hr2
          go_wp2_with fail
          go_ret2
          exact rpr_none HN2.out HB4.out
        | some g =>
          have HP2 := Lib.hid (allF_step HP.out HG.out (rdP_some hr1 hr2))
          obtain rfl : b1 = true := by rw [HV1.out.2, (rdV_some hr1).2]
          obtain rfl : b2 = true := by rw [HV2.out.2, (rdV_some hr2).2]
          obtain rfl : v1 = d := by rw [HV1.out.1, (rdV_some hr1).1]
          obtain rfl : v2 = g := by rw [HV2.out.1, (rdV_some hr2).1]
          clear hr1 hr2
          go_wp2_with (at_builtin; refine wp_app rfl (.tmp 43) (.tmp 47) 24 rfl w.heap.size 36 (.agg #[.int .i64 0, .int .i64 0]) 2 16 Tryz.underlying24 info_ipt rfl (by omega) _ ps.length (ptCells ps) rfl HO4.out [.int .i64 v1, .int .i64 v2] rfl (by rfl) (by intro u hu; simp at hu; rcases hu with rfl | rfl <;> rfl) (by unfold maxLen; omega) (by omega) hwz4 ?_; intro v' w5 hown5 hgrow5 hv5)
          have HB5 := Lib.hid (below_app HB4.out HO4.out hgrow5 hwz4 (Nat.le_refl _))
          have HO5 := Lib.hid (show w5.ownsRow w.heap.size 36 2 v' (ps ++ [(v1, v2)]).length (ptCells (ps ++ [(v1, v2)])) by rw [ptc_snoc, List.length_append]; exact hown5)
          have HV := Lib.hid (show ∃ A c, v' = .slice A (ps ++ [(v1, v2)]).length c by obtain ⟨g, c, h⟩ := hv5; exact ⟨_, c, by rw [h, List.length_append]; rfl⟩)
          have HS5 := Lib.hid (show Strs w5 (some ⟨b, off, none⟩) n PB from HS4.out.keep HO4.out hgrow5 (by decide))
          have HLN := Lib.hid (show (ps ++ [(v1, v2)]).length = k + 1 by rw [List.length_append, hpl.out]; rfl)
          obtain ⟨g3, c3, rfl⟩ := hv5
          clear hown5 hgrow5 HO4 HB4
          go_wp2_with fail
          go_roundw
          case rel => exact ⟨k + 1, ps ++ [(v1, v2)], by omega, by go_num, HLN.out, HV.out, HP2.out, HO5.out, HB5.out, HS5.out⟩
          case measure => simp [intOf]; omega
    · obtain rfl : k = n := by omega
      have HA := Lib.hid (show allF rdP (pcP s.data.toList) = some ps by
        have h1 := HP.out
        have h2 : (pcP s.data.toList).length = k := by rw [pcP, ← HPB.out, List.length_map, HN.out]
        rwa [List.take_of_length_le (by rw [h2]; exact Nat.le_refl _)] at h1)
      have HPT := Lib.hid (Pts.of_own HO.out rfl (by omega) (pts_bd HA.out))
      have HRE := Lib.hid (rpI_end HA.out)
      by_cases he : pthS ps = s.data.toList
      · have HN2 := Lib.hid (show rp s.data.toList = some ps by rw [HRE.out, if_pos he])
        have HS := Lib.hid (show (⟨(pthS ps).toArray⟩ : ByteArray) = s by rw [he, Lib.mk_data])
        clear he
        go_wp2_with fail
        refine (PathText_i _ _ _ ps _ HPT.out (HE.out.below HB.out).tab).mono ?_
        rintro e w2 ⟨rfl, hb2⟩
        rw [HS.out]
        have HB2 := Lib.hid (HB.out.trans (hb2.mono HB.out.size))
        have HO2 := Lib.hid (own_below HO.out hb2)
        clear hb2
        go_wp2_with fail
        go_ret2
        exact rpr_some HN2.out HO2.out HB2.out
      · have HN2 := Lib.hid (show rp s.data.toList = none by rw [HRE.out, if_neg he])
        obtain ⟨T, hT⟩ : ∃ T : ByteArray, T = ⟨(pthS ps).toArray⟩ := ⟨_, rfl⟩
        have hne : T ≠ s := fun e => he (by rw [← e, hT])
        have hq1 : (T.toList == s.toList) = false := (Lib.bytes_beq_false_iff T s).2 hne
        have hq2 : (T.toList != s.toList) = true := by simp [bne, hq1]
        have HT := Lib.hid hT
        clear he hne hT
        go_wp2_with fail
        refine (PathText_i _ _ _ ps _ HPT.out (HE.out.below HB.out).tab).mono ?_
        rintro e w2 ⟨rfl, hb2⟩
        rw [← HT.out]
        have HB2 := Lib.hid (HB.out.trans (hb2.mono HB.out.size))
        clear hb2
        go_wp2_with fail
        go_ret2
        exact rpr_none HN2.out HB2.out
end Go.Proofs.YtknppcgoooaaaaaGreatDoor
