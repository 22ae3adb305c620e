/-
  Reading a list: the program's.
-/
import Derived.Test.YtknppcgoooaaaaaGreatDoorRlM
import Derived.Test.YtknppcgoooaaaaaGreatDoorSplN
namespace Go.Proofs.YtknppcgoooaaaaaGreatDoor
open Go.ChangeShapes Go.WideShapes Go.ChangeAt Go.RowKit Go.Deep
set_option linter.unusedVariables false

theorem ne45 {s : ByteArray} (h : s ≠ { data := #[45] }) : s.data.toList ≠ [45] := fun e => h (by rw [← Lib.mk_data s, e])
set_option maxRecDepth 100000 in
set_option maxHeartbeats 6400000 in
theorem ReadList_i (s : ByteArray) (w : World) (hE : Env w) (hs : s.size ≤ 1048576) :
    Calls Tryz.prog 90 #[.string s] w (RlR s.data.toList w) := by
  have HE := Lib.hid hE
  clear hE
  by_cases h45 : s = { data := #[45] }
  · subst h45
    go_enter Tryz.func90, Tryz.ntmps90
    go_wp2_with fail
    go_ret2
    exact rlr_some (xs := []) (by rfl) (World.ownsRow_nil _ _ _ _) (Below.refl _ _)
  have H45 := Lib.hid (ne45 h45)
  have hq1 : (s.toList == [45]) = false := by
    have h1 := (Lib.bytes_beq_false_iff s _).2 h45
    rwa [show ({ data := #[45] } : ByteArray).toList = [45] by kernel_rfl] at h1

  clear h45
  go_enter Tryz.func90, Tryz.ntmps90
  go_wp2_with fail
  refine (split_n s 44 65 65 _ HE.out hs rfl (by omega) (by omega)).mono ?_
  rintro e w1 ⟨A1, c1, PB, rfl, HPB, HPL, hstr, hb1⟩
  obtain ⟨n, hn⟩ : ∃ n, n = PB.length := ⟨_, rfl⟩
  rw [← hn] at hstr ⊢
  have hn1 : n ≤ 65 := by have := HPL.out; omega
  have HN := Lib.hid hn
  have H1 := Lib.hid (And.intro hstr hb1)
  clear hstr hb1 hn hq1
  go_wp2_with fail
  go_loopw [4, 14] (fun v iv wr => ∃ (k : Nat) (ps : List Int), k ≤ n ∧ iv = .int .i64 k ∧ Hid (ps.length = k) ∧ (∃ A c, v = .slice A ps.length c) ∧ Hid (allF rd ((pcL s.data.toList).take k) = some ps) ∧
    Hid (wr.ownsRow w.heap.size 2 1 v ps.length (ps.map (.int .i64))) ∧ Hid (Below w.heap.size w wr) ∧ Hid (Strs wr A1 n PB)) (fun _ iv _ => n - (intOf iv).toNat)
  case atStart => exact ⟨0, [], Nat.zero_le _, rfl, rfl, ⟨none, 0, rfl⟩, rfl, World.ownsRow_nil _ _ _ _, H1.out.2, H1.out.1⟩
  case round =>
    clear H1
    obtain ⟨k, ps, hk, rfl, hpl, ⟨A, c, rfl⟩, HP, HO, HB, HS⟩ := hrel
    have hwz := HB.out.size
    have hpl2 : ps.length ≤ 65 := by have := hpl.out; omega
    by_cases hlt : k < n
    · obtain ⟨b, off, x, rfl, HX, hx⟩ := HS.out.at_ hlt
      have hki : (k : Int) < (n : Int) := by omega
      have HG := Lib.hid (show (pcL s.data.toList)[k]? = some x.data.toList from map_get HPB.out HX.out)
      have hxs : x.size ≤ 1048576 := by
        have h1 := splitK_mem_le [44] _ s.data.toList _ (List.mem_of_getElem? (show (Lib.splitK [44] 0 (min 65 (s.data.toList.length + 1) - 1) s.data.toList)[k]? = some x.data.toList from HG.out))
        rw [← Lib.size_eq, ← Lib.size_eq] at h1
        omega
      go_wp2_with fail
      refine (ReadDecimal_i x _ (HE.out.below HB.out) (by omega)).mono ?_
      rintro e w4 ⟨rfl, hb4⟩
      have HO4 := Lib.hid (own_below HO.out hb4)
      have HB4 := Lib.hid (HB.out.trans (hb4.mono HB.out.size))
      have HS4 := Lib.hid (HS.out.below hb4)
      clear hb4 HO HB HS hx
      have hwz4 := HB4.out.size
      cases hr1 : rd x.data.toList with
      | none =>
        have HN2 := Lib.hid (rlI_bad H45.out HG.out hr1)
        rw [(rdV_none hr1).1, (rdV_none hr1).2]
        clear hr1
        go_wp2_with fail
        go_ret2
        exact rlr_none HN2.out HB4.out
      | some y =>
        have HP2 := Lib.hid (allF_step HP.out HG.out hr1)
        rw [(rdV_some hr1).1, (rdV_some hr1).2]
        clear hr1
        go_wp2_with (at_builtin; refine wp_app_int rfl (.tmp 25) (.tmp 27) 82 rfl w.heap.size 2 Tryz.underlying82 info_int _ _ ps y rfl HO4.out rfl (by omega) (by omega) ?_; intro v' w5 hown5 hgrow5 hv5)
        have HB5 := Lib.hid (below_app HB4.out HO4.out hgrow5 hwz4 (Nat.le_refl _))
        have HO5 := Lib.hid (show w5.ownsRow w.heap.size 2 1 v' (ps ++ [y]).length ((ps ++ [y]).map (.int .i64)) by rw [List.length_append]; exact hown5)
        have HV := Lib.hid (show ∃ A c, v' = .slice A (ps ++ [y]).length c by obtain ⟨g, c, h⟩ := hv5; exact ⟨_, c, by rw [h, List.length_append]; rfl⟩)
        have HS5 := Lib.hid (show Strs w5 (some ⟨b, off, none⟩) n PB from HS4.out.keep HO4.out hgrow5 (by decide))
        have HLN := Lib.hid (show (ps ++ [y]).length = k + 1 by rw [List.length_append, hpl.out]; rfl)
        obtain ⟨g3, c3, rfl⟩ := hv5
        clear hown5 hgrow5 HO4 HB4
        go_wp2_with fail
        go_roundw
        case rel => exact ⟨k + 1, ps ++ [y], by omega, by go_num, HLN.out, HV.out, HP2.out, HO5.out, HB5.out, HS5.out⟩
        case measure => simp [intOf]; omega
    · obtain rfl : k = n := by omega
      have HA := Lib.hid (show allF rd (pcL s.data.toList) = some ps by
        have h1 := HP.out
        have h2 : (pcL s.data.toList).length = k := by rw [pcL, ← HPB.out, List.length_map, HN.out]
        rwa [List.take_of_length_le (by rw [h2]; exact Nat.le_refl _)] at h1)
      have HPT := Lib.hid (Ints.of_own HO.out (ints_bd HA.out))
      have HRE := Lib.hid (rlI_end H45.out HA.out)
      by_cases he : lstS ps = s.data.toList
      · have HN2 := Lib.hid (show rl s.data.toList = some ps by rw [HRE.out, if_pos he])
        have HS := Lib.hid (show (⟨(lstS ps).toArray⟩ : ByteArray) = s by rw [he, Lib.mk_data])
        clear he
        go_wp2_with fail
        refine (ListText_i _ _ _ ps _ HPT.out (HE.out.below HB.out).tab).mono ?_
        rintro e w2 ⟨rfl, hb2⟩
        rw [HS.out]
        have HB2 := Lib.hid (HB.out.trans (hb2.mono HB.out.size))
        have HO2 := Lib.hid (own_below HO.out hb2)
        clear hb2
        go_wp2_with fail
        go_ret2
        exact rlr_some HN2.out HO2.out HB2.out
      · have HN2 := Lib.hid (show rl s.data.toList = none by rw [HRE.out, if_neg he])
        obtain ⟨T, hT⟩ : ∃ T : ByteArray, T = ⟨(lstS ps).toArray⟩ := ⟨_, rfl⟩
        have hne : T ≠ s := fun e => he (by rw [← e, hT])
        have hq1 : (T.toList == s.toList) = false := (Lib.bytes_beq_false_iff T s).2 hne
        have hq2 : (T.toList != s.toList) = true := by simp [bne, hq1]
        have HT := Lib.hid hT
        clear he hne hT
        go_wp2_with fail
        refine (ListText_i _ _ _ ps _ HPT.out (HE.out.below HB.out).tab).mono ?_
        rintro e w2 ⟨rfl, hb2⟩
        rw [← HT.out]
        have HB2 := Lib.hid (HB.out.trans (hb2.mono HB.out.size))
        clear hb2
        go_wp2_with fail
        go_ret2
        exact rlr_none HN2.out HB2.out
end Go.Proofs.YtknppcgoooaaaaaGreatDoor
