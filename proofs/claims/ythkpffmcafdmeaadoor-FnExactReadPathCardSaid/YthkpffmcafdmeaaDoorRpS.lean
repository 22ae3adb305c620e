/-
  Reading a path: the reference's.
-/
import Derived.Test.YthkpffmcafdmeaaDoorRpM
import Derived.Test.YthkpffmcafdmeaaDoorRdS
namespace Go.Proofs.YthkpffmcafdmeaaDoor
open Go.ChangeShapes Go.WideShapes Go.ChangeAt Go.RowKit Go.Deep
set_option linter.unusedVariables false

set_option maxRecDepth 100000 in
set_option maxHeartbeats 6400000 in
theorem l14Read_s (s : ByteArray) (w : World) (hs : s.size ≤ 1048576) :
    Calls Tryd.prog 73 #[.string s] w (RpR s.data.toList w) := by
  have hown0 := World.ownsRow_lit (base := w.heap.size) (e := 71) (size := 2) w #[] 0 (Nat.le_refl _) (by simp) rfl
  have hba : Below w.heap.size w (w.alloc (.cells #[] 71)) := (Below.refl _ _).alloc (Nat.le_refl _) _
  have H0 := Lib.hid (And.intro hown0 hba)
  have hnl := spl_le 32 s.data.toList
  have hsl : s.data.toList.length = s.size := by rw [Lib.size_eq]
  obtain ⟨n, hn⟩ : ∃ n, n = (spl 32 s.data.toList).length := ⟨_, rfl⟩
  have hn1 : n ≤ 1048577 := by omega
  have HSL := Lib.hid (And.intro hn hsl)
  clear hown0 hba hnl hsl
  go_enter Tryd.func73, Tryd.ntmps73
  go_wp2_with fail
  refine (l01Split_s s 32 32 _ (by omega) rfl).mono ?_
  rintro e w1 ⟨A1, c1, PB, rfl, HPB, hstr, hb1⟩
  rw [← hn] at hstr ⊢
  have H1 := Lib.hid (And.intro hstr (And.intro (H0.out.2.trans (hb1.mono H0.out.2.size)) (own_below H0.out.1 hb1)))
  clear hstr hb1 H0 hn
  go_wp2_with fail
  go_loopw [4, 6] (fun v iv wr => ∃ (k : Nat) (ps : Pth), k ≤ n ∧ iv = .int .i64 k ∧ Hid (ps.length = k) ∧ (∃ A c, v = .slice A ps.length c) ∧ Hid (allF rdP ((spl 32 s.data.toList).take k) = some ps) ∧
    Hid (wr.ownsRow w.heap.size 71 2 v ps.length (ptCells ps)) ∧ Hid (Below w.heap.size w wr) ∧ Hid (Strs wr A1 n PB)) (fun _ iv _ => n - (intOf iv).toNat)
  case atStart => exact ⟨0, [], Nat.zero_le _, rfl, rfl, ⟨_, _, rfl⟩, rfl, H1.out.2.2, H1.out.2.1, H1.out.1⟩
  case round =>
    clear H1
    obtain ⟨k, ps, hk, rfl, hpl, ⟨A, c, rfl⟩, HP, HO, HB, HS⟩ := hrel
    have hwz := HB.out.size
    have hpl2 : ps.length ≤ 1048577 := by have := hpl.out; omega
    by_cases hlt : k < n
    · obtain ⟨b, off, x, rfl, HX, hx⟩ := HS.out.at_ hlt
      have hki : (k : Int) < (n : Int) := by omega
      have hget := map_get HPB.out HX.out
      have hxs : x.size ≤ 1048576 := by
        have h1 := spl_mem_le 32 s.data.toList _ (List.mem_of_getElem? hget)
        rw [← Lib.size_eq, HSL.out.2] at h1
        omega
      have HG := Lib.hid hget
      clear hget
      go_wp2_with fail
      refine (l01Split_s x 58 58 _ (by omega) rfl).mono ?_
      rintro e w2 ⟨A2, c2, PB2, rfl, HPB2, hstr2, hb2⟩
      have HO2 := Lib.hid (own_below HO.out hb2)
      have HB2 := Lib.hid (HB.out.trans (hb2.mono HB.out.size))
      have HS2 := Lib.hid (HS.out.below hb2)
      clear hb2 hx HO HB HS
      by_cases h2 : (spl 58 x.data.toList).length = 2
      rotate_left
      · have HN := Lib.hid (rp_bad HG.out (rdP_len h2))
        obtain ⟨m, hm⟩ : ∃ m, m = (spl 58 x.data.toList).length := ⟨_, rfl⟩
        rw [← hm] at h2 ⊢
        have h2b : ((m : Int) == 2) = false := by rw [beq_eq_false_iff_ne]; omega
        have h2n : (m == 2) = false := by rw [beq_eq_false_iff_ne]; exact h2
        have h2c : ((m : Int) != 2) = true := by simp [bne, h2b]
        clear hm h2 hstr2
        go_wp2_with fail
        go_ret2
        exact rpr_none HN.out HB2.out
      · obtain ⟨y1, y2, hy⟩ : ∃ y1 y2, spl 58 x.data.toList = [y1, y2] := by
          generalize spl 58 x.data.toList = L at h2
          match L, h2 with
          | [a, b], _ => exact ⟨a, b, rfl⟩
        rw [hy] at hstr2 HPB2 ⊢
        obtain ⟨z1, z2, hz⟩ : ∃ z1 z2, PB2 = [z1, z2] := by
          have h3 := congrArg List.length HPB2.out
          simp only [List.length_map, List.length_cons, List.length_nil] at h3
          match PB2, h3 with
          | [a, b], _ => exact ⟨a, b, rfl⟩
        subst hz
        have hz12 : z1.data.toList = y1 ∧ z2.data.toList = y2 := by
          have h3 := HPB2.out
          simp only [List.map_cons, List.map_nil, List.cons.injEq, and_true] at h3
          exact h3
        obtain ⟨b2, o2, _, rfl, _, _⟩ := hstr2.at_ (k := 0) (by simp)
        have hc0 : w2.cell? ⟨b2, o2, none⟩ = some (.string z1) := by
          obtain ⟨_, _, _, e1, e2, e3⟩ := hstr2.at_ (k := 0) (by simp)
          injection e1 with e1
          injection e1 with e4 e5 _
          subst e4 e5
          have e6 := e2.out
          simp at e6
          rw [e6]; exact e3
        have hc1 : w2.cell? ⟨b2, o2 + 1, none⟩ = some (.string z2) := by
          obtain ⟨_, _, _, e1, e2, e3⟩ := hstr2.at_ (k := 1) (by simp)
          injection e1 with e1
          injection e1 with e4 e5 _
          subst e4 e5
          have e6 := e2.out
          simp at e6
          rw [e6]; exact e3
        have hzs : z1.size ≤ 1048576 ∧ z2.size ≤ 1048576 := by
          have h3 := spl_mem_le 58 x.data.toList y1 (by rw [hy]; simp)
          have h4 := spl_mem_le 58 x.data.toList y2 (by rw [hy]; simp)
          rw [← Lib.size_eq] at h3 h4
          rw [Lib.size_eq z1, Lib.size_eq z2, hz12.1, hz12.2]
          omega
        have HC1 := fun (W : World) => Lib.hid ((l01Number_s z1 W (by omega)).mono (fun e w' (h : _ ∧ _) => (show e = .returned (.tuple #[.int .i64 (rdV y1), .bool (rdB y1)]) ∧ W = w' from ⟨by rw [h.1, hz12.1], h.2⟩)))
        have HC2 := fun (W : World) => Lib.hid ((l01Number_s z2 W (by omega)).mono (fun e w' (h : _ ∧ _) => (show e = .returned (.tuple #[.int .i64 (rdV y2), .bool (rdB y2)]) ∧ W = w' from ⟨by rw [h.1, hz12.2], h.2⟩)))
        have HY := Lib.hid hy
        have hl2 : [y1, y2].length = 2 := rfl
        clear hstr2 HPB2 hz12 hzs h2 hy
        cases hr1 : rd y1 with
        | none =>
          have HN := Lib.hid (rp_bad HG.out (rdP_mid1 HY.out hr1))
          have HR := Lib.hid (rdV_none hr1)
          rw [HR.out.1, HR.out.2] at HC1
          clear hr1
          go_wp2_with fail
          refine (HC1 _).out.mono ?_
          rintro e w' ⟨rfl, rfl⟩
          go_wp2_with fail
          refine (HC2 _).out.mono ?_
          rintro e w' ⟨rfl, rfl⟩
          go_wp2_with fail
          go_ret2
          exact rpr_none HN.out HB2.out
        | some d =>
          cases hr2 : rd y2 with
          | none =>
            have HN := Lib.hid (rp_bad HG.out (rdP_mid2 HY.out hr2))
            have HR := Lib.hid (And.intro (rdV_some hr1) (rdV_none hr2))
            rw [HR.out.1.1, HR.out.1.2] at HC1
            rw [HR.out.2.1, HR.out.2.2] at HC2
            clear hr1 hr2
            go_wp2_with fail
            refine (HC1 _).out.mono ?_
            rintro e w' ⟨rfl, rfl⟩
            go_wp2_with fail
            refine (HC2 _).out.mono ?_
            rintro e w' ⟨rfl, rfl⟩
            go_wp2_with fail
            go_ret2
            exact rpr_none HN.out HB2.out
          | some g =>
            have HP2 := Lib.hid (allF_step HP.out HG.out (rdP_mid HY.out hr1 hr2))
            have HR := Lib.hid (And.intro (rdV_some hr1) (rdV_some hr2))
            rw [HR.out.1.1, HR.out.1.2] at HC1
            rw [HR.out.2.1, HR.out.2.2] at HC2
            have hwz2 := HB2.out.size
            clear hr1 hr2
            go_wp2_with fail
            refine (HC1 _).out.mono ?_
            rintro e w' ⟨rfl, rfl⟩
            go_wp2_with fail
            refine (HC2 _).out.mono ?_
            rintro e w' ⟨rfl, rfl⟩
            go_wp2_with (at_builtin; refine wp_app rfl (.tmp 49) (.tmp 53) 25 rfl w.heap.size 71 (.agg #[.int .i64 0, .int .i64 0]) 2 16 Tryd.underlying25 info_ipt rfl (by omega) _ ps.length (ptCells ps) rfl HO2.out [.int .i64 d, .int .i64 g] rfl (by rfl) (by intro u hu; simp at hu; rcases hu with rfl | rfl <;> rfl) (by unfold maxLen; omega) (by omega) hwz2 ?_; intro v' w5 hown5 hgrow5 hv5)
            have HB5 := Lib.hid (below_app HB2.out HO2.out hgrow5 hwz2 (Nat.le_refl _))
            have HO5 := Lib.hid (show w5.ownsRow w.heap.size 71 2 v' (ps ++ [(d, g)]).length (ptCells (ps ++ [(d, g)])) by rw [ptc_snoc, List.length_append]; exact hown5)
            have HV := Lib.hid (show ∃ A c, v' = .slice A (ps ++ [(d, g)]).length c by obtain ⟨g, c, h⟩ := hv5; exact ⟨_, c, by rw [h, List.length_append]; rfl⟩)
            have HS5 := Lib.hid (show Strs w5 (some ⟨b, off, none⟩) n PB from HS2.out.keep HO2.out hgrow5 (by decide))
            have HLN := Lib.hid (show (ps ++ [(d, g)]).length = k + 1 by rw [List.length_append, hpl.out]; rfl)
            obtain ⟨g3, c3, rfl⟩ := hv5
            clear hown5 hgrow5 HO2 HB2
            go_wp2_with fail
            go_roundw
            case rel => exact ⟨k + 1, ps ++ [(d, g)], by omega, by go_num, HLN.out, HV.out, HP2.out, HO5.out, HB5.out, HS5.out⟩
            case measure => simp [intOf]; omega
    · obtain rfl : k = n := by omega
      have HA := Lib.hid (show allF rdP (spl 32 s.data.toList) = some ps by have := HP.out; rwa [List.take_of_length_le (by rw [← HSL.out.1]; exact Nat.le_refl _)] at this)
      have HPT := Lib.hid (Pts.of_own HO.out rfl (by omega) (pts_bd HA.out))
      have HRE := Lib.hid (rp_end HA.out)
      cases hp : pathOk ps
      · have HV := Lib.hid hp
        have HN := Lib.hid (show rp s.data.toList = none by rw [HRE.out, hp]; rfl)
        clear hp
        go_wp2_with fail
        refine (l14Ok_any _ _ _ ps _ HPT.out).mono ?_
        rintro e w2 ⟨rfl, hb2⟩
        rw [HV.out]
        have HB2 := Lib.hid (HB.out.trans (hb2.mono HB.out.size))
        clear hb2
        go_wp2_with fail
        go_ret2
        exact rpr_none HN.out HB2.out
      · have HV := Lib.hid hp
        have HN := Lib.hid (show rp s.data.toList = some ps by rw [HRE.out, hp]; rfl)
        clear hp
        go_wp2_with fail
        refine (l14Ok_any _ _ _ ps _ HPT.out).mono ?_
        rintro e w2 ⟨rfl, hb2⟩
        rw [HV.out]
        have HB2 := Lib.hid (HB.out.trans (hb2.mono HB.out.size))
        have HO2 := Lib.hid (own_below HO.out hb2)
        clear hb2
        go_wp2_with fail
        go_ret2
        exact rpr_some HN.out HO2.out HB2.out
theorem ReadPath_s (s : ByteArray) (w : World) (hs : s.size ≤ 1048576) :
    Calls Tryd.prog 20 #[.string s] w (RpR s.data.toList w) := by
  go_enter Tryd.func20, Tryd.ntmps20
  go_wp2_with fail
  refine (l14Read_s s _ hs).mono ?_
  rintro e w1 ⟨A, c, ps, rfl, h1, h2, h3⟩
  have H := Lib.hid (And.intro h1 (And.intro h2 h3))
  clear h1 h2 h3
  go_wp2_with fail
  go_ret2
  exact ⟨A, c, ps, rfl, H.out.1, H.out.2.1, H.out.2.2⟩
end Go.Proofs.YthkpffmcafdmeaaDoor
