/-
  A path as a text: the program's.
-/
import Derived.Test.YthkpffmcafdmeaaDoorDecI
import Derived.Test.YthkpffmcafdmeaaDoorPthS
import Derived.Deep.DeepCutAuto
import Derived.Test.YthkpffmcafdmeaaDoorQuietT
namespace Go.Proofs.YthkpffmcafdmeaaDoor
open Go.ChangeShapes Go.WideShapes Go.ChangeAt Go.RowKit Go.Deep
set_option linter.unusedVariables false

/-- Texts of the first points. -/
def ptB (p : Int × Int) : ByteArray := decB p.1 ++ { data := #[58] } ++ decB p.2
theorem ptB_data (p : Int × Int) : (ptB p).data.toList = ptT p := by
  rw [ptB, decB, decB, bA_lit, bA_app, bA_app]; simp [ptT]
set_option maxRecDepth 100000 in
set_option maxHeartbeats 3200000 in
theorem PathText_i (A : Option Addr) (n c : Nat) (ps : Pth) (w : World) (h : Pts w A n ps) (ht : Tab w) :
    Calls Tryd.prog 13 #[.slice A n c] w fun e w' => e = .returned (.string ⟨(pthS ps).toArray⟩) ∧ Below w.heap.size w w' := by
  have HP := Lib.hid (And.intro h ht)
  cases hp : pathOk ps
  · have HE := Lib.hid (show (⟨(pthS ps).toArray⟩ : ByteArray) = { data := #[] } by simp [pthS, hp])
    rw [HE.out]
    have HV := Lib.hid hp
    clear h ht hp
    go_enter Tryd.func13, Tryd.ntmps13
    go_wp2_with fail
    refine (ValidPath_i _ _ _ ps _ HP.out.1).mono ?_
    rintro e w1 ⟨rfl, hb1⟩
    rw [HV.out]
    have H1 := Lib.hid hb1
    clear hb1
    go_wp2_with fail
    go_ret
    exact ⟨rfl, H1.out⟩
  have hn := h.1
  have hn24 := (pathOk_len hp).2.1
  rw [hn] at hn24
  have HE := Lib.hid (show (⟨(pthS ps).toArray⟩ : ByteArray) = ⟨(Lib.join ((ps.map ptB).map (·.data.toList)) ({ data := #[32] } : ByteArray).data.toList).toArray⟩ by
    rw [pthS, if_pos hp, pthT, List.map_map]; congr 3; exact List.map_congr_left fun p _ => (ptB_data p).symm)
  rw [HE.out]
  have HV := Lib.hid hp
  have HN := Lib.hid hn
  clear h ht hp hn
  go_enter Tryd.func13, Tryd.ntmps13
  go_wp2_with fail
  refine (ValidPath_i _ _ _ ps _ HP.out.1).mono ?_
  rintro e w1 ⟨rfl, hb1⟩
  rw [HV.out]
  have H1 := Lib.hid (And.intro hb1 (And.intro (HP.out.1.below hb1) (HP.out.2.below hb1)))
  clear hb1
  go_wp2_with fail
  go_loopw [3, 11] (fun v iv wr => ∃ k : Nat, k ≤ n ∧ iv = .int .i64 k ∧ (∃ A' c', v = .slice A' k c') ∧ Hid (wr.ownsRow w1.heap.size 9 1 v k ((ps.take k).map ptB |>.map .string)) ∧ Hid (Below w1.heap.size w1 wr)) (fun _ iv _ => n - (intOf iv).toNat)
  case atStart => exact ⟨0, Nat.zero_le _, rfl, ⟨none, 0, rfl⟩, World.ownsRow_nil _ _ _ _, Below.refl _ _⟩
  case round =>
    obtain ⟨k, hk, rfl, ⟨A', c', rfl⟩, HO, HB⟩ := hrel
    by_cases hlt : k < n
    · obtain ⟨b, off, x, y, rfl, HX, hx, hy, _, _⟩ := (H1.out.2.1.below HB.out).at_ hlt
      have hki : (k : Int) < (n : Int) := by omega
      obtain ⟨⟨x1, x2⟩, y1, y2⟩ := pt_bd HV.out (x, y) (List.mem_of_getElem? HX.out)
      obtain ⟨S, hS⟩ : ∃ S, S = decB x := ⟨_, rfl⟩
      obtain ⟨T, hT⟩ : ∃ T, T = decB y := ⟨_, rfl⟩
      have hs1 : S.size ≤ 21 := by rw [hS]; exact decB_len _ (by omega) (by omega)
      have hs2 : T.size ≤ 21 := by rw [hT]; exact decB_len _ (by omega) (by omega)
      have HST := Lib.hid (And.intro hS hT)
      clear hS hT
      go_upto_region 7 with (fail)
      obtain ⟨W0, hW0⟩ : ∃ W0, W0 = wr.alloc (.cells #[.int .i64 x, .int .i64 y] 71) := ⟨_, rfl⟩
      have g0 : W0.cell? ⟨wr.heap.size, 0, none⟩ = some (.int .i64 x) := by rw [hW0, World.cell?_alloc_mark]; rfl
      have g1 : W0.cell? ⟨wr.heap.size, 1, none⟩ = some (.int .i64 y) := by rw [hW0, World.cell?_alloc_mark]; rfl
      have hBW : Below wr.heap.size wr W0 := by rw [hW0]; exact (Below.refl _ _).alloc (Nat.le_refl _) _
      rw [← hW0]
      have HO2 := Lib.hid (own_below HO.out hBW)
      have hB0 : w1.heap.size ≤ W0.heap.size := Nat.le_trans HB.out.size hBW.size
      have HB2 := Lib.hid (And.intro hBW (HB.out.trans (hBW.mono HB.out.size)))
      have HC1 := fun (W : World) (hW : Below W0.heap.size W0 W) => Lib.hid ((Decimal_i x W (((H1.out.2.2.below HB.out).below hBW).below hW) (by omega) (by omega)).mono (fun e w' (h : _ ∧ _) => (show e = .returned (.string S) ∧ Below W.heap.size W w' from ⟨by rw [h.1, HST.out.1], h.2⟩)))
      have HC2 := fun (W : World) (hW : Below W0.heap.size W0 W) => Lib.hid ((Decimal_i y W (((H1.out.2.2.below HB.out).below hBW).below hW) (by omega) (by omega)).mono (fun e w' (h : _ ∧ _) => (show e = .returned (.string T) ∧ Below W.heap.size W w' from ⟨by rw [h.1, HST.out.2], h.2⟩)))
      clear hW0 hBW x1 x2 y1 y2 hx hy
      obtain ⟨B0, hB00⟩ : ∃ B0, B0 = wr.heap.size := ⟨_, rfl⟩
      rw [← hB00] at g0 g1 ⊢
      clear hB00
      have q0 := BW.cell g0
      have q1 := BW.cell g1
      refine region_moveB (.slice A' k c') W0 9 (Below.refl _ _) (by kernel_rfl) (by kernel_rfl) (fun _ _ _ h => h) (Or.inl ⟨by rfl, fun _ => rfl⟩) ?_
      simp only [Act.put, List.take_succ_cons, List.take_zero, List.drop_succ_cons, List.drop_zero, List.setIfInBounds_toArray, List.set_cons_succ, List.set_cons_zero]
      repeat (go_big_quiet_step ((go_at_call 38; first | (with_reducible exact quietB_call (HC1 _ (BW.h _)).out) | (with_reducible exact quietB_call (HC2 _ (BW.h _)).out))))
      refine wpQuiet_nil ?_
      rintro w2 ⟨z, rfl⟩
      have hown := own_below HO2.out z.h
      have hbz : w1.heap.size ≤ z.W.heap.size := Nat.le_trans hB0 z.h.size
      have HB3 := Lib.hid (HB2.out.2.trans (z.h.mono hB0))
      have HOW := Lib.hid hown
      clear hown q0 q1 HC1 HC2
      generalize z.W = wz at hbz HB3 HOW ⊢
      go_wp2_with (refine wp_app_str rfl (.tmp 15) (.tmp 24) 74 rfl w1.heap.size 9 Tryd.underlying74 info_str _ k ((ps.take k).map ptB) _ rfl HOW.out rfl (by omega) hbz ?_; intro v' w3 hown3 hgrow3 hv3)
      have HB4 := Lib.hid (below_app HB3.out HOW.out hgrow3 hbz (Nat.le_refl _))
      have e1 : (ps.take k).map ptB ++ [S ++ { data := #[58] } ++ T] = (ps.take (k + 1)).map ptB := by
        rw [List.take_add_one, HX.out]
        simp [ptB, HST.out.1, HST.out.2]
      have HO4 := Lib.hid (show w3.ownsRow w1.heap.size 9 1 v' (k + 1) (((ps.take (k + 1)).map ptB).map .string) by rw [← e1]; exact hown3)
      obtain ⟨g3, c3, rfl⟩ := hv3
      clear hown3 hgrow3 e1 HOW HB3
      go_wp2_with fail
      go_roundw
      case rel => exact ⟨k + 1, by omega, by go_num, ⟨_, _, rfl⟩, HO4.out, HB4.out⟩
      case measure => simp [intOf]; omega
    · obtain rfl : k = n := by omega
      have HOK := Lib.hid (show wr.ownsRow w1.heap.size 9 1 (.slice A' k c') k ((ps.map ptB).map .string) by have := HO.out; rwa [List.take_of_length_le (by rw [HN.out]; exact Nat.le_refl _)] at this)
      have hn2 := (pathOk_len HV.out).1
      rw [HN.out] at hn2
      obtain ⟨g, cap, cur, hv, hg, hh, hnc, hcm, hs, htk⟩ : ∃ g cap cur, Value.slice A' k c' = .slice (some ⟨g, 0, none⟩) k cap ∧ w1.heap.size ≤ g ∧ wr.heap[g]? = some (.cells cur 9 (0, 0)) ∧ k ≤ cap ∧ cap ≤ maxLen ∧ cur.size = cap * 1 ∧ cur.toList.take (k * 1) = (ps.map ptB).map Value.string := by
        rcases HOK.out.2 with ⟨_, h0⟩ | ⟨g, cap, cur, h1, h2, h3, h4, h5, h6, h7⟩
        · omega
        · exact ⟨g, cap, cur, h1, h2, h3, h4, h5, h6, h7⟩
      injection hv with hv1 _ hv2
      subst hv1 hv2
      have hgl : g < wr.heap.size := (Array.getElem?_eq_some_iff.1 hh).1
      have hlen : (ps.map ptB).length = k := by rw [List.length_map, HN.out]
      have key := Tryd.strings_Join g 0 c' (ps.map ptB) { data := #[32] } wr (fun j x hx => by
        have hj : j < k := by rw [← hlen]; exact (List.getElem?_eq_some_iff.1 hx).1
        rw [cell_of_row wr g (0 + j) cur 9 (0, 0) hh, Nat.zero_add]
        have h1 : (cur.toList.take (k * 1))[j]? = some (.string x) := by rw [htk, List.getElem?_map, hx]; rfl
        rw [List.getElem?_take, if_pos (by omega)] at h1
        simpa using h1) hgl (by omega) (by omega) (by
          have h2 : (Lib.join ((ps.map ptB).map (·.data.toList)) ({ data := #[32] } : ByteArray).data.toList).length ≤ ((ps.map ptB).map (·.data.toList)).length * (100 + ({ data := #[32] } : ByteArray).data.toList.length) := join_le fun x hx => by
            obtain ⟨y, hy, rfl⟩ := List.mem_map.1 hx
            obtain ⟨p, hp, rfl⟩ := List.mem_map.1 hy
            obtain ⟨⟨b1, b2⟩, b3, b4⟩ := pt_bd HV.out p hp
            rw [ptB_data, ptT, List.length_append, List.length_cons]
            have l1 := Lib.itoa_length_le p.1 (by omega) (by omega)
            have l2 := Lib.itoa_length_le p.2 (by omega) (by omega)
            omega
          rw [List.length_map, hlen] at h2
          have h3 : ({ data := #[32] } : ByteArray).data.toList.length = 1 := rfl
          rw [h3] at h2
          omega)
      rw [hlen] at key
      have KEY := Lib.hid key
      clear key hh hs htk hgl hlen hnc hcm hg
      go_wp2_with fail
      refine KEY.out.mono ?_
      rintro e w4 ⟨rfl, hb4⟩
      have H4 := Lib.hid (H1.out.1.trans ((HB.out.trans (hb4.mono HB.out.size)).mono H1.out.1.size))
      clear hb4
      go_wp2_with fail
      go_ret
      exact ⟨ret_str (by simp only [List.map_map]), H4.out⟩
end Go.Proofs.YthkpffmcafdmeaaDoor
