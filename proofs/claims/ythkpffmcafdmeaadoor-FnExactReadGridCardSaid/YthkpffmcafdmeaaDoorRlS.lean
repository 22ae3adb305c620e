/-
  Reading a list: the reference's.
-/
import Derived.Test.YthkpffmcafdmeaaDoorRlM
import Derived.Test.YthkpffmcafdmeaaDoorRdS
import Derived.Test.YthkpffmcafdmeaaDoorRlI
namespace Go.Proofs.YthkpffmcafdmeaaDoor
open Go.ChangeShapes Go.WideShapes Go.ChangeAt Go.RowKit Go.Deep
set_option linter.unusedVariables false

set_option maxRecDepth 100000 in
set_option maxHeartbeats 6400000 in
theorem ReadList_s (s : ByteArray) (w : World) (hs : s.size ≤ 1048576) :
    Calls Tryd.prog 77 #[.string s] w (RlR s.data.toList w) := by
  by_cases h45 : s = { data := #[45] }
  · subst h45
    have hown0 := World.ownsRow_lit (base := w.heap.size) (e := 2) (size := 1) w #[] 0 (Nat.le_refl _) (by simp) rfl
    have hba : Below w.heap.size w (w.alloc (.cells #[] 2)) := (Below.refl _ _).alloc (Nat.le_refl _) _
    have H0 := Lib.hid (And.intro hown0 hba)
    clear hown0 hba
    go_enter Tryd.func77, Tryd.ntmps77
    go_wp2_with fail
    go_ret2
    exact rlr_some (xs := []) (by rfl) H0.out.1 H0.out.2
  have H45 := Lib.hid (ne45 h45)
  have hq1 : (s.toList == [45]) = false := by
    have h1 := (Lib.bytes_beq_false_iff s _).2 h45
    rwa [show ({ data := #[45] } : ByteArray).toList = [45] by kernel_rfl] at h1

  have hnl := spl_le 44 s.data.toList
  have hsl : s.data.toList.length = s.size := by rw [Lib.size_eq]
  obtain ⟨n, hn⟩ : ∃ n, n = (spl 44 s.data.toList).length := ⟨_, rfl⟩
  have hn1 : n ≤ 1048577 := by omega
  have HSL := Lib.hid (And.intro hn hsl)
  clear hnl hsl h45
  go_enter Tryd.func77, Tryd.ntmps77
  go_wp2_with fail
  refine (l01Split_s s 44 44 _ (by omega) rfl).mono ?_
  rintro e w1 ⟨A1, c1, PB, rfl, HPB, hstr, hb1⟩
  rw [← hn] at hstr ⊢
  clear hn hq1
  by_cases h64 : n ≤ 64
  rotate_left
  · have HN := Lib.hid (rlS_long H45.out (by rw [← HSL.out.1]; omega))
    have HB := Lib.hid hb1
    have h64i : (64 : Int) < (n : Int) := by omega
    clear hb1 hstr
    go_wp2_with fail
    go_ret2
    exact rlr_none HN.out HB.out
  have h64i : ¬ (64 : Int) < (n : Int) := by omega
  have hown0 := World.ownsRow_lit (base := w.heap.size) (e := 2) (size := 1) w1 #[] 0 hb1.size (by simp) rfl
  have hba : Below w.heap.size w (w1.alloc (.cells #[] 2)) := hb1.alloc hb1.size _
  have H0 := Lib.hid (And.intro hown0 (And.intro hba (show Strs (w1.alloc (.cells #[] 2)) A1 n PB from hstr.below ((Below.refl _ _).alloc (Nat.le_refl _) _))))
  clear hown0 hba hstr hb1
  go_wp2_with fail
  go_loopw [5, 6] (fun v iv wr => ∃ (k : Nat) (ps : List Int), k ≤ n ∧ iv = .int .i64 k ∧ Hid (ps.length = k) ∧ (∃ A c, v = .slice A ps.length c) ∧ Hid (allF rd ((spl 44 s.data.toList).take k) = some ps ∧ ∀ x ∈ ps, -1000000000000 ≤ x ∧ x ≤ 1000000000000) ∧
    Hid (wr.ownsRow w.heap.size 2 1 v ps.length (ps.map (.int .i64))) ∧ Hid (Below w.heap.size w wr) ∧ Hid (Strs wr A1 n PB)) (fun _ iv _ => n - (intOf iv).toNat)
  case atStart => exact ⟨0, [], Nat.zero_le _, rfl, rfl, ⟨_, _, rfl⟩, ⟨rfl, fun x hx => by cases hx⟩, H0.out.1, H0.out.2.1, H0.out.2.2⟩
  case round =>
    clear H0
    obtain ⟨k, ps, hk, rfl, hpl, ⟨A, c, rfl⟩, HP, HO, HB, HS⟩ := hrel
    have hwz := HB.out.size
    have hpl2 : ps.length ≤ 65 := by have := hpl.out; omega
    by_cases hlt : k < n
    · obtain ⟨b, off, x, rfl, HX, hx⟩ := HS.out.at_ hlt
      have hki : (k : Int) < (n : Int) := by omega
      have hget := map_get HPB.out HX.out
      have hxs : x.size ≤ 1048576 := by
        have h1 := spl_mem_le 44 s.data.toList _ (List.mem_of_getElem? hget)
        rw [← Lib.size_eq, HSL.out.2] at h1
        omega
      have HG := Lib.hid hget
      clear hget
      go_wp2_with fail
      refine (l01Number_s x _ (by omega)).mono ?_
      rintro e w2 ⟨rfl, rfl⟩
      cases hr1 : rd x.data.toList with
      | none =>
        have HN2 := Lib.hid (rlS_bad H45.out HG.out hr1)
        rw [(rdV_none hr1).1, (rdV_none hr1).2]
        clear hr1
        go_wp2_with fail
        go_ret2
        exact rlr_none HN2.out HB.out
      | some y =>
        rw [(rdV_some hr1).1, (rdV_some hr1).2]
        cases hy : inB y (-1000000000000) 1000000000000
        · have HN2 := Lib.hid (rlS_out H45.out HG.out hr1 hy)
          have HY := Lib.hid hy
          clear hr1 hy
          go_wp2_with fail
          refine (l00In_any _ _ _ _).mono ?_
          rintro e w3 ⟨rfl, rfl⟩
          rw [HY.out]
          go_wp2_with fail
          go_ret2
          exact rlr_none HN2.out HB.out
        · have HP2 := Lib.hid (And.intro (allF_step HP.out.1 HG.out hr1) (show ∀ x ∈ ps ++ [y], -1000000000000 ≤ x ∧ x ≤ 1000000000000 from fun x hx => by
            rcases List.mem_append.1 hx with h | h
            · exact HP.out.2 x h
            · simp only [List.mem_singleton] at h
              subst h
              exact inB_iff.1 hy))
          have HY := Lib.hid hy
          clear hr1 hy
          go_wp2_with fail
          refine (l00In_any _ _ _ _).mono ?_
          rintro e w3 ⟨rfl, rfl⟩
          rw [HY.out]
          go_wp2_with (at_builtin; refine wp_app_int rfl (.tmp 39) (.tmp 41) 29 rfl w.heap.size 2 Tryd.underlying29 info_int _ _ ps y rfl HO.out rfl (by omega) (by omega) ?_; intro v' w5 hown5 hgrow5 hv5)
          have HB5 := Lib.hid (below_app HB.out HO.out hgrow5 hwz (Nat.le_refl _))
          have HO5 := Lib.hid (show w5.ownsRow w.heap.size 2 1 v' (ps ++ [y]).length ((ps ++ [y]).map (.int .i64)) by rw [List.length_append]; exact hown5)
          have HV := Lib.hid (show ∃ A c, v' = .slice A (ps ++ [y]).length c by obtain ⟨g, c, h⟩ := hv5; exact ⟨_, c, by rw [h, List.length_append]; rfl⟩)
          have HS5 := Lib.hid (show Strs w5 (some ⟨b, off, none⟩) n PB from HS.out.keep HO.out hgrow5 (by decide))
          have HLN := Lib.hid (show (ps ++ [y]).length = k + 1 by rw [List.length_append, hpl.out]; rfl)
          obtain ⟨g3, c3, rfl⟩ := hv5
          clear hown5 hgrow5 HO HB
          go_wp2_with fail
          go_roundw
          case rel => exact ⟨k + 1, ps ++ [y], by omega, by go_num, HLN.out, HV.out, HP2.out, HO5.out, HB5.out, HS5.out⟩
          case measure => simp [intOf]; omega
    · obtain rfl : k = n := by omega
      have HN2 := Lib.hid (rlS_end H45.out (xs := ps) (by have := HP.out.1; rwa [List.take_of_length_le (by rw [← HSL.out.1]; exact Nat.le_refl _)] at this) (by rw [← HSL.out.1]; exact h64) HP.out.2)
      have HOB := Lib.hid (And.intro HO.out HB.out)
      clear HO HB
      go_wp2_with fail
      go_ret2
      exact rlr_some HN2.out HOB.out.1 HOB.out.2
end Go.Proofs.YthkpffmcafdmeaaDoor
