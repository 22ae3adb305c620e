/-
  The contracts of the law's helpers over paths, and when a path is valid.
-/
import Derived.Test.YthkpffmcafdmeaaDoorPathM
import Derived.Test.YthkpffmcafdmeaaDoorRows
import Derived.Test.YthkpffmcafdmeaaDoorArith
namespace Go.Proofs.YthkpffmcafdmeaaDoor
open Go.ChangeShapes Go.WideShapes Go.ChangeAt Go.RowKit Go.Deep
set_option linter.unusedVariables false

theorem info_ipt : (Tryd.prog.info? 71).map (fun i => (i.zero, i.size, i.bytes)) = some (some (.agg #[.int .i64 0, .int .i64 0]), 2, 16) := by kernel_rfl
theorem szPathPointS_ok (A : Option Addr) (n c : Nat) (left : Int) (w : World) (h1 : (n : Int) ≤ left) (h2 : left ≤ 1048576) :
    Calls Tryd.prog 10 #[.slice A n c, .int .i64 left] w fun e w' => e = .returned (.int .i64 (left - n)) ∧ w = w' := by
  go_enter Tryd.func10, Tryd.ntmps10
  go_wp2
  go_ret
  exact ⟨rfl, rfl⟩
theorem szPathPointS_no (A : Option Addr) (n c : Nat) (left : Int) (w : World) (h0 : n ≤ 9223372036854775807) (h1 : left < (n : Int)) (h2 : left ≤ 1048576) (h3 : 0 ≤ left) :
    Calls Tryd.prog 10 #[.slice A n c, .int .i64 left] w fun e w' => e = .returned (.int .i64 (-1)) ∧ w = w' := by
  go_enter Tryd.func10, Tryd.ntmps10
  go_wp2
  go_ret
  exact ⟨rfl, rfl⟩
theorem toPathPoint_any (x y : Int) (w : World) : Calls Tryd.prog 63 #[.agg #[.int .i64 x, .int .i64 y]] w fun e w' => e = .returned (.agg #[.int .i64 x, .int .i64 y]) ∧ Below w.heap.size w w' := by
  go_enter Tryd.func63, Tryd.ntmps63
  go_wp2
  exact bodyPost_ret (v := .agg #[.int .i64 x, .int .i64 y]) (by simp [results, Tryd.results63, go_sem]) rfl ⟨rfl, (((Below.refl _ _).alloc (Nat.le_refl _) _).alloc (by simp) _).alloc (by simp; omega) _⟩
theorem eqPathPoint_same (x y : Int) (w : World) : Calls Tryd.prog 66 #[.agg #[.int .i64 x, .int .i64 y], .agg #[.int .i64 x, .int .i64 y]] w fun e w' => e = .returned (.bool true) ∧ Below w.heap.size w w' := by
  go_enter Tryd.func66, Tryd.ntmps66
  go_wp2
  go_ret
  exact ⟨rfl, ((Below.refl _ _).alloc (Nat.le_refl _) _).alloc (by simp) _⟩
set_option maxRecDepth 100000 in
set_option maxHeartbeats 800000 in
theorem toPathPointS_any (A : Option Addr) (n c : Nat) (ps : Pth) (w : World) (h : Pts w A n ps) (hn : n ≤ 1048576) :
    Calls Tryd.prog 12 #[.slice A n c] w fun e w' => e = .returned (.slice (some ⟨w.heap.size, 0, none⟩) n n) ∧
      w'.ownsRow w.heap.size 71 2 (.slice (some ⟨w.heap.size, 0, none⟩) n n) n (ptCells ps) ∧ Below w.heap.size w w' ∧ w.heap.size < w'.heap.size := by
  have hmk := fun W => run_make_rowN (P := Tryd.prog) 25 71 (.agg #[.int .i64 0, .int .i64 0]) 2 16 Tryd.underlying25 info_ipt n (by omega) (by omega) W
  have HL := Lib.hid h.1
  go_enter Tryd.func12, Tryd.ntmps12
  go_wp2_with fail
  go_loopw [4] (fun i wr => ∃ k : Nat, k ≤ n ∧ i = .int .i64 k ∧ (∃ f, wr.rowIs w.heap.size 71 (n * 2) f ∧ ∀ j, j < k * 2 → f j = ptCell ps j) ∧ Below w.heap.size w wr ∧ w.heap.size < wr.heap.size)
    (fun i _ => n - (intOf i).toNat)
  case atStart => exact ⟨0, Nat.zero_le _, rfl, ⟨_, rowIs_madeN _ _ _ _, fun j hj => absurd hj (by omega)⟩, (Below.refl _ _).alloc (Nat.le_refl _) _, by simp⟩
  case round =>
    clear hmk
    obtain ⟨k, hk, rfl, ⟨f, hrow, hf⟩, hbl, hsz⟩ := hrel
    by_cases hlt : k < n
    · obtain ⟨b, off, x, y, rfl, HX, hc1, hc2, hx1, hx2⟩ := (h.below hbl).at_ hlt
      have HR := Lib.hid (And.intro hrow (And.intro hf (And.intro hbl hsz)))
      clear hrow hbl h hf hsz
      have hki : (k : Int) < (n : Int) := by omega
      go_wp2_with fail
      refine (toPathPoint_any _ _ _).mono ?_
      rintro e w2 ⟨rfl, hb2⟩
      have hrow2 := HR.out.1.of_block (hb2.block _ HR.out.1.lt)
      have c0 := hrow2.cell (i := k * 2) (by omega)
      have c1 := hrow2.cell (i := k * 2 + 1) (by omega)
      have f0 := hrow2.frozen (k * 2)
      have f1 := hrow2.frozen (k * 2 + 1)
      have hs1 := hrow2.set (k * 2) (.int .i64 x)
      have hs2 := hs1.set (k * 2 + 1) (.int .i64 y)
      have hz := hb2.size
      have hB := HR.out.2.2.1.trans (hb2.mono HR.out.2.2.1.size)
      have HS := Lib.hid (And.intro hs2 (And.intro ((hB.setCell (p := ⟨w.heap.size, k * 2, none⟩) (Nat.le_refl _) (.int .i64 x)).setCell (p := ⟨w.heap.size, k * 2 + 1, none⟩) (Nat.le_refl _) (.int .i64 y)) (Nat.lt_of_lt_of_le HR.out.2.2.2 hz)))
      clear hrow2 hs1 hs2 hB hz hb2
      go_wp2_with fail
      go_roundw
      case rel =>
        obtain ⟨s1, s2, s3⟩ := HS.out
        refine ⟨k + 1, by omega, by go_num, ⟨_, s1, fun j hj => ?_⟩, s2, by simpa [World.setCell] using s3⟩
        have hxe := HX.out
        by_cases e : j = k * 2 + 1
        · subst e
          have e1 : (k * 2 + 1) % 2 = 1 := by omega
          have e2 : (k * 2 + 1) / 2 = k := by omega
          simp only [if_true]
          simp only [ptCell, e1, e2, hAt_eq hxe]
          simp
        · by_cases e' : j = k * 2
          · subst e'
            have e1 : (k * 2) % 2 = 0 := by omega
            have e2 : (k * 2) / 2 = k := by omega
            simp only [if_true]
            rw [if_neg (by omega)]
            simp only [ptCell, e1, e2, dAt_eq hxe]
            simp
          · simp only [if_neg e, if_neg e']
            exact HR.out.2.1 j (by omega)
      case measure => simp [intOf]; omega
    · obtain rfl : k = n := by omega
      clear hlt
      have HO := Lib.hid (And.intro (rowIs_to_own (n := k) (base := w.heap.size) (xs := ptCells ps) hrow (Nat.le_refl _) (Nat.le_refl _) (by unfold maxLen; omega) (by simp [ptCells, HL.out]) (fun j hj => by
        rw [ptCells_at (by rw [HL.out]; exact hj), hf j hj])) (And.intro hbl hsz))
      clear hrow hf hbl hsz h
      go_wp2_with fail
      go_ret
      exact ⟨rfl, HO.out.1, HO.out.2.1, HO.out.2.2⟩
set_option maxRecDepth 100000 in
set_option maxHeartbeats 800000 in
theorem eqPathPointS_same (A B : Option Addr) (n c d : Nat) (ps : Pth) (w : World) (h : Pts w A n ps) (h' : Pts w B n ps) :
    Calls Tryd.prog 14 #[.slice A n c, .slice B n d] w fun e w' => e = .returned (.bool true) ∧ Below w.heap.size w w' := by
  have hn := h.2.1
  go_enter Tryd.func14, Tryd.ntmps14
  go_wp2_with fail
  go_loopw [5] (fun i wr => ∃ k : Nat, k ≤ n ∧ i = .int .i64 k ∧ Below w.heap.size w wr) (fun i _ => n - (intOf i).toNat)
  case atStart => exact ⟨0, Nat.zero_le _, rfl, Below.refl _ _⟩
  case round =>
    obtain ⟨k, hk, rfl, hbl⟩ := hrel
    by_cases hlt : k < n
    · obtain ⟨b, off, x, y, rfl, HX, hc1, hc2, hx1, hx2⟩ := (h.below hbl).at_ hlt
      obtain ⟨b', off', x', y', rfl, HX', hd1, hd2, hx1', hx2'⟩ := (h'.below hbl).at_ hlt
      obtain ⟨rfl, rfl⟩ : x = x' ∧ y = y' := by
        have := HX.out.symm.trans HX'.out
        injection this with this
        injection this with e1 e2
        exact ⟨e1, e2⟩
      have HB := Lib.hid hbl
      clear h h' hbl
      have hki : (k : Int) < (n : Int) := by omega
      go_wp2_with fail
      go_region_held3 (fun w' => w'.cell? ⟨b, off + k * 2, none⟩ = some (.int .i64 x) ∧ w'.cell? ⟨b, off + k * 2 + 1, none⟩ = some (.int .i64 y) ∧ w'.cell? ⟨b', off' + k * 2, none⟩ = some (.int .i64 x) ∧ w'.cell? ⟨b', off' + k * 2 + 1, none⟩ = some (.int .i64 y))
        (first | go_keep | exact ⟨cell_kept hb2 hc1, cell_kept hb2 hc2, cell_kept hb2 hd1, cell_kept hb2 hd2⟩)
        ((go_at_call 66; refine (eqPathPoint_same _ _ _).mono ?_; rintro e w2 ⟨rfl, hb2⟩))
      have HF := Lib.hid (HB.out.drew.trans (hb2.mono HB.out.drew.size))
      clear hb2
      go_wp2_with fail
      go_roundw
      case rel => exact ⟨k + 1, by omega, by go_num, HF.out⟩
      case measure => simp [intOf]; omega
    · obtain rfl : k = n := by omega
      clear hlt
      have HB := Lib.hid hbl
      clear hbl h h'
      go_wp2_with fail
      go_ret
      exact ⟨rfl, HB.out⟩
theorem Fresh.pts {w w0 : World} {base e n c : Nat} {A A' : Option Addr} {ps : Pth} (h : Fresh w base e 2 A n c (ptCells ps)) (h' : Pts w0 A' n ps) : Pts w A n ps := by
  rcases Nat.eq_zero_or_pos n with rfl | h0
  · exact ⟨h'.1, h'.2.1, h'.2.2.1, fun h => absurd h (by omega)⟩
  · exact Pts.of_own (h.2 h0) h'.1.symm h'.2.1 h'.2.2.1

/-! ### When a path is valid -/
set_option maxRecDepth 100000 in
set_option maxHeartbeats 2000000 in
theorem l14Ok_any (A : Option Addr) (n c : Nat) (ps : Pth) (w : World) (h : Pts w A n ps) :
    Calls Tryd.prog 61 #[.slice A n c] w fun e w' => e = .returned (.bool (pathOk ps)) ∧ Below w.heap.size w w' := by
  have hn := h.2.1
  have HL := Lib.hid h.1
  have h0 := h
  have H0 := Lib.hid h0
  clear h0
  go_enter Tryd.func61, Tryd.ntmps61
  go_wp2_with fail
  go_loopw [3] (fun i wr => ∃ k : Nat, k ≤ n ∧ i = .int .i64 k ∧ Below w.heap.size w wr ∧ Hid (∀ j, j < k → ptOk ps j = true)) (fun i _ => n - (intOf i).toNat)
  case atStart => exact ⟨0, Nat.zero_le _, rfl, Below.refl _ _, fun j hj => absurd hj (by omega)⟩
  case round =>
    obtain ⟨k, hk, rfl, hbl, HK⟩ := hrel
    by_cases hlt : k < n
    · obtain ⟨b, off, x, y, rfl, HX, hc1, hc2, hx1, hx2⟩ := (h.below hbl).at_ hlt
      obtain ⟨b', off', x0, y0, hAA, HX0, hd1, hd2, hx01, hx02⟩ := (H0.out.below hbl).at_ (show 0 < n by omega)
      obtain ⟨rfl, rfl⟩ : b = b' ∧ off = off' := by
        injection hAA with hAA
        injection hAA with e1 e2 _
        exact ⟨e1, e2⟩
      have hxd := dAt_eq HX.out
      have hyd := hAt_eq HX.out
      have hy0 := hAt_eq HX0.out
      have HP := Lib.hid (And.intro hxd (And.intro hyd hy0))
      have hkL : k < ps.length := by rw [HL.out]; exact hlt
      have HN : Hid (¬ (0 ≤ x ∧ x ≤ 20000 ∧ 0 ≤ y ∧ y ≤ 9000 ∧ y ≤ y0 ∧ (k = 0 ∨ dAt ps (k - 1) < x)) → pathOk ps = false) := by
        intro hh
        refine pathOk_pt hkL (ptOk_no ?_)
        rw [hxd, hyd, hy0]
        exact hh
      have HB := Lib.hid hbl
      simp only [Nat.zero_mul, Nat.add_zero] at hd1 hd2
      clear hxd hyd hy0 hkL hbl h hAA
      have hki : (k : Int) < (n : Int) := by omega
      have hn0 : 0 < n := by omega
      have hbw : b < wr.heap.size := cell_lt hc1
      cases hi1 : inB x 0 20000
      · have hw1 := inB_not.1 hi1
        go_wp2_with fail
        go_quiet ((go_at_call 108; exact quiet_left (l00In_any _ _ _ _)))
        go_wp2_with fail
        go_ret
        exact ⟨ret_bool (HN.out (fun hh => by omega)).symm, below_drewN (HB.out.alloc HB.out.size _) _⟩
      · have hw1 := inB_iff.1 hi1
        cases hi2 : inB y 0 9000
        · have hw2 := inB_not.1 hi2
          go_wp2_with fail
          go_quiet ((go_at_call 108; exact quiet_left (l00In_any _ _ _ _)))
          go_wp2_with fail
          go_ret
          exact ⟨ret_bool (HN.out (fun hh => by omega)).symm, below_drewN (HB.out.alloc HB.out.size _) _⟩
        · have hw2 := inB_iff.1 hi2
          by_cases hi3 : y0 < y
          · go_wp2_with fail
            go_quiet ((go_at_call 108; exact quiet_left (l00In_any _ _ _ _)))
            go_wp2_with fail
            go_ret
            exact ⟨ret_bool (HN.out (fun hh => by omega)).symm, below_drewN (HB.out.alloc HB.out.size _) _⟩
          · have hi3' : decide (y0 < y) = false := by simpa using hi3
            by_cases hi4 : k = 0
            · have hi4' : decide (0 < k) = false := by simp; omega
              have HZ := Lib.hid hi4
              clear hi4
              go_wp2_with fail
              go_quiet ((go_at_call 108; exact quiet_left (l00In_any _ _ _ _)))
              go_wp2_with fail
              go_roundw
              case rel => exact ⟨k + 1, by omega, by go_num, below_drewN (HB.out.alloc HB.out.size _) _, fun j hj => by
                by_cases e : j = k
                · subst e
                  rw [ptOk_iff, HP.out.1, HP.out.2.1, HP.out.2.2]
                  exact ⟨hw1.1, hw1.2, hw2.1, hw2.2, by omega, .inl HZ.out⟩
                · exact HK.out j (by omega)⟩
              case measure => simp [intOf]; omega
            · obtain ⟨b', off', x1, y1, hAA, HX1, hp1, hp2, hx11, hx12⟩ := (H0.out.below HB.out).at_ (show k - 1 < n by omega)
              obtain ⟨rfl, rfl⟩ : b = b' ∧ off = off' := by
                injection hAA with hAA
                injection hAA with e1 e2 _
                exact ⟨e1, e2⟩
              clear hAA
              have HD := Lib.hid (dAt_eq HX1.out)
              have hpos : decide (0 < k) = true := by simp; omega
              have hk1 : ((k : Int) - 1).toNat = k - 1 := by omega
              have hk2 : (0 : Int) ≤ (k : Int) - 1 := by omega
              have hk3 : (k : Int) - 1 < (n : Int) := by omega
              have hk4 : IntKind.i64.wrap ((k : Int) - 1) = (k : Int) - 1 := IntWalk.i64_in _ (by omega)
              by_cases hi5 : x ≤ x1
              · go_wp2_with fail
                go_quiet ((go_at_call 108; exact quiet_left (l00In_any _ _ _ _)))
                go_wp2_with fail
                go_ret
                exact ⟨ret_bool (HN.out (fun hh => by rcases hh.2.2.2.2.2 with h | h; exact hi4 h; rw [HD.out] at h; omega)).symm, below_drewN (HB.out.alloc HB.out.size _) _⟩
              · have hi5' : decide (x ≤ x1) = false := by simpa using hi5
                go_wp2_with fail
                go_quiet ((go_at_call 108; exact quiet_left (l00In_any _ _ _ _)))
                go_wp2_with fail
                go_roundw
                case rel => exact ⟨k + 1, by omega, by go_num, below_drewN (HB.out.alloc HB.out.size _) _, fun j hj => by
                  by_cases e : j = k
                  · subst e
                    rw [ptOk_iff, HP.out.1, HP.out.2.1, HP.out.2.2]
                    exact ⟨hw1.1, hw1.2, hw2.1, hw2.2, by omega, .inr (by rw [HD.out]; omega)⟩
                  · exact HK.out j (by omega)⟩
                case measure => simp [intOf]; omega
    · obtain rfl : k = n := by omega
      clear hlt
      have HB := Lib.hid hbl
      have hh := h.below hbl
      clear hbl h
      by_cases h2 : 2 ≤ k
      · by_cases h24 : k ≤ 24
        · obtain ⟨b, off, x0, y0, rfl, HX0, hd1, hd2, hx01, hx02⟩ := hh.at_ (show 0 < k by omega)
          simp only [Nat.zero_mul, Nat.add_zero] at hd1 hd2
          have HD := Lib.hid (dAt_eq HX0.out)
          clear hh
          have hn0 : 0 < k := by omega
          by_cases h00 : x0 = 0
          · have HT := Lib.hid (show pathOk ps = true from pathOk_iff.2 ⟨by rw [HL.out]; exact h2, by rw [HL.out]; exact h24, by rw [HD.out]; exact h00, fun i hi => HK.out i (by rw [HL.out] at hi; exact hi)⟩)
            subst h00
            go_wp2_with fail
            go_ret
            exact ⟨ret_bool (by rw [HT.out]), HB.out⟩
          · have HT := Lib.hid (show pathOk ps = false from pathOk_no fun hh => by have := hh.2.2.1; rw [HD.out] at this; exact h00 this)
            have hb0 : (x0 == 0) = false := by simpa using h00
            go_wp2_with fail
            go_ret
            exact ⟨ret_bool (by rw [HT.out]), HB.out⟩
        · have HT := Lib.hid (show pathOk ps = false from pathOk_no fun hh => by have := hh.2.1; rw [HL.out] at this; omega)
          go_wp2_with fail
          go_ret
          exact ⟨ret_bool (by rw [HT.out]), HB.out⟩
      · have HT := Lib.hid (show pathOk ps = false from pathOk_no fun hh => by have := hh.1; rw [HL.out] at this; omega)
        go_wp2_with fail
        go_ret
        exact ⟨ret_bool (by rw [HT.out]), HB.out⟩
set_option maxRecDepth 100000 in
set_option maxHeartbeats 2000000 in
theorem ValidPath_i (A : Option Addr) (n c : Nat) (ps : Pth) (w : World) (h : Pts w A n ps) :
    Calls Tryd.prog 64 #[.slice A n c] w fun e w' => e = .returned (.bool (pathOk ps)) ∧ Below w.heap.size w w' := by
  have hn := h.2.1
  have HL := Lib.hid h.1
  by_cases h2 : 2 ≤ n
  · by_cases h24 : n ≤ 24
    · obtain ⟨b, off, x0, y0, rfl, HX0, hd1, hd2, hx01, hx02⟩ := h.at_ (show 0 < n by omega)
      simp only [Nat.zero_mul, Nat.add_zero] at hd1 hd2
      have HD := Lib.hid (dAt_eq HX0.out)
      have hn0 : 0 < n := by omega
      by_cases h00 : x0 = 0
      · subst h00
        have H0 := Lib.hid (And.intro h (And.intro hd1 hd2))
        clear h hd2
        go_enter Tryd.func64, Tryd.ntmps64
        go_wp2_with fail
        go_loopw [22] (fun i wr => ∃ k : Nat, k ≤ n ∧ i = .int .i64 k ∧ Below w.heap.size w wr ∧ Hid (∀ j, j < k → ptOk ps j = true)) (fun i _ => n - (intOf i).toNat)
        case atStart => exact ⟨0, Nat.zero_le _, rfl, Below.refl _ _, fun j hj => absurd hj (by omega)⟩
        case round =>
          clear hd1
          obtain ⟨k, hk, rfl, hbl, HK⟩ := hrel
          by_cases hlt : k < n
          · obtain ⟨b', off', x, y, hAA, HX, hc1, hc2, hx1, hx2⟩ := (H0.out.1.below hbl).at_ hlt
            obtain ⟨rfl, rfl⟩ : b = b' ∧ off = off' := by
              injection hAA with hAA
              injection hAA with e1 e2 _
              exact ⟨e1, e2⟩
            clear hAA
            have hd2 := cell_kept hbl H0.out.2.2
            have hxd := dAt_eq HX.out
            have hyd := hAt_eq HX.out
            have hy0 := hAt_eq HX0.out
            have HP := Lib.hid (And.intro hxd (And.intro hyd hy0))
            have hkL : k < ps.length := by rw [HL.out]; exact hlt
            have HN : Hid (¬ (0 ≤ x ∧ x ≤ 20000 ∧ 0 ≤ y ∧ y ≤ 9000 ∧ y ≤ y0 ∧ (k = 0 ∨ dAt ps (k - 1) < x)) → pathOk ps = false) := by
              intro hh
              refine pathOk_pt hkL (ptOk_no ?_)
              rw [hxd, hyd, hy0]
              exact hh
            have HE : Hid (k = 0 → x = 0) := by
              rintro rfl
              rw [← hxd, HD.out]
            have HB := Lib.hid hbl
            have hbw : b < wr.heap.size := cell_lt hc1
            clear hxd hyd hy0 hkL hbl
            have hki : (k : Int) < (n : Int) := by omega
            by_cases hi1 : 20000 < x
            · go_wp2_with fail
              go_quiet ((go_at_call 85; exact quiet_left (within_any _ _ _ _)))
              go_wp2_with fail
              go_ret
              exact ⟨ret_bool (HN.out (fun hh => by omega)).symm, below_drewN (HB.out.alloc HB.out.size _) _⟩
            · have hi1' : decide (20000 < x) = false := by simpa using hi1
              by_cases h9 : 9000 < y0
              · cases hi2 : inB y 0 9000
                · have hw2 := inB_not.1 hi2
                  have HW2 := Lib.hid hw2
                  clear hw2
                  go_wp2_with fail
                  go_quiet ((go_at_call 85; exact quiet_left (within_any _ _ _ _)))
                  go_wp2_with fail
                  go_ret
                  exact ⟨ret_bool (HN.out (fun hh => by have := HW2.out; omega)).symm, below_drewN (HB.out.alloc HB.out.size _) _⟩
                · have hw2 := inB_iff.1 hi2
                  have HW2 := Lib.hid (show 0 ≤ y ∧ y ≤ 9000 ∧ y ≤ y0 from ⟨hw2.1, by omega, by omega⟩)
                  clear hw2
                  by_cases hi4 : k = 0
                  · have hi4' : decide (0 < k) = false := by simp; omega
                    have HZ := Lib.hid hi4
                    clear hi4
                    go_wp2_with fail
                    go_quiet ((go_at_call 85; exact quiet_left (within_any _ _ _ _)))
                    go_wp2_with fail
                    go_roundw
                    case rel => exact ⟨k + 1, by omega, by go_num, below_drewN (HB.out.alloc HB.out.size _) _, fun j hj => by
                      by_cases e : j = k
                      · subst e
                        rw [ptOk_iff, HP.out.1, HP.out.2.1, HP.out.2.2]
                        exact ⟨by rw [HE.out HZ.out]; omega, by omega, HW2.out.1, HW2.out.2.1, HW2.out.2.2, .inl HZ.out⟩
                      · exact HK.out j (by omega)⟩
                    case measure => simp [intOf]; omega
                  · obtain ⟨b', off', x1, y1, hAA, HX1, hp1, hp2, hx11, hx12⟩ := (H0.out.1.below HB.out).at_ (show k - 1 < n by omega)
                    obtain ⟨rfl, rfl⟩ : b = b' ∧ off = off' := by
                      injection hAA with hAA
                      injection hAA with e1 e2 _
                      exact ⟨e1, e2⟩
                    clear hAA
                    have HD1 := Lib.hid (dAt_eq HX1.out)
                    have hpos : decide (0 < k) = true := by simp; omega
                    have hk1 : ((k : Int) - 1).toNat = k - 1 := by omega
                    have hk2 : (0 : Int) ≤ (k : Int) - 1 := by omega
                    have hk3 : (k : Int) - 1 < (n : Int) := by omega
                    have hk4 : IntKind.i64.wrap ((k : Int) - 1) = (k : Int) - 1 := IntWalk.i64_in _ (by omega)
                    have HJ := Lib.hid (show 0 ≤ x1 by have := ptOk_iff.1 (HK.out (k - 1) (by omega)); rw [HD1.out] at this; exact this.1)
                    by_cases hi5 : x ≤ x1
                    · go_wp2_with fail
                      go_quiet ((go_at_call 85; exact quiet_left (within_any _ _ _ _)))
                      go_wp2_with fail
                      go_ret
                      exact ⟨ret_bool (HN.out (fun hh => by rcases hh.2.2.2.2.2 with h | h; exact hi4 h; rw [HD1.out] at h; omega)).symm, below_drewN (HB.out.alloc HB.out.size _) _⟩
                    · have hi5' : decide (x ≤ x1) = false := by simpa using hi5
                      go_wp2_with fail
                      go_quiet ((go_at_call 85; exact quiet_left (within_any _ _ _ _)))
                      go_wp2_with fail
                      go_roundw
                      case rel => exact ⟨k + 1, by omega, by go_num, below_drewN (HB.out.alloc HB.out.size _) _, fun j hj => by
                        by_cases e : j = k
                        · subst e
                          rw [ptOk_iff, HP.out.1, HP.out.2.1, HP.out.2.2]
                          exact ⟨by have := HJ.out; omega, by omega, HW2.out.1, HW2.out.2.1, HW2.out.2.2, .inr (by rw [HD1.out]; omega)⟩
                        · exact HK.out j (by omega)⟩
                      case measure => simp [intOf]; omega
              · cases hi2 : inB y 0 y0
                · have hw2 := inB_not.1 hi2
                  have HW2 := Lib.hid hw2
                  clear hw2
                  go_wp2_with fail
                  go_quiet ((go_at_call 85; exact quiet_left (within_any _ _ _ _)))
                  go_wp2_with fail
                  go_ret
                  exact ⟨ret_bool (HN.out (fun hh => by have := HW2.out; omega)).symm, below_drewN (HB.out.alloc HB.out.size _) _⟩
                · have hw2 := inB_iff.1 hi2
                  have HW2 := Lib.hid (show 0 ≤ y ∧ y ≤ 9000 ∧ y ≤ y0 from ⟨hw2.1, by omega, by omega⟩)
                  clear hw2
                  by_cases hi4 : k = 0
                  · have hi4' : decide (0 < k) = false := by simp; omega
                    have HZ := Lib.hid hi4
                    clear hi4
                    go_wp2_with fail
                    go_quiet ((go_at_call 85; exact quiet_left (within_any _ _ _ _)))
                    go_wp2_with fail
                    go_roundw
                    case rel => exact ⟨k + 1, by omega, by go_num, below_drewN (HB.out.alloc HB.out.size _) _, fun j hj => by
                      by_cases e : j = k
                      · subst e
                        rw [ptOk_iff, HP.out.1, HP.out.2.1, HP.out.2.2]
                        exact ⟨by rw [HE.out HZ.out]; omega, by omega, HW2.out.1, HW2.out.2.1, HW2.out.2.2, .inl HZ.out⟩
                      · exact HK.out j (by omega)⟩
                    case measure => simp [intOf]; omega
                  · obtain ⟨b', off', x1, y1, hAA, HX1, hp1, hp2, hx11, hx12⟩ := (H0.out.1.below HB.out).at_ (show k - 1 < n by omega)
                    obtain ⟨rfl, rfl⟩ : b = b' ∧ off = off' := by
                      injection hAA with hAA
                      injection hAA with e1 e2 _
                      exact ⟨e1, e2⟩
                    clear hAA
                    have HD1 := Lib.hid (dAt_eq HX1.out)
                    have hpos : decide (0 < k) = true := by simp; omega
                    have hk1 : ((k : Int) - 1).toNat = k - 1 := by omega
                    have hk2 : (0 : Int) ≤ (k : Int) - 1 := by omega
                    have hk3 : (k : Int) - 1 < (n : Int) := by omega
                    have hk4 : IntKind.i64.wrap ((k : Int) - 1) = (k : Int) - 1 := IntWalk.i64_in _ (by omega)
                    have HJ := Lib.hid (show 0 ≤ x1 by have := ptOk_iff.1 (HK.out (k - 1) (by omega)); rw [HD1.out] at this; exact this.1)
                    by_cases hi5 : x ≤ x1
                    · go_wp2_with fail
                      go_quiet ((go_at_call 85; exact quiet_left (within_any _ _ _ _)))
                      go_wp2_with fail
                      go_ret
                      exact ⟨ret_bool (HN.out (fun hh => by rcases hh.2.2.2.2.2 with h | h; exact hi4 h; rw [HD1.out] at h; omega)).symm, below_drewN (HB.out.alloc HB.out.size _) _⟩
                    · have hi5' : decide (x ≤ x1) = false := by simpa using hi5
                      go_wp2_with fail
                      go_quiet ((go_at_call 85; exact quiet_left (within_any _ _ _ _)))
                      go_wp2_with fail
                      go_roundw
                      case rel => exact ⟨k + 1, by omega, by go_num, below_drewN (HB.out.alloc HB.out.size _) _, fun j hj => by
                        by_cases e : j = k
                        · subst e
                          rw [ptOk_iff, HP.out.1, HP.out.2.1, HP.out.2.2]
                          exact ⟨by have := HJ.out; omega, by omega, HW2.out.1, HW2.out.2.1, HW2.out.2.2, .inr (by rw [HD1.out]; omega)⟩
                        · exact HK.out j (by omega)⟩
                      case measure => simp [intOf]; omega
          · obtain rfl : k = n := by omega
            clear hlt
            have HB := Lib.hid hbl
            clear hbl
            have HT := Lib.hid (show pathOk ps = true from pathOk_iff.2 ⟨by rw [HL.out]; exact h2, by rw [HL.out]; exact h24, by rw [HD.out], fun i hi => HK.out i (by rw [HL.out] at hi; exact hi)⟩)
            go_wp2_with fail
            go_ret
            exact ⟨ret_bool (by rw [HT.out]), HB.out⟩
      · have HT := Lib.hid (show pathOk ps = false from pathOk_no fun hh => by have := hh.2.2.1; rw [HD.out] at this; exact h00 this)
        have hb0 : (x0 != 0) = true := by simpa using h00
        clear h
        go_enter Tryd.func64, Tryd.ntmps64
        go_wp2_with fail
        go_ret
        exact ⟨ret_bool (by rw [HT.out]), Below.refl _ _⟩
    · have HT := Lib.hid (show pathOk ps = false from pathOk_no fun hh => by have := hh.2.1; rw [HL.out] at this; omega)
      clear h
      go_enter Tryd.func64, Tryd.ntmps64
      go_wp2_with fail
      go_ret
      exact ⟨ret_bool (by rw [HT.out]), Below.refl _ _⟩
  · have HT := Lib.hid (show pathOk ps = false from pathOk_no fun hh => by have := hh.1; rw [HL.out] at this; omega)
    clear h
    go_enter Tryd.func64, Tryd.ntmps64
    go_wp2_with fail
    go_ret
    exact ⟨ret_bool (by rw [HT.out]), Below.refl _ _⟩
end Go.Proofs.YthkpffmcafdmeaaDoor
