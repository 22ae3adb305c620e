/-
  The contracts of the worst zones of two lines, and what the reference's greater number is.
-/
import Derived.Test.YtbakmcjngadebaaZoneX
import Derived.Test.YtbakmcjngadebaaClone
import Derived.StillTailTactics
namespace Go.Proofs.Ytbakmcjngadebaa
open Go.ChangeShapes Go.WideShapes Go.ChangeAt Go.RowKit Go.Deep
set_option linter.unusedVariables false

theorem l00Max_any (a b : Int) (w : World) : Calls Try.prog 67 #[.int .i64 a, .int .i64 b] w fun e w' => e = .returned (.int .i64 (max a b)) ∧ w = w' := by
  by_cases h : b < a
  · go_enter Try.func67, Try.ntmps67
    go_wp2
    go_ret
    exact ⟨ret_int (by omega), rfl⟩
  · go_enter Try.func67, Try.ntmps67
    go_wp2
    all_goals go_ret
    all_goals exact ⟨ret_int (by omega), rfl⟩
theorem l00Min_any (a b : Int) (w : World) : Calls Try.prog 86 #[.int .i64 a, .int .i64 b] w fun e w' => e = .returned (.int .i64 (min a b)) ∧ w = w' := by
  by_cases h : a < b
  · go_enter Try.func86, Try.ntmps86
    go_wp2
    go_ret
    exact ⟨ret_int (by omega), rfl⟩
  · go_enter Try.func86, Try.ntmps86
    go_wp2
    all_goals go_ret
    all_goals exact ⟨ret_int (by omega), rfl⟩
def worstL (xs ys : List Int) : List Int := List.zipWith max xs ys
def worstR (xs ys : List Int) : List Int := if (lineB xs && lineB ys && decide (xs.length = ys.length)) = true then worstL xs ys else []
def worstC (xs ys : List Int) : Int := if (lineB xs && lineB ys) = true then (if xs.length = ys.length then 0 else 7) else 2
theorem worst_at {xs ys : List Int} {k : Nat} {x y : Int} (h : xs[k]? = some x) (h' : ys[k]? = some y) : (worstL xs ys)[k]? = some (max x y) := by
  simp [worstL, List.getElem?_zipWith, h, h']
theorem worst_len {xs ys : List Int} (h : xs.length = ys.length) : (worstL xs ys).length = xs.length := by simp [worstL, h]
theorem lineB_len {xs : List Int} (h : lineB xs = true) : xs.length ≤ 64 := by
  unfold lineB at h
  simp only [Bool.and_eq_true, decide_eq_true_eq] at h
  exact h.2
set_option maxRecDepth 100000 in
set_option maxHeartbeats 800000 in
theorem WorstZones_s (A : Option Addr) (n c : Nat) (B : Option Addr) (m d : Nat) (xs ys : List Int) (w : World) (h : Ints w A n xs) (h' : Ints w B m ys) :
    Calls Try.prog 19 #[.slice A n c, .slice B m d] w fun e w' => ResI 2 w (worstR xs ys) (worstC xs ys) e w' := by
  have HL := Lib.hid h.1
  have HL' := Lib.hid h'.1
  have hmx := h.2.1
  have hmy := h'.2.1
  cases h1 : lineB xs
  · have HR := Lib.hid (show worstR xs ys = [] ∧ worstC xs ys = 2 by simp [worstR, worstC, h1])
    go_enter Try.func19, Try.ntmps19
    go_wp2_with fail
    refine (l16Line_any _ _ _ xs _ h).mono ?_
    rintro e w1 ⟨rfl, q1, rfl⟩
    go_wp2_with fail
    go_ret2
    rw [HR.out.1, HR.out.2]
    exact ResI.nil (below_drewN (Below.refl _ _) _)
  · cases h2 : lineB ys
    · have HR := Lib.hid (show worstR xs ys = [] ∧ worstC xs ys = 2 by simp [worstR, worstC, h1, h2])
      go_enter Try.func19, Try.ntmps19
      go_wp2_with fail
      refine (l16Line_any _ _ _ xs _ h).mono ?_
      rintro e w1 ⟨rfl, q1, rfl⟩
      go_wp2_with fail
      refine (l16Line_any _ _ _ ys _ (h'.drewN q1)).mono ?_
      rintro e w1 ⟨rfl, q2, rfl⟩
      go_wp2_with fail
      go_ret2
      rw [HR.out.1, HR.out.2]
      exact ResI.nil (below_drewN (Below.refl _ _) _)
    · have h64 := lineB_len h1
      rw [HL.out] at h64
      by_cases hnm : n = m
      · subst hnm
        have HR := Lib.hid (show worstR xs ys = worstL xs ys ∧ worstC xs ys = 0 by simp [worstR, worstC, h1, h2, HL.out, HL'.out])
        have HW := Lib.hid (show (worstL xs ys).length = n by rw [worst_len (by rw [HL.out, HL'.out]), HL.out])
        go_enter Try.func19, Try.ntmps19
        go_wp2_with fail
        refine (l16Line_any _ _ _ xs _ h).mono ?_
        rintro e w1 ⟨rfl, q1, rfl⟩
        go_wp2_with fail
        refine (l16Line_any _ _ _ ys _ (h'.drewN q1)).mono ?_
        rintro e w1 ⟨rfl, q2, rfl⟩
        go_wp2_with fail
        have hA : ∃ q, q = q1 + q2 := ⟨_, rfl⟩
        obtain ⟨q, hq⟩ := hA
        rw [← hq]
        clear hq
        have hown0 := World.ownsRow_lit (base := w.heap.size) (e := 2) (size := 1) (w.drewN q) #[] 0 (Nat.le_refl _) (by simp) rfl
        have hb0 := (below_drewN (Below.refl w.heap.size w) q).alloc (Nat.le_refl _) (.cells #[] 2)
        go_loopw [6, 7] (fun o i wr => ∃ k : Nat, k ≤ n ∧ i = .int .i64 k ∧ Below w.heap.size w wr ∧ wr.ownsRow w.heap.size 2 1 o k (((worstL xs ys).take k).map (.int .i64))) (fun _ i _ => n - (intOf i).toNat)
        case atStart => exact ⟨0, Nat.zero_le _, rfl, hb0, hown0⟩
        case round =>
          clear hown0 hb0
          obtain ⟨k, hk, rfl, hbl, hown⟩ := hrel
          by_cases hlt : k < n
          · obtain ⟨b, off, x, rfl, HX, hc, hx1, hx2⟩ := (h.below hbl).at_ hlt
            obtain ⟨b', off', y, rfl, HY, hc', hy1, hy2⟩ := (h'.below hbl).at_ hlt
            have HW2 := Lib.hid (take_snoc (worst_at HX.out HY.out))
            have HO := Lib.hid (And.intro hbl (And.intro hbl.size hown))
            have HB := Lib.hid (And.intro (cell_lt hc) (cell_lt hc'))
            have HR0 := Lib.hid (show (∀ g, u6.ownBlock = some g → w.heap.size ≤ g) ∧ (b < w.heap.size ∧ b' < w.heap.size) from ⟨own_blk hown, by
              obtain ⟨_, _, e1, c1⟩ := h.2.2.2 (by omega)
              obtain ⟨_, _, e2, c2⟩ := h'.2.2.2 (by omega)
              injection e1 with e1
              injection e2 with e2
              injection e1 with e1 _ _
              injection e2 with e2 _ _
              subst e1 e2
              exact ⟨cell_lt (c1 0 (by omega)), cell_lt (c2 0 (by omega))⟩⟩)
            clear hown hbl h h'
            have hki : (k : Int) < (n : Int) := by omega
            go_wp2_with fail
            go_region_held3 (fun w' => w'.cell? ⟨b, off + k, none⟩ = some (.int .i64 x) ∧ w'.cell? ⟨b', off' + k, none⟩ = some (.int .i64 y))
              (first | go_keep | exact ⟨hS1, hS2⟩)
              ((first | (go_at_call 67; refine (l00Max_any _ _ _).mono ?_; rintro e w' ⟨rfl, rfl⟩) | (refine step_app_int rfl (.tmp 28) (.tmp 38) 22 rfl w.heap.size 2 Try.underlying22 info_int u6 k ((worstL xs ys).take k) (max x y) rfl (HO.out.2.2.alloc _) wr.heap.size rfl (heap_alloc_new wr _) (by omega) (by simp; exact Nat.le_succ_of_le HO.out.2.1) ?_; intro v' w1 hown1 hgrow1 hv1; have hS1 := keep_cell hgrow1 rfl HR0.out.1 HR0.out.2.1 hc; have hS2 := keep_cell hgrow1 rfl HR0.out.1 HR0.out.2.2 hc')))
            have HF := Lib.hid (And.intro (((HO.out.1.alloc HO.out.2.1 _).drew).grown hgrow1 (by simp; exact Nat.le_succ_of_le HO.out.2.1) HR0.out.1) hown1)
            clear hown1 hgrow1 hS1 hS2
            obtain ⟨g, cc, rfl⟩ := hv1
            go_wp2_with fail
            go_roundw
            case rel => exact ⟨k + 1, by omega, by go_num, HF.out.1, by rw [HW2.out]; exact HF.out.2⟩
            case measure => simp [intOf]; omega
          · obtain rfl : k = n := by omega
            clear hlt
            rw [List.take_of_length_le (by rw [HW.out]; exact Nat.le_refl _)] at hown
            obtain ⟨A', c', rfl, _⟩ := own_form hown
            have HO := Lib.hid (And.intro hbl hown)
            clear hbl hown
            go_wp2_with fail
            go_ret2
            rw [HR.out.1, HR.out.2]
            exact ⟨A', c', by rw [HW.out]; rfl, by rw [HW.out]; exact Fresh.of_own HO.out.2, HO.out.1⟩
      · have HR := Lib.hid (show worstR xs ys = [] ∧ worstC xs ys = 7 by simp [worstR, worstC, h1, h2, HL.out, HL'.out, hnm])
        have hne : ((n : Int) != (m : Int)) = true := by simp; omega
        go_enter Try.func19, Try.ntmps19
        go_wp2_with fail
        refine (l16Line_any _ _ _ xs _ h).mono ?_
        rintro e w1 ⟨rfl, q1, rfl⟩
        go_wp2_with fail
        refine (l16Line_any _ _ _ ys _ (h'.drewN q1)).mono ?_
        rintro e w1 ⟨rfl, q2, rfl⟩
        go_wp2_with fail
        go_ret2
        rw [HR.out.1, HR.out.2]
        exact ResI.nil (below_drewN (Below.refl _ _) _)
set_option maxRecDepth 100000 in
set_option maxHeartbeats 800000 in
theorem WorstZones_i (A : Option Addr) (n c : Nat) (B : Option Addr) (m d : Nat) (xs ys : List Int) (w : World) (h : Ints w A n xs) (h' : Ints w B m ys) (hA : ∃ a, A = some a) :
    Calls Try.prog 20 #[.slice A n c, .slice B m d] w fun e w' => ResI 2 w (worstR xs ys) (worstC xs ys) e w' := by
  have HL := Lib.hid h.1
  have HL' := Lib.hid h'.1
  have hmx := h.2.1
  have hmy := h'.2.1
  cases h1 : lineB xs
  · have HR := Lib.hid (show worstR xs ys = [] ∧ worstC xs ys = 2 by simp [worstR, worstC, h1])
    go_enter Try.func20, Try.ntmps20
    go_wp2_with fail
    refine (zonesOk_any _ _ _ xs _ h).mono ?_
    rintro e w1 ⟨rfl, hb1⟩
    go_wp2_with fail
    go_ret2
    rw [HR.out.1, HR.out.2]
    exact ResI.nil hb1
  · cases h2 : lineB ys
    · have HR := Lib.hid (show worstR xs ys = [] ∧ worstC xs ys = 2 by simp [worstR, worstC, h1, h2])
      go_enter Try.func20, Try.ntmps20
      go_wp2_with fail
      refine (zonesOk_any _ _ _ xs _ h).mono ?_
      rintro e w1 ⟨rfl, hb1⟩
      have h2' := h'.below hb1
      go_wp2_with fail
      refine (zonesOk_any _ _ _ ys _ h2').mono ?_
      rintro e w2 ⟨rfl, hb2⟩
      go_wp2_with fail
      go_ret2
      rw [HR.out.1, HR.out.2]
      exact ResI.nil (hb1.trans (hb2.mono hb1.size))
    · have h64 := lineB_len h1
      rw [HL.out] at h64
      by_cases hnm : n = m
      · subst hnm
        have HR := Lib.hid (show worstR xs ys = worstL xs ys ∧ worstC xs ys = 0 by simp [worstR, worstC, h1, h2, HL.out, HL'.out])
        have HW := Lib.hid (show (worstL xs ys).length = n by rw [worst_len (by rw [HL.out, HL'.out]), HL.out])
        go_enter Try.func20, Try.ntmps20
        go_wp2_with fail
        refine (zonesOk_any _ _ _ xs _ h).mono ?_
        rintro e w1 ⟨rfl, hb1⟩
        have h2' := h'.below hb1
        have hx2 := h.below hb1
        go_wp2_with fail
        refine (zonesOk_any _ _ _ ys _ h2').mono ?_
        rintro e w2 ⟨rfl, hb2⟩
        replace h2' := h2'.below hb2
        replace hx2 := hx2.below hb2
        have hB2 := hb1.trans (hb2.mono hb1.size)
        go_wp2_with fail
        refine (clone_any _ _ _ xs _ hx2 (by omega) hA).mono ?_
        rintro e w3 ⟨A', c', rfl, hf3, hb3⟩
        replace h2' := h2'.below hb3
        have hB3 := hB2.trans (hb3.mono hB2.size)
        have HB := Lib.hid (And.intro hB3 hB2.size)
        rw [HL.out] at hf3 ⊢
        clear hB2 hb1 hb2 hb3 hx2 hB3 h
        rcases Nat.eq_zero_or_pos n with rfl | hpos
        · go_wp2_with fail
          go_rounds 1
          go_ret2
          rw [HR.out.1, HR.out.2]
          have e0 : worstL xs ys = [] := by have := HW.out; simpa using this
          rw [e0]
          exact ⟨_, _, rfl, Fresh.empty _ _ _ _ _ _, HB.out.1⟩
        · have hown := hf3.2 hpos
          obtain ⟨g, hg⟩ : ∃ g, A' = some ⟨g, 0, none⟩ := by
            rcases hown.2 with ⟨hv, h0⟩ | ⟨g, cap, cur, hv, _⟩
            · omega
            · simp only [Value.slice.injEq] at hv
              exact ⟨g, hv.1⟩
          subst hg
          obtain ⟨f, hbg, hnc, hcm, _, hrow0, hf⟩ := own_to_rowIs hown
          have hF0 : ∀ j, j < n → ∀ x, xs[j]? = some x → f j = .int .i64 x := by
            intro j hj x hx
            have := hf j (by omega)
            rw [List.getElem?_map, hx] at this
            injection this with this
            exact this.symm
          have HG := Lib.hid (And.intro hbg (And.intro hnc hcm))
          clear hown hf3 hf hbg hnc hcm
          go_wp2_with fail
          have HI := Lib.hid (And.intro h' h2')
          clear h' h2'
          go_loopw [28] (fun i wr => ∃ k : Nat, k ≤ n ∧ i = .int .i64 k ∧ (∃ f', wr.rowIs g 2 (c' * 1) f' ∧ (∀ j, j < k → ∀ z, (worstL xs ys)[j]? = some z → f' j = .int .i64 z) ∧ (∀ j, k ≤ j → j < n → ∀ x, xs[j]? = some x → f' j = .int .i64 x)) ∧ w3.grownBy wr (some g)) (fun i _ => n - (intOf i).toNat)
          case atStart => exact ⟨0, Nat.zero_le _, rfl, ⟨f, hrow0, fun j hj => absurd hj (by omega), fun j _ hj => hF0 j hj⟩, World.grownBy.refl _ _⟩
          case round =>
            clear hrow0 hF0
            obtain ⟨k, hk, rfl, ⟨f', hrow, hf1, hf2⟩, hgr⟩ := hrel
            by_cases hlt : k < n
            · obtain ⟨b, off, y, rfl, HY, hc, hy1, hy2⟩ := (HI.out.2.old hgr HI.out.1 (fun g' hg' => by injection hg' with e; have := HG.out.1; have := HB.out.2; omega)).at_ hlt
              have hkx : k < xs.length := by rw [HL.out]; exact hlt
              obtain ⟨x, hx⟩ : ∃ x, xs[k]? = some x := ⟨_, List.getElem?_eq_getElem hkx⟩
              have hnc := HG.out.2.1
              have hc0 := hrow.cell (i := k) (by omega)
              rw [hf2 k (Nat.le_refl _) hlt x hx] at hc0
              have hf0 := hrow.frozen k
              have hV : max x y = if x < y then y else x := by split <;> omega
              have hwa := worst_at hx HY.out
              rw [hV] at hwa
              have HS := Lib.hid (And.intro (hrow.set k (.int .i64 (if x < y then y else x))) (And.intro (grown_setCell hgr (p := ⟨g, k, none⟩) rfl (.int .i64 (if x < y then y else x))) (And.intro hwa (And.intro hf1 hf2))))
              clear hV hwa
              clear hrow hgr hf1 hf2 hx
              have hki : (k : Int) < (n : Int) := by omega
              go_wp2_with fail
              go_roundw
              case rel =>
                obtain ⟨s1, s2, s3, s4, s5⟩ := HS.out
                refine ⟨k + 1, by omega, by go_num, ⟨_, s1, fun j hj z hz => ?_, fun j hj1 hj2 x' hx' => ?_⟩, s2⟩
                · by_cases e : j = k
                  · subst e
                    rw [s3] at hz
                    injection hz with hz
                    simp [hz]
                  · rw [if_neg e]
                    exact s4 j (by omega) z hz
                · rw [if_neg (by omega)]
                  exact s5 j (by omega) hj2 x' hx'
              case measure => simp [intOf]; omega
            · obtain rfl : k = n := by omega
              clear hlt
              have HO := Lib.hid (rowIs_to_own (n := k) (base := w.heap.size) (xs := (worstL xs ys).map (.int .i64)) hrow (Nat.le_trans HB.out.2 HG.out.1) HG.out.2.1 HG.out.2.2 (by simp [HW.out]) (fun j hj => by
                have hj' : j < (worstL xs ys).length := by rw [HW.out]; omega
                have e := List.getElem?_eq_getElem hj'
                rw [List.getElem?_map, e, hf1 j (by omega) _ e]
                rfl))
              have HX := Lib.hid (below_grown HB.out.1 hgr (HB.out.1.size) (Nat.le_trans HB.out.2 HG.out.1))
              clear hrow hgr hf1 hf2
              go_wp2_with fail
              go_ret2
              rw [HR.out.1, HR.out.2]
              exact ⟨_, _, by rw [HW.out]; rfl, by rw [HW.out]; exact Fresh.of_own HO.out, HX.out⟩
      · have HR := Lib.hid (show worstR xs ys = [] ∧ worstC xs ys = 7 by simp [worstR, worstC, h1, h2, HL.out, HL'.out, hnm])
        have hne : ((n : Int) != (m : Int)) = true := by simp; omega
        go_enter Try.func20, Try.ntmps20
        go_wp2_with fail
        refine (zonesOk_any _ _ _ xs _ h).mono ?_
        rintro e w1 ⟨rfl, hb1⟩
        have h2' := h'.below hb1
        go_wp2_with fail
        refine (zonesOk_any _ _ _ ys _ h2').mono ?_
        rintro e w2 ⟨rfl, hb2⟩
        go_wp2_with fail
        go_ret2
        rw [HR.out.1, HR.out.2]
        exact ResI.nil (hb1.trans (hb2.mono hb1.size))
theorem worstR_ok (xs ys : List Int) : (∀ y ∈ worstR xs ys, -9223372036854775808 ≤ y ∧ y ≤ 9223372036854775807) ∧ (worstR xs ys).length ≤ 1048576 := by
  unfold worstR
  by_cases h : (lineB xs && lineB ys && decide (xs.length = ys.length)) = true
  · rw [if_pos h]
    simp only [Bool.and_eq_true, decide_eq_true_eq] at h
    obtain ⟨⟨h1, h2⟩, h3⟩ := h
    have l1 := lineB_len h1
    refine ⟨fun y hy => ?_, by rw [worst_len h3]; omega⟩
    unfold lineB at h1 h2
    simp only [Bool.and_eq_true, decide_eq_true_eq] at h1 h2
    obtain ⟨j, hj⟩ := List.mem_iff_getElem?.1 hy
    have hj' : j < (worstL xs ys).length := (List.getElem?_eq_some_iff.1 hj).1
    rw [worst_len h3] at hj'
    have e1 : xs[j]? = some (xs[j]) := List.getElem?_eq_getElem hj'
    have e2 : ys[j]? = some (ys[j]'(by omega)) := List.getElem?_eq_getElem (by omega)
    have e3 := worst_at e1 e2
    rw [hj] at e3
    injection e3 with e3
    have a1 := allB_iff.1 h1.1 j _ e1
    have a2 := allB_iff.1 h2.1 j _ e2
    omega
  · rw [if_neg h]
    simp
end Go.Proofs.Ytbakmcjngadebaa
