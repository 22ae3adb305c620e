/-
  A mass that is divided by weights, both sides.
-/
import Derived.Test.YtbakmcjngadebaaZoneX
namespace Go.Proofs.Ytbakmcjngadebaa
open Go.ChangeShapes Go.WideShapes Go.ChangeAt Go.RowKit Go.Deep
set_option linter.unusedVariables false

def splitD (t : Int) (ws : List Int) (j : Nat) : Int := divN (t * (ws.take j).sum) ws.sum
def splitL (t : Int) (ws : List Int) (k : Nat) : List Int := (List.range k).map fun i => splitD t ws (i + 1) - splitD t ws i
def splitK (t : Int) (ws : List Int) : Bool := inB t 0 100000000 && (decide (ws.length ≤ 64) && allB ws 0 1000)
def splitC (t : Int) (ws : List Int) : Int := if splitK t ws = true then (if ws.sum = 0 then 6 else 0) else 2
def splitR (t : Int) (ws : List Int) (n : Nat) : List Int := if splitC t ws = 0 then splitL t ws n else []
theorem divN_zero (b : Int) (h : 1 ≤ b) : divN 0 b = 0 := by
  rw [divN_pos 0 b (Int.le_refl _) h]
  simp
  omega
theorem splitD_zero {t : Int} {ws : List Int} (h : 1 ≤ ws.sum) : splitD t ws 0 = 0 := by
  unfold splitD
  simp only [List.take_zero, List.sum_nil, Int.mul_zero]
  exact divN_zero _ h
theorem splitL_len (t : Int) (ws : List Int) (k : Nat) : (splitL t ws k).length = k := by simp [splitL]
theorem splitL_at {t : Int} {ws : List Int} {k i : Nat} (h : i < k) : (splitL t ws k)[i]? = some (splitD t ws (i + 1) - splitD t ws i) := by simp [splitL, h]
theorem splitL_succ (t : Int) (ws : List Int) (k : Nat) : splitL t ws (k + 1) = splitL t ws k ++ [splitD t ws (k + 1) - splitD t ws k] := by simp [splitL, List.range_succ]
theorem split_sum {ws : List Int} (h : allB ws 0 1000 = true) (hl : ws.length ≤ 64) (j : Nat) : 0 ≤ (ws.take j).sum ∧ (ws.take j).sum ≤ 64000 := by
  rcases Nat.lt_or_ge 64 j with h1 | h1
  · rw [List.take_of_length_le (by omega), ← List.take_of_length_le (l := ws) (i := 64) hl]
    have := sum_take (xs := ws) (m := 1000) (by omega) (k := 64) (Nat.le_refl _) (fun x hx => allB_mem h x (List.mem_of_mem_take hx))
    omega
  · have := sum_take (xs := ws) (m := 1000) (by omega) (k := j) h1 (fun x hx => allB_mem h x (List.mem_of_mem_take hx))
    omega
theorem split_bd {t : Int} {ws : List Int} (h : splitK t ws = true) (hs : ¬ ws.sum = 0) : 1 ≤ ws.sum ∧ ws.sum ≤ 64000 ∧ ∀ j, (0 ≤ t * (ws.take j).sum ∧ t * (ws.take j).sum ≤ 6400000000000) ∧ 0 ≤ splitD t ws j ∧ splitD t ws j ≤ 6400000000001 := by
  unfold splitK at h
  simp only [Bool.and_eq_true, decide_eq_true_eq] at h
  obtain ⟨h1, h2, h3⟩ := h
  have ht := inB_iff.1 h1
  have e := split_sum h3 h2 64
  rw [List.take_of_length_le h2] at e
  refine ⟨by omega, e.2, fun j => ?_⟩
  have e2 := split_sum h3 h2 j
  have m1 := Int.mul_nonneg ht.1 e2.1
  have m2 : t * (ws.take j).sum ≤ 100000000 * 64000 := Int.mul_le_mul ht.2 e2.2 e2.1 (by omega)
  have := divN_le (t * (ws.take j).sum) ws.sum m1 (by omega)
  unfold splitD
  omega
theorem splitR_ok (t : Int) (ws : List Int) {n : Nat} (hl : ws.length = n) : (∀ y ∈ splitR t ws n, -9223372036854775808 ≤ y ∧ y ≤ 9223372036854775807) ∧ (splitR t ws n).length ≤ 1048576 := by
  unfold splitR
  split
  · rename_i h
    unfold splitC at h
    by_cases hk : splitK t ws = true
    · rw [if_pos hk] at h
      by_cases hs : ws.sum = 0
      · rw [if_pos hs] at h; omega
      · obtain ⟨_, _, hb⟩ := split_bd hk hs
        refine ⟨fun y hy => ?_, ?_⟩
        · simp [splitL] at hy
          obtain ⟨i, _, rfl⟩ := hy
          have a := hb i
          have b := hb (i + 1)
          omega
        · rw [splitL_len]
          unfold splitK at hk
          simp only [Bool.and_eq_true, decide_eq_true_eq] at hk
          omega
    · rw [if_neg hk] at h; omega
  · simp
set_option maxRecDepth 100000 in
set_option maxHeartbeats 1600000 in
theorem SplitTonnes_i (t : Int) (A : Option Addr) (n c : Nat) (ws : List Int) (w : World) (h : Ints w A n ws) :
    Calls Try.prog 36 #[.int .i64 t, .slice A n c] w fun e w' => ResI 2 w (splitR t ws n) (splitC t ws) e w' := by
  have HL := Lib.hid h.1
  have hmx := h.2.1
  cases h1 : inB t 0 100000000
  · have HE := Lib.hid (show splitR t ws n = [] ∧ splitC t ws = 2 by simp [splitR, splitC, splitK, h1])
    rw [HE.out.1, HE.out.2]
    go_enter Try.func36, Try.ntmps36
    go_wp2_with ((go_at_call 64; refine (tonnesOk_any _ _).mono ?_; rintro e w' ⟨rfl, rfl⟩))
    go_ret2
    exact ResI.nil (Below.refl _ _)
  · by_cases h64 : n ≤ 64
    · cases h3 : allB ws 0 1000
      · have HE := Lib.hid (show splitR t ws n = [] ∧ splitC t ws = 2 by simp [splitR, splitC, splitK, h3])
        rw [HE.out.1, HE.out.2]
        have H3 := Lib.hid h3
        clear h3
        go_enter Try.func36, Try.ntmps36
        go_wp2_with ((go_at_call 64; refine (tonnesOk_any _ _).mono ?_; rintro e w' ⟨rfl, rfl⟩))
        refine (allWithin_any _ _ _ _ _ ws _ h).mono ?_
        rintro e w1 ⟨rfl, hb1⟩
        rw [H3.out]
        go_wp2_with fail
        go_ret2
        exact ResI.nil hb1
      · have HK := Lib.hid (show splitK t ws = true by simp only [splitK, h1, h3, HL.out]; simp [h64])
        have HM := Lib.hid (allB_mem h3)
        have H3 := Lib.hid h3
        clear h3
        by_cases hs : ws.sum = 0
        · have HE := Lib.hid (show splitR t ws n = [] ∧ splitC t ws = 6 by simp [splitR, splitC, HK.out, hs])
          rw [HE.out.1, HE.out.2]
          have HS := Lib.hid hs
          clear hs
          go_enter Try.func36, Try.ntmps36
          go_wp2_with ((go_at_call 64; refine (tonnesOk_any _ _).mono ?_; rintro e w' ⟨rfl, rfl⟩))
          refine (allWithin_any _ _ _ _ _ ws _ h).mono ?_
          rintro e w1 ⟨rfl, hb1⟩
          rw [H3.out]
          have hh := h.below hb1
          have HB := Lib.hid hb1
          clear hb1
          go_wp2_with fail
          refine (sumOf_any _ _ _ 1000 ws _ hh h64 (by omega) (by omega) HM.out).mono ?_
          rintro e w2 ⟨rfl, q2, rfl⟩
          rw [HS.out]
          go_wp2_with fail
          go_ret2
          exact ResI.nil (below_drewN HB.out _)
        · have HE := Lib.hid (show splitR t ws n = splitL t ws n ∧ splitC t ws = 0 by simp [splitR, splitC, HK.out, hs])
          rw [HE.out.1, HE.out.2]
          obtain ⟨b1, b2, b3⟩ := split_bd HK.out hs
          have HBD := Lib.hid (And.intro b3 (splitD_zero (t := t) b1))
          obtain ⟨T, hT⟩ : ∃ T, T = ws.sum := ⟨_, rfl⟩
          have HTT := Lib.hid hT
          rw [← hT] at b1 b2
          have hTe : (T == 0) = false := beq_eq_false_iff_ne.2 (by omega)
          clear b3 hs hT
          have hmk := fun W => run_make_row' (P := Try.prog) 22 2 (.int .i64 0) 8 Try.underlying22 info_int rfl .i64 .i64 n (by omega) (by omega) W
          go_enter Try.func36, Try.ntmps36
          go_wp2_with ((go_at_call 64; refine (tonnesOk_any _ _).mono ?_; rintro e w' ⟨rfl, rfl⟩))
          refine (allWithin_any _ _ _ _ _ ws _ h).mono ?_
          rintro e w1 ⟨rfl, hb1⟩
          rw [H3.out]
          have hh := h.below hb1
          have HB := Lib.hid hb1
          clear hb1
          go_wp2_with fail
          refine (sumOf_any _ _ _ 1000 ws _ hh h64 (by omega) (by omega) HM.out).mono ?_
          rintro e w2 ⟨rfl, q2, rfl⟩
          rw [← HTT.out]
          go_wp2_with fail
          clear hmk
          have hbm := (below_drewN HB.out q2).alloc HB.out.size (.cells (madeCells #[.int .i64 0] n) 2)
          have hi0 := (hh.drewN q2).below ((Below.refl (w1.drewN q2).heap.size (w1.drewN q2)).alloc (Nat.le_refl _) (.cells (madeCells #[.int .i64 0] n) 2))
          clear hh
          go_loopw [8, 9, 34] (fun g wt i wr => ∃ k : Nat, k ≤ n ∧ i = .int .i64 k ∧ g = .int .i64 (splitD t ws k) ∧ wt = .int .i64 (ws.take k).sum ∧ wr.rowIs w1.heap.size 2 n (fun j => .int .i64 (if j < k then splitD t ws (j + 1) - splitD t ws j else 0)) ∧ Below w.heap.size w wr ∧ Ints wr A n ws) (fun _ _ i _ => n - (intOf i).toNat)
          case atStart => exact ⟨0, Nat.zero_le _, rfl, by rw [HBD.out.2], by simp, (World.rowIs_made _ _ _ _).congr (fun _ _ => by simp), hbm, hi0⟩
          case round =>
            clear hbm hi0
            obtain ⟨k, hk, rfl, rfl, rfl, hrow, hbl, hi⟩ := hrel
            by_cases hlt : k < n
            · have HO := Lib.hid (And.intro hbl (And.intro hi h))
              obtain ⟨b, off, x, rfl, HX, hc, hx1, hx2⟩ := hi.at_ hlt
              have hb := (HBD.out.1 k).2
              have hb' := HBD.out.1 (k + 1)
              have hW0 := split_sum H3.out (by rw [HL.out]; exact h64) k
              have HSN := Lib.hid (sum_snoc HX.out)
              have hD' : splitD t ws (k + 1) = divN (t * ((ws.take k).sum + x)) T := by unfold splitD; rw [HSN.out, HTT.out]
              rw [hD', HSN.out] at hb'
              obtain ⟨W, hW⟩ : ∃ W, W = (ws.take k).sum := ⟨_, rfl⟩
              obtain ⟨D, hD⟩ : ∃ D, D = splitD t ws k := ⟨_, rfl⟩
              rw [← hW] at hb' hD' hW0 ⊢
              rw [← hD] at hb ⊢
              have HVV := Lib.hid (And.intro hW (And.intro hD hD'))
              have hxr := HM.out x (List.mem_of_getElem? HX.out)
              have hw1 : IntKind.i64.wrap (t * (W + x)) = t * (W + x) := IntWalk.i64_in _ (by omega)
              have hki : (k : Int) < (n : Int) := by omega
              have HRW := Lib.hid hrow
              clear hW hD hD' hrow hbl hi h
              go_wp2_with fail
              refine (divRound_any _ _ _ (by omega) (by omega) (by omega) (by omega)).mono ?_
              rintro e w2 ⟨rfl, nd, rfl⟩
              have hrow2 := rowIs_drewN HRW.out nd
              have hc0 := hrow2.cell hlt
              have hf0 := hrow2.frozen k
              obtain ⟨E, hE⟩ : ∃ E, E = divN (t * (W + x)) T := ⟨_, rfl⟩
              rw [← hE] at hb' ⊢
              have HEE := Lib.hid hE
              clear hE
              have HR := Lib.hid ((hrow2.set k (.int .i64 (E - D))).congr (g := fun j => .int .i64 (if j < k + 1 then splitD t ws (j + 1) - splitD t ws j else 0)) (fun j hj => by
                by_cases e : j = k
                · subst e; rw [if_pos rfl, if_pos (by omega), HVV.out.2.2, ← HEE.out, ← HVV.out.2.1]
                · by_cases e2 : j < k
                  · rw [if_neg e, if_pos e2, if_pos (by omega)]
                  · rw [if_neg e, if_neg e2, if_neg (by omega)]))
              have hzz := HB.out.size
              have HS := Lib.hid (And.intro ((below_drewN HO.out.1 nd).setCell (p := ⟨w1.heap.size, k, none⟩) (by show _ ≤ w1.heap.size; omega) (.int .i64 (E - D))) ((HO.out.2.1.drewN nd).old (grown_setCell (World.grownBy.refl _ _) (g := w1.heap.size) (p := ⟨w1.heap.size, k, none⟩) rfl (.int .i64 (E - D))) HO.out.2.2 (fun g hg => by injection hg with hg; omega)))
              clear hrow2
              go_wp2_with fail
              go_roundw
              case rel => exact ⟨k + 1, by omega, by go_num, by rw [HVV.out.2.2, ← HEE.out]; exact congrArg _ (by omega), by rw [HSN.out, ← HVV.out.1], HR.out, HS.out.1, HS.out.2⟩
              case measure => simp [intOf]; omega
            · obtain rfl : k = n := by omega
              have hll := splitL_len t ws k
              have hzz := HB.out.size
              have HO := Lib.hid (rowIs_to_own (n := k) (cap := k) (size := 1) (base := w.heap.size) (xs := (splitL t ws k).map (.int .i64)) (by simpa using hrow) hzz (Nat.le_refl _) (by unfold maxLen; omega) (by simp [hll]) (fun j hj => by
                have hj' : j < k := by omega
                rw [List.getElem?_map, splitL_at hj', if_pos hj']
                rfl))
              have HF := Lib.hid (And.intro hll hbl)
              clear hrow hbl hi hlt hll hzz
              go_wp2_with fail
              go_ret2
              exact ⟨_, _, by rw [HF.out.1]; rfl, by rw [HF.out.1]; exact Fresh.of_own HO.out, HF.out.2⟩
    · have HE := Lib.hid (show splitR t ws n = [] ∧ splitC t ws = 2 by simp only [splitR, splitC, splitK, HL.out]; simp [h64])
      rw [HE.out.1, HE.out.2]
      go_enter Try.func36, Try.ntmps36
      go_wp2_with ((go_at_call 64; refine (tonnesOk_any _ _).mono ?_; rintro e w' ⟨rfl, rfl⟩))
      go_ret2
      exact ResI.nil (Below.refl _ _)
set_option maxRecDepth 100000 in
set_option maxHeartbeats 1600000 in
theorem SplitTonnes_s (t : Int) (A : Option Addr) (n c : Nat) (ws : List Int) (w : World) (h : Ints w A n ws) :
    Calls Try.prog 35 #[.int .i64 t, .slice A n c] w fun e w' => ResI 2 w (splitR t ws n) (splitC t ws) e w' := by
  have HL := Lib.hid h.1
  have hmx := h.2.1
  cases h1 : inB t 0 100000000
  · have HE := Lib.hid (show splitR t ws n = [] ∧ splitC t ws = 2 by simp [splitR, splitC, splitK, h1])
    rw [HE.out.1, HE.out.2]
    go_enter Try.func35, Try.ntmps35
    go_wp2_with ((go_at_call 60; refine (l12Tonnes_any _ _).mono ?_; rintro e w' ⟨rfl, rfl⟩))
    go_ret2
    exact ResI.nil (Below.refl _ _)
  · by_cases h64 : n ≤ 64
    · have H1 := Lib.hid h1
      have htb := inB_iff.1 h1
      clear h1
      go_enter Try.func35, Try.ntmps35
      go_wp2_with fail
      refine (l12Tonnes_any _ _).mono ?_
      rintro e w1 ⟨rfl, rfl⟩
      rw [H1.out]
      go_wp2_with fail
      go_loopw [6, 7] (fun t i wr => ∃ k q : Nat, k ≤ n ∧ i = .int .i64 k ∧ wr = w.drewN q ∧ t = .int .i64 (ws.take k).sum ∧ Hid (∀ (j : Nat) (x : Int), j < k → ws[j]? = some x → inB x 0 1000 = true)) (fun _ i _ => n - (intOf i).toNat)
      case atStart => exact ⟨0, 0, Nat.zero_le _, rfl, rfl, by simp, fun j x hj => absurd hj (by omega)⟩
      case round =>
        obtain ⟨k, q, hk, rfl, rfl, rfl, HK⟩ := hrel
        have hb := sum_take (m := 1000) (by omega) (show k ≤ 64 by omega) (take_bd HK.out)
        obtain ⟨T, hT⟩ : ∃ T, T = (ws.take k).sum := ⟨_, rfl⟩
        rw [← hT] at hb ⊢
        have HT := Lib.hid hT
        clear hT
        by_cases hlt : k < n
        · obtain ⟨b, off, x, rfl, HX, hc, hx1, hx2⟩ := h.at_ hlt
          cases hbx : inB x 0 1000
          · have HE := Lib.hid (show splitR t ws n = [] ∧ splitC t ws = 2 by
              have e := allB_no HX.out hbx
              simp [splitR, splitC, splitK, e])
            go_wp2_with ((go_at_call 71; refine (l00In_any _ _ _ _).mono ?_; rintro e w' ⟨rfl, rfl⟩))
            go_ret2
            rw [HE.out.1, HE.out.2]
            exact ResI.nil (below_drewN (Below.refl _ _) _)
          · have HB := Lib.hid hbx
            have hxx := inB_iff.1 hbx
            have HS := Lib.hid (sum_snoc HX.out)
            go_wp2_with ((go_at_call 71; refine (l00In_any _ _ _ _).mono ?_; rintro e w' ⟨rfl, rfl⟩))
            go_roundw
            case rel => exact ⟨k + 1, _, by omega, by go_num, rfl, by rw [HS.out, ← HT.out], fun j y hj hy => by
              by_cases e : j = k
              · subst e
                have := HX.out.symm.trans hy
                injection this with e2
                subst e2
                exact HB.out
              · exact HK.out j y (by omega) hy⟩
            case measure => simp [intOf]; omega
        · obtain rfl : k = n := by omega
          clear hlt
          have HTT := Lib.hid (show T = ws.sum by rw [HT.out, List.take_of_length_le (by rw [HL.out]; omega)])
          have hA := allB_all (xs := ws) (fun j x hj hx => HK.out j x (by rw [← HL.out]; exact hj) hx)
          have HKK := Lib.hid (show splitK t ws = true by simp only [splitK, H1.out, hA, HL.out]; simp [h64])
          have HM := Lib.hid (allB_mem hA)
          have H3 := Lib.hid hA
          clear hA HK
          by_cases hs : T = 0
          · have HE := Lib.hid (show splitR t ws k = [] ∧ splitC t ws = 6 by rw [HTT.out] at hs; simp [splitR, splitC, HKK.out, hs])
            go_wp2_with fail
            go_ret2
            rw [HE.out.1, HE.out.2]
            exact ResI.nil (below_drewN (Below.refl _ _) _)
          · have HE := Lib.hid (show splitR t ws k = splitL t ws k ∧ splitC t ws = 0 by rw [HTT.out] at hs; simp [splitR, splitC, HKK.out, hs])
            obtain ⟨b1, b2, b3⟩ := split_bd HKK.out (show ¬ ws.sum = 0 by rw [← HTT.out]; exact hs)
            rw [← HTT.out] at b1 b2
            have HBD := Lib.hid (And.intro b3 (splitD_zero (t := t) (show 1 ≤ ws.sum by rw [← HTT.out]; exact b1)))
            have hTe : (T == 0) = false := beq_eq_false_iff_ne.2 (by omega)
            have HH := Lib.hid h
            obtain ⟨n, hn⟩ : ∃ n, n = k := ⟨_, rfl⟩
            subst hn
            clear b3 hs hb h
            go_wp2_with fail
            have hown0 := World.ownsRow_lit (base := w.heap.size) (e := 2) (size := 1) (w.drewN q) #[] 0 (Nat.le_refl _) (by simp) rfl
            have hb0 := (below_drewN (Below.refl w.heap.size w) q).alloc (Nat.le_refl _) (.cells #[] 2)
            go_loopw [8, 9, 10, 11] (fun o s l i wr => ∃ j : Nat, j ≤ n ∧ i = .int .i64 j ∧ s = .int .i64 (ws.take j).sum ∧ l = .int .i64 (splitD t ws j) ∧ Below w.heap.size w wr ∧ wr.ownsRow w.heap.size 2 1 o j ((splitL t ws j).map (.int .i64))) (fun _ _ _ i _ => n - (intOf i).toNat)
            case atStart => exact ⟨0, Nat.zero_le _, rfl, by simp, by rw [HBD.out.2], hb0, hown0⟩
            case round =>
              clear hown0 hb0
              obtain ⟨k, hk, rfl, rfl, rfl, hbl, hown⟩ := hrel
              obtain ⟨A', c', rfl, _⟩ := own_form hown
              have HO := Lib.hid (And.intro hbl hown)
              by_cases hlt : k < n
              · obtain ⟨b, off, x, rfl, HX, hc, hx1, hx2⟩ := (HH.out.below hbl).at_ hlt
                have hb := (HBD.out.1 k).2
                have hb' := HBD.out.1 (k + 1)
                have hW0 := split_sum H3.out (by rw [HL.out]; exact h64) k
                have HSN := Lib.hid (sum_snoc HX.out)
                have hD' : splitD t ws (k + 1) = divN (t * ((ws.take k).sum + x)) T := by unfold splitD; rw [HSN.out, HTT.out]
                rw [hD', HSN.out] at hb'
                obtain ⟨W, hW⟩ : ∃ W, W = (ws.take k).sum := ⟨_, rfl⟩
                obtain ⟨D, hD⟩ : ∃ D, D = splitD t ws k := ⟨_, rfl⟩
                rw [← hW] at hb' hD' hW0 ⊢
                rw [← hD] at hb ⊢
                have HVV := Lib.hid (And.intro hW (And.intro hD hD'))
                have hxr := HM.out x (List.mem_of_getElem? HX.out)
                have hw1 : IntKind.i64.wrap (t * (W + x)) = t * (W + x) := IntWalk.i64_in _ (by omega)
                have hki : (k : Int) < (n : Int) := by omega
                clear hW hD hD' hown hbl
                go_wp2_with fail
                refine (l01Div_any _ _ _ (by omega) (by omega) (by omega) (by omega)).mono ?_
                rintro e w2 ⟨rfl, hw2⟩
                have HO2 := Lib.hid (And.intro (show Below w.heap.size w w2 from by rw [← hw2]; first | exact HO.out.1 | exact below_drewN HO.out.1 _) (show w2.ownsRow w.heap.size 2 1 (.slice A' k c') k ((splitL t ws k).map (.int .i64)) from by rw [← hw2]; first | exact HO.out.2 | exact own_drewN HO.out.2 _))
                clear hw2
                obtain ⟨E, hE⟩ : ∃ E, E = divN (t * (W + x)) T := ⟨_, rfl⟩
                rw [← hE] at hb' ⊢
                have HEE := Lib.hid hE
                clear hE hc
                go_wp2_with (at_builtin; refine wp_app_int rfl (.tmp 59) (.tmp 63) 22 rfl w.heap.size 2 Try.underlying22 info_int _ _ (splitL t ws k) _ rfl HO2.out.2 rfl (by omega) HO2.out.1.size ?_; intro v' w3 hown3 hgrow3 hv3)
                obtain ⟨g, cc, rfl⟩ := hv3
                have HF := Lib.hid (And.intro (HO2.out.1.grown hgrow3 HO2.out.1.size (own_blk HO2.out.2)) hown3)
                clear hown3 hgrow3
                go_wp2_with fail
                go_roundw
                case rel => exact ⟨k + 1, by omega, by go_num, by rw [HSN.out, ← HVV.out.1], by rw [HVV.out.2.2, ← HEE.out], HF.out.1, by rw [splitL_succ, HVV.out.2.2, ← HEE.out, ← HVV.out.2.1]; exact HF.out.2⟩
                case measure => simp [intOf]; omega
              · obtain rfl : k = n := by omega
                clear hlt hown hbl
                go_wp2_with fail
                go_ret2
                rw [HE.out.1, HE.out.2]
                have hll := splitL_len t ws k
                exact ⟨A', c', by rw [hll]; rfl, by rw [hll]; exact Fresh.of_own HO.out.2, HO.out.1⟩
    · have HE := Lib.hid (show splitR t ws n = [] ∧ splitC t ws = 2 by simp only [splitR, splitC, splitK, HL.out]; simp [h64])
      rw [HE.out.1, HE.out.2]
      go_enter Try.func35, Try.ntmps35
      go_wp2_with ((go_at_call 60; refine (l12Tonnes_any _ _).mono ?_; rintro e w' ⟨rfl, rfl⟩))
      go_ret2
      exact ResI.nil (Below.refl _ _)
end Go.Proofs.Ytbakmcjngadebaa
