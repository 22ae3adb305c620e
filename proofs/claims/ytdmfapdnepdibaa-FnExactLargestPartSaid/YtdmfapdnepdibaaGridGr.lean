/-
  Cells that grow, the program's.
-/
import Derived.Test.YtdmfapdnepdibaaGridJ
import Derived.Test.YtdmfapdnepdibaaGridK
namespace Go.Proofs.Ytdmfapdnepdibaa
open Go.ChangeShapes Go.WideShapes Go.ChangeAt Go.RowKit Go.Deep
set_option linter.unusedVariables false

def growC (R C S : Int) (hs xs : List Int) (most : Int) : Int := if gridOk R C S hs = true then (if inB most 0 5000 = true then (if risesB xs 0 (R * C - 1) = true then 0 else 7) else 2) else 1
theorem grow_len {R C S most : Int} {hs xs : List Int} {n : Nat} (hl : hs.length = n) (h : growC R C S hs xs most = 0) : n ≤ 64 := by
  unfold growC at h
  cases hv : gridOk R C S hs
  · rw [hv] at h; simp at h
  · obtain ⟨⟨r1, r2⟩, ⟨c1, c2⟩, _, hn, _⟩ := gridOk_iff.1 hv
    have := mul64 r1 r2 c1 c2
    rw [hl] at hn
    omega
set_option maxRecDepth 100000 in
set_option maxHeartbeats 800000 in
theorem grow_cc (R C S : Int) (A : Option Addr) (n c : Nat) (k a pa pg pc pm : Nat) (B : Option Addr) (m d : Nat) (most : Int) (hs xs : List Int) (w : World) (hp : w.cell? ⟨pa, 0, none⟩ = some (.slice B m d)) (hgb : BoxG w pg R C S A n c) (hc : w.cell? ⟨pc, 0, none⟩ = some (.int .i64 k)) (hq : w.cell? ⟨pm, 0, none⟩ = some (.int .i64 most)) (h : Ints w A n hs) (h' : Ints w B m xs) (hv : gridOk R C S hs = true) (hk : k < n) (ha : a < 8) (hok : nbOk R C k a = true) :
    Calls Try.prog 54 #[stepV C S hs k a, .pointer (some ⟨pa, 0, none⟩), .pointer (some ⟨pg, 0, none⟩), .pointer (some ⟨pc, 0, none⟩), .pointer (some ⟨pm, 0, none⟩)] w fun e w' => e = .returned (.bool (growQ C hs xs most k a)) ∧ Below w.heap.size w w' := by
  have hl := h.1
  obtain ⟨_, ⟨c1, c2⟩, _, hn, hall⟩ := gridOk_iff.1 hv
  obtain ⟨M, hM⟩ : ∃ M : Nat, nbAt C k a = (M : Int) := ⟨(nbAt C k a).toNat, by have := nb_bd hok c1; omega⟩
  have hMn : M < n := by
    have h1 := nb_bd hok c1
    rw [hM, ← hn, hl] at h1
    omega
  obtain ⟨b, off, xk, rfl, HXk, hck, _⟩ := h.at_ hk
  obtain ⟨b', off', xM, hA', HXM, hcM, _⟩ := h.at_ hMn
  injection hA' with hA'
  injection hA' with hb' ho' _
  subst hb' ho'
  have bk := allB_iff.1 hall _ _ HXk.out
  have bM := allB_iff.1 hall _ _ HXM.out
  obtain ⟨F, hF⟩ : ∃ F, F = fallAt C S hs k a := ⟨_, rfl⟩
  have HE := Lib.hid (show growQ C hs xs most k a = (hasB xs (M : Int) && decide (absI (xM - xk) ≤ most)) by unfold growQ nearly; rw [hM, hg_eq HXk.out, hg_eq HXM.out])
  have HS := Lib.hid (show stepV C S hs k a = .agg #[.int .i64 (M : Int), .int .i64 a, .int .i64 F] by unfold stepV; rw [hM, hF])
  rw [HS.out]
  have HX := Lib.hid (h'.below ((Below.refl _ _).alloc (Nat.le_refl _) (.cells #[.int .i64 (M : Int), .int .i64 a, .int .i64 F] 67)))
  obtain ⟨p0, p1, p2, p3⟩ := hgb
  have hkI : (k : Int) < (n : Int) := by omega
  have hMI : (M : Int) < (n : Int) := by omega
  have z1 := cell_lt p0
  have z2 := cell_lt hc
  have z3 := cell_lt hck
  have z4 := cell_lt hp
  have z5 := cell_lt hq
  have HA := Lib.hid (And.intro hM (And.intro hF (And.intro hn hall)))
  clear hM hF hn hall hv hok hl h h'
  have hcon : ∀ j, Calls Try.prog 50 #[.slice B m d, .int .i64 (M : Int)] ((w.alloc (.cells #[.int .i64 (M : Int), .int .i64 a, .int .i64 F] 67)).drewN j) fun e w' => e = .returned (.bool (hasB xs (M : Int))) ∧ ∃ q, w' = ((w.alloc (.cells #[.int .i64 (M : Int), .int .i64 a, .int .i64 F] 67)).drewN j).drewN q :=
    fun j => contains_any _ _ _ _ xs _ (HX.out.drewN j)
  have hw1 : IntKind.i64.wrap (xM - xk) = xM - xk := IntWalk.i64_in _ (by omega)
  cases hh : hasB xs (M : Int)
  all_goals
    rw [hh] at hcon
    have HC := Lib.hid hcon
    have HY := Lib.hid hh
    clear hh hcon
    go_enter Try.func54, Try.ntmps54
    go_wp2_with fail
    go_quiet ((first | (go_at_call 50; exact Calls.quiet_of (HC.out _)) | (go_at_call 55; exact quiet_left (abs_any _ _ (by omega) (by omega)))))
    clear hw1
    go_wp2_with fail
    go_ret
    exact ⟨ret_bool (by rw [HE.out, HY.out]; first | rfl | simp), below_drewN ((Below.refl _ _).alloc (Nat.le_refl _) _) _⟩
set_option maxRecDepth 100000 in
set_option maxHeartbeats 800000 in
theorem grow_c (R C S : Int) (A : Option Addr) (n c : Nat) (k pa pg pm : Nat) (B : Option Addr) (m d : Nat) (most : Int) (hs xs : List Int) (w : World) (hp : w.cell? ⟨pa, 0, none⟩ = some (.slice B m d)) (hgb : BoxG w pg R C S A n c) (hq : w.cell? ⟨pm, 0, none⟩ = some (.int .i64 most)) (h : GridA w R C S A n hs) (h' : Ints w B m xs) (hv : gridOk R C S hs = true) (hk : k < n) :
    Calls Try.prog 53 #[.int .i64 k, .pointer (some ⟨pa, 0, none⟩), .pointer (some ⟨pg, 0, none⟩), .pointer (some ⟨pm, 0, none⟩)] w fun e w' => e = .returned (.bool (growP R C hs xs most k)) ∧ Below w.heap.size w w' := by
  have B0 := (Below.refl w.heap.size w).alloc (Nat.le_refl _) (.cells #[.int .i64 k] 2)
  have HI := Lib.hid (And.intro (h.below B0) (And.intro B0 (And.intro (hgb.below B0) (And.intro (show (w.alloc (.cells #[.int .i64 k] 2)).cell? ⟨w.heap.size, 0, none⟩ = some (.int .i64 k) by go_simp) (And.intro (cell_kept B0 hp) (And.intro (cell_kept B0 hq) (h'.below B0)))))))
  have HV := Lib.hid hv
  obtain ⟨p0, p1, p2, p3⟩ := hgb
  have zp := cell_lt p0
  have zq := cell_lt hp
  have zr := cell_lt hq
  clear h hv B0 h'
  cases hh : hasB xs (k : Int)
  · have HY := Lib.hid hh
    have HE := Lib.hid (show growP R C hs xs most k = (dirs R C (k : Int)).any (growQ C hs xs most k) by simp [growP, hh])
    clear hh
    go_enter Try.func53, Try.ntmps53
    go_wp2_with fail
    refine (contains_any _ _ _ _ xs _ HI.out.2.2.2.2.2.2).mono ?_
    rintro e w1 ⟨rfl, q1, rfl⟩
    rw [HY.out]
    go_wp2_with fail
    refine (next_any R C S A n c k hs _ (HI.out.1.below (below_drewN (Below.refl _ _) q1)) HV.out hk).mono ?_
    rintro e w2 ⟨A', c', rfl, ho1, hb1⟩
    have BQ := below_drewN (Below.refl (w.alloc (.cells #[.int .i64 (k : Int)] 2)).heap.size (w.alloc (.cells #[.int .i64 (k : Int)] 2))) q1
    have hb2 := BQ.trans (hb1.mono BQ.size)
    have HB := Lib.hid (And.intro (HI.out.2.1.trans (hb2.mono HI.out.2.1.size)) (And.intro (StepsAt.of_own ho1) (And.intro (HI.out.2.2.1.below hb2) (And.intro (cell_kept hb2 HI.out.2.2.2.1) (And.intro (HI.out.1.1.below hb2) (And.intro (cell_kept hb2 HI.out.2.2.2.2.1) (And.intro (cell_kept hb2 HI.out.2.2.2.2.2.1) (HI.out.2.2.2.2.2.2.below hb2))))))))
    have hdl := dirs_len R C k
    clear ho1 hb1 hb2 BQ p0 p1 p2 p3
    go_wp2_with fail
    refine (containsFunc_steps _ C S hs k (dirs R C k) _ _ 54 _ (growQ C hs xs most k) _ rfl hdl (enters_of Try.func54 (by kernel_rfl) rfl) HB.out.2.1 ?_).mono ?_
    · intro j a W hj hW
      have hm := mem_dirs.1 (List.mem_of_getElem? hj)
      exact grow_cc R C S A n c k a _ _ _ _ B m d most hs xs W (cell_kept hW HB.out.2.2.2.2.2.1) (HB.out.2.2.1.below hW) (cell_kept hW HB.out.2.2.2.1) (cell_kept hW HB.out.2.2.2.2.2.2.1) (HB.out.2.2.2.2.1.below hW) (HB.out.2.2.2.2.2.2.2.below hW) HV.out hk hm.1 hm.2
    rintro e w3 ⟨rfl, hb3⟩
    have HB3 := Lib.hid (HB.out.1.trans (hb3.mono HB.out.1.size))
    clear hb3
    go_wp2_with fail
    go_ret
    exact ⟨ret_bool (by rw [HE.out]), HB3.out⟩
  · have HY := Lib.hid hh
    have HE := Lib.hid (show growP R C hs xs most k = true by simp [growP, hh])
    clear hh
    go_enter Try.func53, Try.ntmps53
    go_wp2_with fail
    refine (contains_any _ _ _ _ xs _ HI.out.2.2.2.2.2.2).mono ?_
    rintro e w1 ⟨rfl, q1, rfl⟩
    rw [HY.out]
    go_wp2_with fail
    go_ret
    exact ⟨ret_bool (by rw [HE.out]), below_drewN HI.out.2.1 _⟩
set_option maxRecDepth 100000 in
set_option maxHeartbeats 1600000 in
theorem GrowCells_i (R C S : Int) (A : Option Addr) (n c : Nat) (B : Option Addr) (m d : Nat) (most : Int) (hs xs : List Int) (w : World) (h : GridA w R C S A n hs) (h' : Ints w B m xs) :
    Calls Try.prog 12 #[.agg #[.int .i64 R, .int .i64 C, .int .i64 S, .slice A n c], .slice B m d, .int .i64 most] w fun e w' => ResI 2 w (cellsR (growC R C S hs xs most) n (growP R C hs xs most)) (growC R C S hs xs most) e w' := by
  have hl := h.1.1
  have B1 := (Below.refl w.heap.size w).alloc (Nat.le_refl _) (.cells #[.int .i64 R, .int .i64 C, .int .i64 S, .slice A n c] 26)
  have B2 := (Below.refl _ (w.alloc (.cells #[.int .i64 R, .int .i64 C, .int .i64 S, .slice A n c] 26))).alloc (Nat.le_refl _) (.cells #[.slice B m d] 24)
  have B3 := (Below.refl _ ((w.alloc (.cells #[.int .i64 R, .int .i64 C, .int .i64 S, .slice A n c] 26)).alloc (.cells #[.slice B m d] 24))).alloc (Nat.le_refl _) (.cells #[.int .i64 most] 2)
  have HI := Lib.hid (And.intro (((h.below B1).below B2).below B3) (And.intro (((h'.below B1).below B2).below B3) (And.intro ((B1.trans (B2.mono B1.size)).trans (B3.mono (B1.trans (B2.mono B1.size)).size)) (And.intro (((boxG_of w R C S A n c 26).below B2).below B3) (show (((w.alloc (.cells #[.int .i64 R, .int .i64 C, .int .i64 S, .slice A n c] 26)).alloc (.cells #[.slice B m d] 24)).alloc (.cells #[.int .i64 most] 2)).cell? ⟨w.heap.size + 1, 0, none⟩ = some (.slice B m d) ∧ (((w.alloc (.cells #[.int .i64 R, .int .i64 C, .int .i64 S, .slice A n c] 26)).alloc (.cells #[.slice B m d] 24)).alloc (.cells #[.int .i64 most] 2)).cell? ⟨w.heap.size + 1 + 1, 0, none⟩ = some (.int .i64 most) from ⟨by go_simp, by go_simp⟩)))))
  clear h h' B1 B2 B3
  cases hv : gridOk R C S hs
  · have HE := Lib.hid (show growC R C S hs xs most = 1 by simp [growC, hv])
    have HK := Lib.hid (show cellsC R C S hs xs = 1 by simp [cellsC, hv])
    rw [HE.out, cellsR_no (by omega)]
    clear hv hl
    go_enter Try.func12, Try.ntmps12
    go_wp2_with fail
    refine (cellsCode_any _ _ _ _ _ _ _ _ _ hs xs _ HI.out.1 HI.out.2.1).mono ?_
    rintro e w1 ⟨rfl, hb1⟩
    rw [HK.out]
    have HB := Lib.hid (HI.out.2.2.1.trans (hb1.mono (HI.out.2.2.1).size))
    clear hb1
    go_wp2_with fail
    go_ret2
    exact ResI.nil HB.out
  · have HX := Lib.hid hv
    cases h1 : inB most 0 5000
    · have HE := Lib.hid (show growC R C S hs xs most = 2 by simp [growC, hv, h1])
      have hK : cellsC R C S hs xs = 0 ∨ cellsC R C S hs xs = 7 := by
        unfold cellsC
        rw [hv, if_pos rfl]
        split <;> simp
      rw [HE.out, cellsR_no (by omega)]
      clear hv hl
      rcases hK with hK | hK
      all_goals
        have HK := Lib.hid hK
        clear hK
        go_enter Try.func12, Try.ntmps12
        go_wp2_with fail
        refine (cellsCode_any _ _ _ _ _ _ _ _ _ hs xs _ HI.out.1 HI.out.2.1).mono ?_
        rintro e w1 ⟨rfl, hb1⟩
        rw [HK.out]
        have q1 := cell_kept hb1 HI.out.2.2.2.2.2
        have HB := Lib.hid (HI.out.2.2.1.trans (hb1.mono (HI.out.2.2.1).size))
        clear hb1
        go_wp2_with ((go_at_call 51; refine (within_any _ _ _ _).mono ?_; rintro e w' ⟨rfl, rfl⟩))
        go_ret2
        exact ResI.nil HB.out
    · cases h2 : risesB xs 0 (R * C - 1)
      · have HE := Lib.hid (show growC R C S hs xs most = 7 by simp [growC, hv, h1, h2])
        have HK := Lib.hid (show cellsC R C S hs xs = 7 by simp [cellsC, hv, h2])
        rw [HE.out, cellsR_no (by omega)]
        clear hv hl
        go_enter Try.func12, Try.ntmps12
        go_wp2_with fail
        refine (cellsCode_any _ _ _ _ _ _ _ _ _ hs xs _ HI.out.1 HI.out.2.1).mono ?_
        rintro e w1 ⟨rfl, hb1⟩
        rw [HK.out]
        have q1 := cell_kept hb1 HI.out.2.2.2.2.2
        have HB := Lib.hid (HI.out.2.2.1.trans (hb1.mono (HI.out.2.2.1).size))
        clear hb1
        go_wp2_with ((go_at_call 51; refine (within_any _ _ _ _).mono ?_; rintro e w' ⟨rfl, rfl⟩))
        go_ret2
        exact ResI.nil HB.out
      · have HE := Lib.hid (show growC R C S hs xs most = 0 by simp [growC, hv, h1, h2])
        have HK := Lib.hid (show cellsC R C S hs xs = 0 by simp [cellsC, hv, h2])
        have h64 := grow_len hl HE.out
        rw [HE.out, cellsR_yes rfl]
        clear hv hl h2
        go_enter Try.func12, Try.ntmps12
        go_wp2_with fail
        refine (cellsCode_any _ _ _ _ _ _ _ _ _ hs xs _ HI.out.1 HI.out.2.1).mono ?_
        rintro e w1 ⟨rfl, hb1⟩
        rw [HK.out]
        have q1 := cell_kept hb1 HI.out.2.2.2.2.2
        have HB := Lib.hid (And.intro (HI.out.2.2.1.trans (hb1.mono (HI.out.2.2.1).size)) (And.intro (cell_kept hb1 HI.out.2.2.2.2.1) (And.intro q1 (And.intro (HI.out.2.1.below hb1) (And.intro (HI.out.2.2.2.1.below hb1) (HI.out.1.below hb1))))))
        obtain ⟨p0, p1, p2, p3⟩ := HI.out.2.2.2.1.below hb1
        clear hb1
        go_wp2_with ((go_at_call 51; refine (within_any _ _ _ _).mono ?_; rintro e w' ⟨rfl, rfl⟩))
        clear p0 p1 p2 p3
        refine (cellsWhere_any _ _ _ _ _ _ 53 _ (growP R C hs xs most) _ h64 (enters_of Try.func53 (by kernel_rfl) rfl) ?_).mono ?_
        · intro k W hk hW
          exact grow_c R C S A n c k _ _ _ B m d most hs xs W (cell_kept hW HB.out.2.1) (HB.out.2.2.2.2.1.below hW) (cell_kept hW HB.out.2.2.1) (HB.out.2.2.2.2.2.below hW) (HB.out.2.2.2.1.below hW) HX.out hk
        rintro e w2 ⟨A', c', rfl, hf, hb2⟩
        have HF := Lib.hid (And.intro hf (And.intro HB.out.1.size (HB.out.1.trans (hb2.mono HB.out.1.size))))
        clear hf hb2
        go_wp2_with fail
        go_ret2
        exact ResI.of HF.out.1 HF.out.2.1 HF.out.2.2
end Go.Proofs.Ytdmfapdnepdibaa
