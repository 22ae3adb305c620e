/-
  The cells from which nothing leads down and those that no cell around them is above, the program's.
-/
import Derived.Test.YtmcaokbnbbmhhaaGridK
import Derived.Test.YtmcaokbnbbmhhaaGridS
namespace Go.Proofs.Ytmcaokbnbbmhhaa
open Go.ChangeShapes Go.WideShapes Go.ChangeAt Go.RowKit Go.Deep
set_option linter.unusedVariables false

def gridK (R C S : Int) (hs : List Int) : Int := if gridOk R C S hs = true then 0 else 1
def lowQ (C : Int) (hs : List Int) (k : Int) (a : Nat) : Bool := decide (hg hs (nbAt C k a) < hg hs k)
def highQ (C : Int) (hs : List Int) (k : Int) (a : Nat) : Bool := decide (hg hs k < hg hs (nbAt C k a))
def pitP (R C : Int) (hs : List Int) (k : Nat) : Bool := !(dirs R C (k : Int)).any (lowQ C hs k)
def peakP (R C : Int) (hs : List Int) (k : Nat) : Bool := !(dirs R C (k : Int)).any (highQ C hs k)
theorem grid_len {R C S : Int} {hs : List Int} {n : Nat} (hl : hs.length = n) (h : gridK R C S hs = 0) : n ≤ 64 := by
  unfold gridK at h
  cases hv : gridOk R C S hs
  · rw [hv] at h; simp at h
  · obtain ⟨⟨r1, r2⟩, ⟨c1, c2⟩, _, hn, _⟩ := gridOk_iff.1 hv
    have := mul64 r1 r2 c1 c2
    rw [hl] at hn
    omega
set_option maxRecDepth 100000 in
set_option maxHeartbeats 800000 in
theorem pit_cc (R C S : Int) (A : Option Addr) (n c : Nat) (k a pg pc : Nat) (hs : List Int) (w : World) (hg : BoxG w pg R C S A n c) (hc : w.cell? ⟨pc, 0, none⟩ = some (.int .i64 k)) (h : Ints w A n hs) (hv : gridOk R C S hs = true) (hk : k < n) (ha : a < 8) (hok : nbOk R C k a = true) :
    Calls Try.prog 66 #[stepV C S hs k a, .pointer (some ⟨pg, 0, none⟩), .pointer (some ⟨pc, 0, none⟩)] w fun e w' => e = .returned (.bool (lowQ C hs k a)) ∧ Below w.heap.size w w' := by
  have hl := h.1
  obtain ⟨_, ⟨c1, c2⟩, _, hn, hall⟩ := gridOk_iff.1 hv
  obtain ⟨M, hM⟩ : ∃ M : Nat, nbAt C k a = (M : Int) := ⟨(nbAt C k a).toNat, by have := nb_bd hok c1; omega⟩
  have hMn : M < n := by
    have h1 := nb_bd hok c1
    rw [hM, ← hn, hl] at h1
    omega
  obtain ⟨b, off, xk, rfl, HXk, hck, _⟩ := h.at_ hk
  obtain ⟨b', off', xM, hA', HXM, hcM, _⟩ := h.at_ hMn
  injection hA' with hA'
  injection hA' with hb' ho' _
  subst hb' ho'
  obtain ⟨F, hF⟩ : ∃ F, F = fallAt C S hs k a := ⟨_, rfl⟩
  have HE := Lib.hid (show lowQ C hs k a = decide (xM < xk) by unfold lowQ; rw [hM, hg_eq HXk.out, hg_eq HXM.out])
  have HS := Lib.hid (show stepV C S hs k a = .agg #[.int .i64 (M : Int), .int .i64 a, .int .i64 F] by unfold stepV; rw [hM, hF])
  rw [HS.out]
  obtain ⟨p0, p1, p2, p3⟩ := hg
  have hkI : (k : Int) < (n : Int) := by omega
  have hMI : (M : Int) < (n : Int) := by omega
  have z1 := cell_lt p0
  have z2 := cell_lt hc
  have z3 := cell_lt hck
  have HA := Lib.hid (And.intro hM (And.intro hF (And.intro hn hall)))
  clear hM hF hn hall hv hok hl h
  go_enter Try.func66, Try.ntmps66
  go_wp2_with fail
  go_quiet (fail)
  go_wp2_with fail
  go_ret
  exact ⟨ret_bool (by rw [HE.out]), below_drewN ((Below.refl _ _).alloc (Nat.le_refl _) _) _⟩
set_option maxRecDepth 100000 in
set_option maxHeartbeats 800000 in
theorem pit_c (R C S : Int) (A : Option Addr) (n c : Nat) (k pg : Nat) (hs : List Int) (w : World) (hg : BoxG w pg R C S A n c) (h : GridA w R C S A n hs) (hv : gridOk R C S hs = true) (hk : k < n) :
    Calls Try.prog 65 #[.int .i64 k, .pointer (some ⟨pg, 0, none⟩)] w fun e w' => e = .returned (.bool (pitP R C hs k)) ∧ Below w.heap.size w w' := by
  have B0 := (Below.refl w.heap.size w).alloc (Nat.le_refl _) (.cells #[.int .i64 k] 2)
  have HI := Lib.hid (And.intro (h.below B0) (And.intro B0 (And.intro (hg.below B0) (show (w.alloc (.cells #[.int .i64 k] 2)).cell? ⟨w.heap.size, 0, none⟩ = some (.int .i64 k) by go_simp))))
  have HV := Lib.hid hv
  obtain ⟨p0, p1, p2, p3⟩ := hg
  have zp := cell_lt p0
  clear h hv B0
  go_enter Try.func65, Try.ntmps65
  go_wp2_with fail
  refine (next_any R C S A n c k hs _ HI.out.1 HV.out hk).mono ?_
  rintro e w1 ⟨A', c', rfl, ho1, hb1⟩
  have HB := Lib.hid (And.intro (HI.out.2.1.trans (hb1.mono HI.out.2.1.size)) (And.intro (StepsAt.of_own ho1) (And.intro (HI.out.2.2.1.below hb1) (And.intro (cell_kept hb1 HI.out.2.2.2) (HI.out.1.1.below hb1)))))
  have hdl := dirs_len R C k
  clear ho1 hb1 p0 p1 p2 p3
  go_wp2_with fail
  refine (containsFunc_steps _ C S hs k (dirs R C k) _ _ 66 _ (lowQ C hs k) _ rfl hdl (enters_of Try.func66 (by kernel_rfl) rfl) HB.out.2.1 ?_).mono ?_
  · intro j a W hj hW
    have hm := mem_dirs.1 (List.mem_of_getElem? hj)
    exact pit_cc R C S A n c k a _ _ hs W (HB.out.2.2.1.below hW) (cell_kept hW HB.out.2.2.2.1) (HB.out.2.2.2.2.below hW) HV.out hk hm.1 hm.2
  rintro e w2 ⟨rfl, hb2⟩
  have HB2 := Lib.hid (HB.out.1.trans (hb2.mono HB.out.1.size))
  clear hb2
  go_wp2_with fail
  go_ret
  exact ⟨rfl, HB2.out⟩
set_option maxRecDepth 100000 in
set_option maxHeartbeats 800000 in
theorem PitsOf_i (R C S : Int) (A : Option Addr) (n c : Nat) (hs : List Int) (w : World) (h : GridA w R C S A n hs) :
    Calls Try.prog 31 #[.agg #[.int .i64 R, .int .i64 C, .int .i64 S, .slice A n c]] w fun e w' => ResI 2 w (cellsR (gridK R C S hs) n (pitP R C hs)) (gridK R C S hs) e w' := by
  have hl := h.1.1
  have B0 := (Below.refl w.heap.size w).alloc (Nat.le_refl _) (.cells #[.int .i64 R, .int .i64 C, .int .i64 S, .slice A n c] 28)
  have HI := Lib.hid (And.intro (h.below B0) (And.intro B0 (boxG_of w R C S A n c 28)))
  clear h B0
  cases hv : gridOk R C S hs
  · have HE := Lib.hid (show gridK R C S hs = 1 by simp [gridK, hv])
    have HX := Lib.hid hv
    rw [HE.out, cellsR_no (by omega)]
    clear hv hl
    go_enter Try.func31, Try.ntmps31
    go_wp2_with fail
    refine (ValidGrid_i _ _ _ _ _ _ hs _ HI.out.1).mono ?_
    rintro e w1 ⟨rfl, hb1⟩
    rw [HX.out]
    have HB := Lib.hid (HI.out.2.1.trans (hb1.mono (HI.out.2.1).size))
    clear hb1
    go_wp2_with fail
    go_ret2
    exact ResI.nil HB.out
  · have HE := Lib.hid (show gridK R C S hs = 0 by simp [gridK, hv])
    have h64 := grid_len hl HE.out
    have HX := Lib.hid hv
    rw [HE.out, cellsR_yes rfl]
    clear hv hl
    go_enter Try.func31, Try.ntmps31
    go_wp2_with fail
    refine (ValidGrid_i _ _ _ _ _ _ hs _ HI.out.1).mono ?_
    rintro e w1 ⟨rfl, hb1⟩
    rw [HX.out]
    have HB := Lib.hid (And.intro (HI.out.2.1.trans (hb1.mono (HI.out.2.1).size)) (And.intro (HI.out.2.2.below hb1) (HI.out.1.below hb1)))
    obtain ⟨p0, p1, p2, p3⟩ := HI.out.2.2.below hb1
    clear hb1
    go_wp2_with fail
    clear p0 p1 p2 p3
    refine (cellsWhere_any _ _ _ _ _ _ 65 _ (pitP R C hs) _ h64 (enters_of Try.func65 (by kernel_rfl) rfl) ?_).mono ?_
    · intro k W hk hW
      exact pit_c R C S A n c k _ hs W (HB.out.2.1.below hW) (HB.out.2.2.below hW) HX.out hk
    rintro e w2 ⟨A', c', rfl, hf, hb2⟩
    have HF := Lib.hid (And.intro hf (And.intro HB.out.1.size (HB.out.1.trans (hb2.mono HB.out.1.size))))
    clear hf hb2
    go_wp2_with fail
    go_ret2
    exact ResI.of HF.out.1 HF.out.2.1 HF.out.2.2
set_option maxRecDepth 100000 in
set_option maxHeartbeats 800000 in
theorem peak_cc (R C S : Int) (A : Option Addr) (n c : Nat) (k a pg pc : Nat) (hs : List Int) (w : World) (hg : BoxG w pg R C S A n c) (hc : w.cell? ⟨pc, 0, none⟩ = some (.int .i64 k)) (h : Ints w A n hs) (hv : gridOk R C S hs = true) (hk : k < n) (ha : a < 8) (hok : nbOk R C k a = true) :
    Calls Try.prog 63 #[stepV C S hs k a, .pointer (some ⟨pg, 0, none⟩), .pointer (some ⟨pc, 0, none⟩)] w fun e w' => e = .returned (.bool (highQ C hs k a)) ∧ Below w.heap.size w w' := by
  have hl := h.1
  obtain ⟨_, ⟨c1, c2⟩, _, hn, hall⟩ := gridOk_iff.1 hv
  obtain ⟨M, hM⟩ : ∃ M : Nat, nbAt C k a = (M : Int) := ⟨(nbAt C k a).toNat, by have := nb_bd hok c1; omega⟩
  have hMn : M < n := by
    have h1 := nb_bd hok c1
    rw [hM, ← hn, hl] at h1
    omega
  obtain ⟨b, off, xk, rfl, HXk, hck, _⟩ := h.at_ hk
  obtain ⟨b', off', xM, hA', HXM, hcM, _⟩ := h.at_ hMn
  injection hA' with hA'
  injection hA' with hb' ho' _
  subst hb' ho'
  obtain ⟨F, hF⟩ : ∃ F, F = fallAt C S hs k a := ⟨_, rfl⟩
  have HE := Lib.hid (show highQ C hs k a = decide (xk < xM) by unfold highQ; rw [hM, hg_eq HXk.out, hg_eq HXM.out])
  have HS := Lib.hid (show stepV C S hs k a = .agg #[.int .i64 (M : Int), .int .i64 a, .int .i64 F] by unfold stepV; rw [hM, hF])
  rw [HS.out]
  obtain ⟨p0, p1, p2, p3⟩ := hg
  have hkI : (k : Int) < (n : Int) := by omega
  have hMI : (M : Int) < (n : Int) := by omega
  have z1 := cell_lt p0
  have z2 := cell_lt hc
  have z3 := cell_lt hck
  have HA := Lib.hid (And.intro hM (And.intro hF (And.intro hn hall)))
  clear hM hF hn hall hv hok hl h
  go_enter Try.func63, Try.ntmps63
  go_wp2_with fail
  go_quiet (fail)
  go_wp2_with fail
  go_ret
  exact ⟨ret_bool (by rw [HE.out]), below_drewN ((Below.refl _ _).alloc (Nat.le_refl _) _) _⟩
set_option maxRecDepth 100000 in
set_option maxHeartbeats 800000 in
theorem peak_c (R C S : Int) (A : Option Addr) (n c : Nat) (k pg : Nat) (hs : List Int) (w : World) (hg : BoxG w pg R C S A n c) (h : GridA w R C S A n hs) (hv : gridOk R C S hs = true) (hk : k < n) :
    Calls Try.prog 60 #[.int .i64 k, .pointer (some ⟨pg, 0, none⟩)] w fun e w' => e = .returned (.bool (peakP R C hs k)) ∧ Below w.heap.size w w' := by
  have B0 := (Below.refl w.heap.size w).alloc (Nat.le_refl _) (.cells #[.int .i64 k] 2)
  have HI := Lib.hid (And.intro (h.below B0) (And.intro B0 (And.intro (hg.below B0) (show (w.alloc (.cells #[.int .i64 k] 2)).cell? ⟨w.heap.size, 0, none⟩ = some (.int .i64 k) by go_simp))))
  have HV := Lib.hid hv
  obtain ⟨p0, p1, p2, p3⟩ := hg
  have zp := cell_lt p0
  clear h hv B0
  go_enter Try.func60, Try.ntmps60
  go_wp2_with fail
  refine (next_any R C S A n c k hs _ HI.out.1 HV.out hk).mono ?_
  rintro e w1 ⟨A', c', rfl, ho1, hb1⟩
  have HB := Lib.hid (And.intro (HI.out.2.1.trans (hb1.mono HI.out.2.1.size)) (And.intro (StepsAt.of_own ho1) (And.intro (HI.out.2.2.1.below hb1) (And.intro (cell_kept hb1 HI.out.2.2.2) (HI.out.1.1.below hb1)))))
  have hdl := dirs_len R C k
  clear ho1 hb1 p0 p1 p2 p3
  go_wp2_with fail
  refine (containsFunc_steps _ C S hs k (dirs R C k) _ _ 63 _ (highQ C hs k) _ rfl hdl (enters_of Try.func63 (by kernel_rfl) rfl) HB.out.2.1 ?_).mono ?_
  · intro j a W hj hW
    have hm := mem_dirs.1 (List.mem_of_getElem? hj)
    exact peak_cc R C S A n c k a _ _ hs W (HB.out.2.2.1.below hW) (cell_kept hW HB.out.2.2.2.1) (HB.out.2.2.2.2.below hW) HV.out hk hm.1 hm.2
  rintro e w2 ⟨rfl, hb2⟩
  have HB2 := Lib.hid (HB.out.1.trans (hb2.mono HB.out.1.size))
  clear hb2
  go_wp2_with fail
  go_ret
  exact ⟨rfl, HB2.out⟩
set_option maxRecDepth 100000 in
set_option maxHeartbeats 800000 in
theorem PeaksOf_i (R C S : Int) (A : Option Addr) (n c : Nat) (hs : List Int) (w : World) (h : GridA w R C S A n hs) :
    Calls Try.prog 29 #[.agg #[.int .i64 R, .int .i64 C, .int .i64 S, .slice A n c]] w fun e w' => ResI 2 w (cellsR (gridK R C S hs) n (peakP R C hs)) (gridK R C S hs) e w' := by
  have hl := h.1.1
  have B0 := (Below.refl w.heap.size w).alloc (Nat.le_refl _) (.cells #[.int .i64 R, .int .i64 C, .int .i64 S, .slice A n c] 28)
  have HI := Lib.hid (And.intro (h.below B0) (And.intro B0 (boxG_of w R C S A n c 28)))
  clear h B0
  cases hv : gridOk R C S hs
  · have HE := Lib.hid (show gridK R C S hs = 1 by simp [gridK, hv])
    have HX := Lib.hid hv
    rw [HE.out, cellsR_no (by omega)]
    clear hv hl
    go_enter Try.func29, Try.ntmps29
    go_wp2_with fail
    refine (ValidGrid_i _ _ _ _ _ _ hs _ HI.out.1).mono ?_
    rintro e w1 ⟨rfl, hb1⟩
    rw [HX.out]
    have HB := Lib.hid (HI.out.2.1.trans (hb1.mono (HI.out.2.1).size))
    clear hb1
    go_wp2_with fail
    go_ret2
    exact ResI.nil HB.out
  · have HE := Lib.hid (show gridK R C S hs = 0 by simp [gridK, hv])
    have h64 := grid_len hl HE.out
    have HX := Lib.hid hv
    rw [HE.out, cellsR_yes rfl]
    clear hv hl
    go_enter Try.func29, Try.ntmps29
    go_wp2_with fail
    refine (ValidGrid_i _ _ _ _ _ _ hs _ HI.out.1).mono ?_
    rintro e w1 ⟨rfl, hb1⟩
    rw [HX.out]
    have HB := Lib.hid (And.intro (HI.out.2.1.trans (hb1.mono (HI.out.2.1).size)) (And.intro (HI.out.2.2.below hb1) (HI.out.1.below hb1)))
    obtain ⟨p0, p1, p2, p3⟩ := HI.out.2.2.below hb1
    clear hb1
    go_wp2_with fail
    clear p0 p1 p2 p3
    refine (cellsWhere_any _ _ _ _ _ _ 60 _ (peakP R C hs) _ h64 (enters_of Try.func60 (by kernel_rfl) rfl) ?_).mono ?_
    · intro k W hk hW
      exact peak_c R C S A n c k _ hs W (HB.out.2.1.below hW) (HB.out.2.2.below hW) HX.out hk
    rintro e w2 ⟨A', c', rfl, hf, hb2⟩
    have HF := Lib.hid (And.intro hf (And.intro HB.out.1.size (HB.out.1.trans (hb2.mono HB.out.1.size))))
    clear hf hb2
    go_wp2_with fail
    go_ret2
    exact ResI.of HF.out.1 HF.out.2.1 HF.out.2.2
end Go.Proofs.Ytmcaokbnbbmhhaa
