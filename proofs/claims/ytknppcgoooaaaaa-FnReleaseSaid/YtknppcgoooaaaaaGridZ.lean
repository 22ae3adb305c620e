/-
  The cells where snow can start, both sides.
-/
import Derived.Test.YtknppcgoooaaaaaGridY
namespace Go.Proofs.Ytknppcgoooaaaaa
open Go.ChangeShapes Go.WideShapes Go.ChangeAt Go.RowKit Go.Deep
set_option linter.unusedVariables false

def startC (R C S : Int) (hs : List Int) (lo hi : Int) (ds : List Int) : Int :=
  if gridOk R C S hs = true then (if (inB lo 0 10000 && inB hi lo 10000) = true then (if risesB ds 0 7 = true then 0 else 7) else 2) else 1
def startP (R C S : Int) (hs : List Int) (lo hi : Int) (ds : List Int) (k : Nat) : Bool :=
  decide (0 ≤ (steep R C S hs (k : Int)).1) && (inB (steep R C S hs (k : Int)).2 lo hi && hasB ds (steep R C S hs (k : Int)).1)
theorem startC_grid {R C S lo hi : Int} {hs ds : List Int} (h : startC R C S hs lo hi ds = 0) : gridOk R C S hs = true := by
  unfold startC at h
  cases hv : gridOk R C S hs
  · rw [hv] at h; simp at h
  · rfl
theorem start_len {R C S lo hi : Int} {hs ds : List Int} {n : Nat} (hl : hs.length = n) (h : startC R C S hs lo hi ds = 0) : n ≤ 64 := by
  obtain ⟨⟨r1, r2⟩, ⟨c1, c2⟩, _, hn, _⟩ := gridOk_iff.1 (startC_grid h)
  have := mul64 r1 r2 c1 c2
  rw [hl] at hn
  omega
set_option maxRecDepth 100000 in
set_option maxHeartbeats 1600000 in
theorem start_c (R C S : Int) (A : Option Addr) (n c : Nat) (k pg pl ph pa : Nat) (lo hi : Int) (B : Option Addr) (m d : Nat) (hs ds : List Int) (w : World) (hg : BoxG w pg R C S A n c) (hG : GridA w R C S A n hs) (hv : gridOk R C S hs = true) (hk : k < n)
    (hl : w.cell? ⟨pl, 0, none⟩ = some (.int .i64 lo)) (hh : w.cell? ⟨ph, 0, none⟩ = some (.int .i64 hi)) (ha : w.cell? ⟨pa, 0, none⟩ = some (.slice B m d)) (hd : Ints w B m ds) :
    Calls Try.prog 31 #[.int .i64 k, .pointer (some ⟨pg, 0, none⟩), .pointer (some ⟨pl, 0, none⟩), .pointer (some ⟨ph, 0, none⟩), .pointer (some ⟨pa, 0, none⟩)] w fun e w' => e = .returned (.bool (startP R C S hs lo hi ds k)) ∧ Below w.heap.size w w' := by
  obtain ⟨P, hP⟩ : ∃ P, P = steep R C S hs (k : Int) := ⟨_, rfl⟩
  have HS := Lib.hid (show startP R C S hs lo hi ds k = (decide (0 ≤ P.1) && (inB P.2 lo hi && hasB ds P.1)) by unfold startP; rw [← hP])
  have HP := Lib.hid hP
  have HV := Lib.hid hv
  have HD := Lib.hid hd
  clear hP hv hd
  obtain ⟨p0, p1, p2, p3⟩ := hg
  by_cases hp : P.1 < 0
  · have HB := Lib.hid (show bestV C k P = .agg #[.int .i64 0, .int .i64 0, .int .i64 0] ∧ foundB P = false by
      unfold bestV foundB
      exact ⟨by rw [if_pos hp], by simp; omega⟩)
    have HE := Lib.hid (show startP R C S hs lo hi ds k = false by rw [HS.out]; simp; omega)
    clear hp
    go_enter Try.func31, Try.ntmps31
    go_wp2_with fail
    refine (steepest_any R C S A n c k hs _ hG HV.out hk).mono ?_
    rintro e w2 ⟨rfl, hb2⟩
    rw [← HP.out, HB.out.1, HB.out.2]
    have HB2 := Lib.hid (hb2.trans ((Below.refl _ w2).alloc (Nat.le_refl _) (.cells #[.int .i64 0, .int .i64 0, .int .i64 0] 53) |>.mono hb2.size))
    clear hb2 p0 p1 p2 p3
    go_wp2_with fail
    go_ret
    exact ⟨ret_bool (by rw [HE.out]), HB2.out⟩
  · have HB := Lib.hid (show bestV C k P = .agg #[.int .i64 (nbAt C k P.1.toNat), .int .i64 P.1, .int .i64 P.2] ∧ foundB P = true by
      unfold bestV foundB
      exact ⟨by rw [if_neg hp], by simp; omega⟩)
    have hp1 : decide (0 ≤ P.1) = true := by simp; omega
    have HE := Lib.hid (show startP R C S hs lo hi ds k = (inB P.2 lo hi && hasB ds P.1) by rw [HS.out, hp1]; rfl)
    clear hp hp1
    cases h1 : inB P.2 lo hi
    all_goals
      have H1 := Lib.hid h1
      go_enter Try.func31, Try.ntmps31
      go_wp2_with fail
      refine (steepest_any R C S A n c k hs _ hG HV.out hk).mono ?_
      rintro e w2 ⟨rfl, hb2⟩
      rw [← HP.out, HB.out.1, HB.out.2]
      have HB2 := Lib.hid (hb2.trans ((Below.refl _ w2).alloc (Nat.le_refl _) (.cells #[.int .i64 (nbAt C k P.1.toNat), .int .i64 P.1, .int .i64 P.2] 53) |>.mono hb2.size))
      have hl2 := cell_kept hb2 hl
      have hh2 := cell_kept hb2 hh
      have ha2 := cell_kept hb2 ha
      have zl := cell_lt hl2
      have zh := cell_lt hh2
      have za := cell_lt ha2
      have HD2 := Lib.hid ((HD.out).below HB2.out)
      clear hb2 p0 p1 p2 p3
      go_wp2_with ((go_at_call 27; refine (within_any _ _ _ _).mono ?_; rintro e w' ⟨rfl, rfl⟩))
    · go_ret
      exact ⟨ret_bool (by rw [HE.out, H1.out]; rfl), HB2.out⟩
    · refine (contains_any _ _ _ _ ds _ HD2.out).mono ?_
      rintro e w3 ⟨rfl, q3, rfl⟩
      go_wp2_with fail
      go_ret
      exact ⟨ret_bool (by rw [HE.out, H1.out]; rfl), below_drewN HB2.out _⟩
set_option maxRecDepth 100000 in
set_option maxHeartbeats 1600000 in
theorem StartCells_i (R C S : Int) (A : Option Addr) (n c : Nat) (lo hi : Int) (B : Option Addr) (m d : Nat) (hs ds : List Int) (w : World) (h : GridA w R C S A n hs) (h' : Ints w B m ds) :
    Calls Try.prog 15 #[.agg #[.int .i64 R, .int .i64 C, .int .i64 S, .slice A n c], .int .i64 lo, .int .i64 hi, .slice B m d] w fun e w' => ResI 2 w (cellsR (startC R C S hs lo hi ds) n (startP R C S hs lo hi ds)) (startC R C S hs lo hi ds) e w' := by
  have hl := h.1.1
  have B1 := (Below.refl w.heap.size w).alloc (Nat.le_refl _) (.cells #[.int .i64 R, .int .i64 C, .int .i64 S, .slice A n c] 26)
  have B2 := (Below.refl _ (w.alloc (.cells #[.int .i64 R, .int .i64 C, .int .i64 S, .slice A n c] 26))).alloc (Nat.le_refl _) (.cells #[.int .i64 lo] 2)
  have B3 := (Below.refl _ ((w.alloc (.cells #[.int .i64 R, .int .i64 C, .int .i64 S, .slice A n c] 26)).alloc (.cells #[.int .i64 lo] 2))).alloc (Nat.le_refl _) (.cells #[.int .i64 hi] 2)
  have B4 := (Below.refl _ (((w.alloc (.cells #[.int .i64 R, .int .i64 C, .int .i64 S, .slice A n c] 26)).alloc (.cells #[.int .i64 lo] 2)).alloc (.cells #[.int .i64 hi] 2))).alloc (Nat.le_refl _) (.cells #[.slice B m d] 24)
  have HI := Lib.hid (And.intro ((((h.below B1).below B2).below B3).below B4) (And.intro ((((h'.below B1).below B2).below B3).below B4) (And.intro (((B1.trans (B2.mono B1.size)).trans (B3.mono (B1.trans (B2.mono B1.size)).size)).trans (B4.mono ((B1.trans (B2.mono B1.size)).trans (B3.mono (B1.trans (B2.mono B1.size)).size)).size)) (And.intro ((((boxG_of w R C S A n c 26).below B2).below B3).below B4) (show ((((w.alloc (.cells #[.int .i64 R, .int .i64 C, .int .i64 S, .slice A n c] 26)).alloc (.cells #[.int .i64 lo] 2)).alloc (.cells #[.int .i64 hi] 2)).alloc (.cells #[.slice B m d] 24)).cell? ⟨w.heap.size + 1, 0, none⟩ = some (.int .i64 lo) ∧ ((((w.alloc (.cells #[.int .i64 R, .int .i64 C, .int .i64 S, .slice A n c] 26)).alloc (.cells #[.int .i64 lo] 2)).alloc (.cells #[.int .i64 hi] 2)).alloc (.cells #[.slice B m d] 24)).cell? ⟨w.heap.size + 1 + 1, 0, none⟩ = some (.int .i64 hi) ∧ ((((w.alloc (.cells #[.int .i64 R, .int .i64 C, .int .i64 S, .slice A n c] 26)).alloc (.cells #[.int .i64 lo] 2)).alloc (.cells #[.int .i64 hi] 2)).alloc (.cells #[.slice B m d] 24)).cell? ⟨w.heap.size + 1 + 1 + 1, 0, none⟩ = some (.slice B m d) from ⟨by go_simp, by go_simp, by go_simp⟩)))))
  clear h h' B1 B2 B3 B4
  cases hv : gridOk R C S hs
  · have HE := Lib.hid (show startC R C S hs lo hi ds = 1 by simp [startC, hv])
    have HX := Lib.hid hv
    rw [HE.out, cellsR_no (by omega)]
    clear hv hl
    go_enter Try.func15, Try.ntmps15
    go_wp2_with fail
    refine (ValidGrid_i _ _ _ _ _ _ hs _ HI.out.1).mono ?_
    rintro e w1 ⟨rfl, hb1⟩
    rw [HX.out]
    have HB := Lib.hid (HI.out.2.2.1.trans (hb1.mono (HI.out.2.2.1).size))
    clear hb1
    go_wp2_with fail
    go_ret2
    exact ResI.nil HB.out
  · have HX := Lib.hid hv
    have h64 : startC R C S hs lo hi ds = 0 → n ≤ 64 := start_len hl
    clear hl
    cases h1 : inB lo 0 10000
    · have HE := Lib.hid (show startC R C S hs lo hi ds = 2 by simp [startC, hv, h1])
      rw [HE.out, cellsR_no (by omega)]
      clear hv h64
      go_enter Try.func15, Try.ntmps15
      go_wp2_with fail
      refine (ValidGrid_i _ _ _ _ _ _ hs _ HI.out.1).mono ?_
      rintro e w1 ⟨rfl, hb1⟩
      rw [HX.out]
      have q1 := cell_kept hb1 HI.out.2.2.2.2.1
      have q2 := cell_kept hb1 HI.out.2.2.2.2.2.1
      have HB := Lib.hid (HI.out.2.2.1.trans (hb1.mono (HI.out.2.2.1).size))
      clear hb1
      go_wp2_with ((go_at_call 27; refine (within_any _ _ _ _).mono ?_; rintro e w' ⟨rfl, rfl⟩))
      go_ret2
      exact ResI.nil HB.out
    · cases h2 : inB hi lo 10000
      · have HE := Lib.hid (show startC R C S hs lo hi ds = 2 by simp [startC, hv, h2])
        rw [HE.out, cellsR_no (by omega)]
        clear hv h64
        go_enter Try.func15, Try.ntmps15
        go_wp2_with fail
        refine (ValidGrid_i _ _ _ _ _ _ hs _ HI.out.1).mono ?_
        rintro e w1 ⟨rfl, hb1⟩
        rw [HX.out]
        have q1 := cell_kept hb1 HI.out.2.2.2.2.1
        have q2 := cell_kept hb1 HI.out.2.2.2.2.2.1
        have HB := Lib.hid (HI.out.2.2.1.trans (hb1.mono (HI.out.2.2.1).size))
        clear hb1
        go_wp2_with ((go_at_call 27; refine (within_any _ _ _ _).mono ?_; rintro e w' ⟨rfl, rfl⟩))
        go_ret2
        exact ResI.nil HB.out
      · cases h3 : incB ds
        · have HE := Lib.hid (show startC R C S hs lo hi ds = 7 by simp [startC, hv, h1, h2, risesB, h3])
          rw [HE.out, cellsR_no (by omega)]
          have H3 := Lib.hid h3
          clear hv h64 h3
          go_enter Try.func15, Try.ntmps15
          go_wp2_with fail
          refine (ValidGrid_i _ _ _ _ _ _ hs _ HI.out.1).mono ?_
          rintro e w1 ⟨rfl, hb1⟩
          rw [HX.out]
          have q1 := cell_kept hb1 HI.out.2.2.2.2.1
          have q2 := cell_kept hb1 HI.out.2.2.2.2.2.1
          have q3 := cell_kept hb1 HI.out.2.2.2.2.2.2
          have HB := Lib.hid (And.intro (HI.out.2.2.1.trans (hb1.mono (HI.out.2.2.1).size)) (HI.out.2.1.below hb1))
          clear hb1
          go_wp2_with ((go_at_call 27; refine (within_any _ _ _ _).mono ?_; rintro e w' ⟨rfl, rfl⟩))
          refine (increasing_any _ _ _ ds _ HB.out.2).mono ?_
          rintro e w2 ⟨rfl, nq, rfl⟩
          rw [H3.out]
          go_wp2_with fail
          go_ret2
          exact ResI.nil (below_drewN HB.out.1 _)
        · cases h4 : allB ds 0 7
          · have HE := Lib.hid (show startC R C S hs lo hi ds = 7 by simp [startC, hv, h1, h2, risesB, h3, h4])
            rw [HE.out, cellsR_no (by omega)]
            have H3 := Lib.hid (And.intro h3 h4)
            clear hv h64 h3 h4
            go_enter Try.func15, Try.ntmps15
            go_wp2_with fail
            refine (ValidGrid_i _ _ _ _ _ _ hs _ HI.out.1).mono ?_
            rintro e w1 ⟨rfl, hb1⟩
            rw [HX.out]
            have q1 := cell_kept hb1 HI.out.2.2.2.2.1
            have q2 := cell_kept hb1 HI.out.2.2.2.2.2.1
            have q3 := cell_kept hb1 HI.out.2.2.2.2.2.2
            have HB := Lib.hid (And.intro (HI.out.2.2.1.trans (hb1.mono (HI.out.2.2.1).size)) (HI.out.2.1.below hb1))
            clear hb1
            go_wp2_with ((go_at_call 27; refine (within_any _ _ _ _).mono ?_; rintro e w' ⟨rfl, rfl⟩))
            refine (increasing_any _ _ _ ds _ HB.out.2).mono ?_
            rintro e w2 ⟨rfl, nq, rfl⟩
            rw [H3.out.1]
            go_wp2_with fail
            refine (allWithin_any _ _ _ _ _ ds _ (HB.out.2.drewN nq)).mono ?_
            rintro e w3 ⟨rfl, hb3⟩
            rw [H3.out.2]
            have HB3 := Lib.hid ((below_drewN HB.out.1 nq).trans (hb3.mono (below_drewN HB.out.1 nq).size))
            clear hb3
            go_wp2_with fail
            go_ret2
            exact ResI.nil HB3.out
          · have HE := Lib.hid (show startC R C S hs lo hi ds = 0 by simp [startC, hv, h1, h2, risesB, h3, h4])
            have h64' := h64 HE.out
            rw [HE.out, cellsR_yes rfl]
            have H3 := Lib.hid (And.intro h3 h4)
            clear hv h64 h3 h4
            go_enter Try.func15, Try.ntmps15
            go_wp2_with fail
            refine (ValidGrid_i _ _ _ _ _ _ hs _ HI.out.1).mono ?_
            rintro e w1 ⟨rfl, hb1⟩
            rw [HX.out]
            have q1 := cell_kept hb1 HI.out.2.2.2.2.1
            have q2 := cell_kept hb1 HI.out.2.2.2.2.2.1
            have q3 := cell_kept hb1 HI.out.2.2.2.2.2.2
            have HB := Lib.hid (And.intro (HI.out.2.2.1.trans (hb1.mono (HI.out.2.2.1).size)) (And.intro (HI.out.2.1.below hb1) (And.intro (HI.out.2.2.2.1.below hb1) (And.intro (HI.out.1.below hb1) (And.intro q1 (And.intro q2 q3))))))
            clear hb1
            go_wp2_with ((go_at_call 27; refine (within_any _ _ _ _).mono ?_; rintro e w' ⟨rfl, rfl⟩))
            refine (increasing_any _ _ _ ds _ HB.out.2.1).mono ?_
            rintro e w2 ⟨rfl, nq, rfl⟩
            rw [H3.out.1]
            go_wp2_with fail
            refine (allWithin_any _ _ _ _ _ ds _ (HB.out.2.1.drewN nq)).mono ?_
            rintro e w3 ⟨rfl, hb3⟩
            rw [H3.out.2]
            have HB3 := Lib.hid (And.intro ((below_drewN HB.out.1 nq).trans (hb3.mono (below_drewN HB.out.1 nq).size)) ((below_drewN (Below.refl w1.heap.size w1) nq).trans (hb3.mono (below_drewN (Below.refl w1.heap.size w1) nq).size)))
            obtain ⟨p0, p1, p2, p3⟩ := HB.out.2.2.1.below HB3.out.2
            clear hb3 q1 q2 q3
            go_wp2_with fail
            clear p0 p1 p2 p3
            refine (cellsWhere_any _ _ _ _ _ _ 31 _ (startP R C S hs lo hi ds) _ h64' (Go.Proofs.enters_of Try.func31 (by kernel_rfl) rfl) ?_).mono ?_
            · intro k W hk hW
              have hW2 := HB3.out.2.trans (hW.mono HB3.out.2.size)
              exact start_c R C S A n c k _ _ _ _ lo hi B m d hs ds W (HB.out.2.2.1.below hW2) (HB.out.2.2.2.1.below hW2) HX.out hk (cell_kept hW2 HB.out.2.2.2.2.1) (cell_kept hW2 HB.out.2.2.2.2.2.1) (cell_kept hW2 HB.out.2.2.2.2.2.2) (HB.out.2.1.below hW2)
            rintro e w4 ⟨A', c', rfl, hf, hb4⟩
            have HF := Lib.hid (And.intro hf (And.intro HB3.out.1.size (HB3.out.1.trans (hb4.mono HB3.out.1.size))))
            clear hf hb4
            go_wp2_with fail
            go_ret2
            exact ResI.of HF.out.1 HF.out.2.1 HF.out.2.2
end Go.Proofs.Ytknppcgoooaaaaa
