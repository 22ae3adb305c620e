/-
  The steepest step down, the program's.
-/
import Derived.Test.YtknppcgoooaaaaaGridN
namespace Go.Proofs.Ytknppcgoooaaaaa
open Go.ChangeShapes Go.WideShapes Go.ChangeAt Go.RowKit Go.Deep
set_option linter.unusedVariables false

/-- A step's value: the best one found, or zeros. -/
def bestV (C k : Int) (p : Int × Int) : Value := if p.1 < 0 then .agg #[.int .i64 0, .int .i64 0, .int .i64 0] else .agg #[.int .i64 (nbAt C k p.1.toNat), .int .i64 p.1, .int .i64 p.2]
def foundB (p : Int × Int) : Bool := decide (0 ≤ p.1)
theorem stepsOf_at (C S : Int) (hs : List Int) (k : Int) (l : List Nat) {j a : Nat} (h : l[j]? = some a) (o : Nat) (ho : o < 3) : (stepsOf C S hs k l)[j * 3 + o]? = (stepCells C S hs k a)[o]? := by
  induction l generalizing j with
  | nil => simp at h
  | cons b t ih =>
    have e : stepsOf C S hs k (b :: t) = stepCells C S hs k b ++ stepsOf C S hs k t := by simp [stepsOf]
    rw [e]
    have hl : (stepCells C S hs k b).length = 3 := by simp [stepCells]
    cases j with
    | zero =>
      simp at h
      subst h
      rw [List.getElem?_append_left (by omega)]
      simp
    | succ m =>
      rw [List.getElem?_append_right (by omega), hl, show (m + 1) * 3 + o - 3 = m * 3 + o by omega]
      exact ih (by simpa using h)
theorem grown_allocT {a w : World} {row : Option Nat} (h : a.grownBy w row) (o : Obj) : a.grownBy (w.alloc o) row :=
  ⟨h.os, h.tape, h.output, Nat.le_trans h.size (by simp), fun i hi hne => (Below.heap_alloc w o i (Nat.lt_of_lt_of_le hi h.size)).trans (h.block i hi hne)⟩
/-- The cells of the best step found. -/
def bestC (C k : Int) (p : Int × Int) : Array Value := if p.1 < 0 then #[.int .i64 0, .int .i64 0, .int .i64 0] else #[.int .i64 (nbAt C k p.1.toNat), .int .i64 p.1, .int .i64 p.2]
theorem bestV_eq (C k : Int) (p : Int × Int) : bestV C k p = .agg (bestC C k p) := by unfold bestV bestC; split <;> rfl
theorem steep_take {R C S : Int} {hs : List Int} {k : Int} {j : Nat} {a : Nat} (h : (dirs R C k)[j]? = some a) :
    ((dirs R C k).take (j + 1)).foldl (better C S hs k) (-1, 0) = better C S hs k (((dirs R C k).take j).foldl (better C S hs k) (-1, 0)) a := by
  rw [List.take_add_one, h, List.foldl_append]
  rfl
theorem steep_all {R C S : Int} {hs : List Int} {k : Int} : ((dirs R C k).take (dirs R C k).length).foldl (better C S hs k) (-1, 0) = steep R C S hs k := by
  rw [List.take_of_length_le (Nat.le_refl _)]
  rfl
set_option maxRecDepth 100000 in
set_option maxHeartbeats 800000 in
theorem steepest_any (R C S : Int) (A : Option Addr) (n c : Nat) (k : Nat) (hs : List Int) (w : World) (h : GridA w R C S A n hs) (hv : gridOk R C S hs = true) (hk : k < n) :
    Calls Try.prog 24 #[.agg #[.int .i64 R, .int .i64 C, .int .i64 S, .slice A n c], .int .i64 k] w fun e w' =>
      e = .returned (.tuple #[bestV C k (steep R C S hs k), .bool (foundB (steep R C S hs k))]) ∧ Below w.heap.size w w' := by
  have hl := h.1.1
  obtain ⟨⟨r1, r2⟩, ⟨c1, c2⟩, ⟨s1, s2⟩, hn, hall⟩ := gridOk_iff.1 hv
  have B0 := (Below.refl w.heap.size w).alloc (Nat.le_refl _) (.cells #[.int .i64 R, .int .i64 C, .int .i64 S, .slice A n c] 26)
  have B1 := (Below.refl _ (w.alloc (.cells #[.int .i64 R, .int .i64 C, .int .i64 S, .slice A n c] 26))).alloc (Nat.le_refl _) (.cells #[.int .i64 0, .int .i64 0, .int .i64 0] 53) |>.alloc (by simp) (.cells #[.int .i64 0, .int .i64 0, .int .i64 0] 53)
  have HI := Lib.hid (And.intro ((h.below B0).below B1) (And.intro (B0.trans (B1.mono B0.size)) (And.intro ((boxG_of w R C S A n c 26).below B1) (show ((((w.alloc (.cells #[.int .i64 R, .int .i64 C, .int .i64 S, .slice A n c] 26)).alloc (.cells #[.int .i64 0, .int .i64 0, .int .i64 0] 53)).alloc (.cells #[.int .i64 0, .int .i64 0, .int .i64 0] 53)).heap[w.heap.size + 1]? = some (.cells #[.int .i64 0, .int .i64 0, .int .i64 0] 53 (0, 0))) ∧ ((((w.alloc (.cells #[.int .i64 R, .int .i64 C, .int .i64 S, .slice A n c] 26)).alloc (.cells #[.int .i64 0, .int .i64 0, .int .i64 0] 53)).alloc (.cells #[.int .i64 0, .int .i64 0, .int .i64 0] 53)).heap[w.heap.size + 2]? = some (.cells #[.int .i64 0, .int .i64 0, .int .i64 0] 53 (0, 0))) ∧ (((w.alloc (.cells #[.int .i64 R, .int .i64 C, .int .i64 S, .slice A n c] 26)).alloc (.cells #[.int .i64 0, .int .i64 0, .int .i64 0] 53)).alloc (.cells #[.int .i64 0, .int .i64 0, .int .i64 0] 53)).heap.size = w.heap.size + 3 by
    have e1 : (w.alloc (.cells #[.int .i64 R, .int .i64 C, .int .i64 S, .slice A n c] 26)).heap.size = w.heap.size + 1 := by simp
    have e2 : ((w.alloc (.cells #[.int .i64 R, .int .i64 C, .int .i64 S, .slice A n c] 26)).alloc (.cells #[.int .i64 0, .int .i64 0, .int .i64 0] 53)).heap.size = w.heap.size + 2 := by simp
    refine ⟨?_, ?_, by simp⟩
    · rw [← e1]
      exact (Below.heap_alloc _ _ _ (by simp)).trans (blk_alloc_new _ _)
    · rw [← e2]
      exact blk_alloc_new _ _))))
  have HA := Lib.hid (And.intro hl (And.intro hn (And.intro hall hv)))
  have HW := Lib.hid h
  clear h hl hn hall hv B0 B1
  go_enter Try.func24, Try.ntmps24
  go_wp2_with fail
  refine (next_any R C S A n c k hs _ HI.out.1 HA.out.2.2.2 hk).mono ?_
  rintro e w1 ⟨A', c', rfl, ho1, hb1⟩
  have HB := Lib.hid (And.intro hb1 (And.intro (HI.out.2.1.trans (hb1.mono HI.out.2.1.size)) (And.intro ho1 (And.intro (HI.out.2.2.1.below hb1) (And.intro (HI.out.1.1.below hb1) (And.intro ((hb1.block _ (by rw [HI.out.2.2.2.2.2]; omega)).trans HI.out.2.2.2.1) ((hb1.block _ (by rw [HI.out.2.2.2.2.2]; omega)).trans HI.out.2.2.2.2.1)))))))
  have hz1 : w.heap.size + 3 ≤ w1.heap.size := by have := hb1.size; rw [HI.out.2.2.2.2.2] at this; exact this
  clear hb1 ho1
  have hdl := dirs_len R C k
  go_wp2_with fail
  go_loopw [7, 14] (fun f i wr => ∃ (j : Nat) (p : Int × Int), j ≤ (dirs R C k).length ∧ i = .int .i64 j ∧ f = .bool (foundB p) ∧ Hid (p = ((dirs R C k).take j).foldl (better C S hs k) (-1, 0)) ∧ w1.grownBy wr (some (w.heap.size + 2)) ∧ wr.heap[w.heap.size + 2]? = some (.cells (bestC C k p) 53 (0, 0))) (fun _ i _ => (dirs R C k).length - (intOf i).toNat)
  case atStart => exact ⟨0, (-1, 0), Nat.zero_le _, rfl, rfl, rfl, World.grownBy.refl _ _, HB.out.2.2.2.2.2.2⟩
  case round =>
    obtain ⟨j, p, hj, rfl, rfl, HP, hgr, hbest⟩ := hrel
    by_cases hlt : j < (dirs R C k).length
    · have hown := HB.out.2.2.1
      obtain ⟨gs, hgs⟩ : ∃ gs, A' = some ⟨gs, 0, none⟩ := by
        rcases hown.2 with ⟨hv, h00⟩ | ⟨g, cap, cur, hv, _⟩
        · omega
        · simp only [Value.slice.injEq] at hv
          exact ⟨g, hv.1⟩
      subst hgs
      obtain ⟨f, hbg, hnc, hcm, _, hrow0, hf⟩ := own_to_rowIs hown
      obtain ⟨a, HD⟩ : ∃ a, Hid ((dirs R C k)[j]? = some a) := ⟨_, List.getElem?_eq_getElem hlt⟩
      have hmem := mem_dirs.1 (List.mem_of_getElem? HD.out)
      have hat := fun o ho => (hf (j * 3 + o) (by omega)).symm.trans (stepsOf_at C S hs k _ HD.out o ho)
      have hne : ∀ b o v, w1.cell? ⟨b, o, none⟩ = some v → b ≠ w.heap.size + 2 → wr.cell? ⟨b, o, none⟩ = some v := fun b o v h1 h2 => hgr.cell h1 (fun e => h2 (by injection e))
      rw [HI.out.2.2.2.2.2] at hbg
      have s0 := hne _ _ _ (hrow0.cell (i := j * 3) (by omega)) (by omega)
      have s1' := hne _ _ _ (hrow0.cell (i := j * 3 + 1) (by omega)) (by omega)
      have s2' := hne _ _ _ (hrow0.cell (i := j * 3 + 2) (by omega)) (by omega)
      have a0 := hat 0 (by omega)
      have a1 := hat 1 (by omega)
      have a2 := hat 2 (by omega)
      simp only [stepCells, Nat.add_zero] at a0 a1 a2
      injection a0 with a0
      injection a1 with a1
      injection a2 with a2
      rw [a0] at s0
      rw [a1] at s1'
      rw [a2] at s2'
      clear a0 a1 a2 hat hrow0 hf
      obtain ⟨M, hM⟩ : ∃ M : Nat, nbAt C k a = (M : Int) := ⟨(nbAt C k a).toNat, by have := nb_bd hmem.2 (by omega); omega⟩
      have hMn : M < n := by
        have h1 := nb_bd hmem.2 (show 1 ≤ C by omega)
        rw [hM, ← HA.out.2.1, HA.out.1] at h1
        omega
      have hints := HB.out.2.2.2.2.1
      obtain ⟨b, off, xk, rfl, HXk, hck, _⟩ := hints.at_ hk
      obtain ⟨b', off', xM, hA', HXM, hcM, _⟩ := hints.at_ hMn
      injection hA' with hA'
      injection hA' with hb' ho' _
      subst hb' ho'
      have bk := allB_iff.1 HA.out.2.2.1 _ _ HXk.out
      have bM := allB_iff.1 HA.out.2.2.1 _ _ HXM.out
      have hbw : b < w.heap.size := by
        obtain ⟨b2, off2, eA, cA⟩ := HW.out.1.2.2.2 (by omega)
        injection eA with eA
        injection eA with eb _ _
        rw [eb]
        exact cell_lt (cA 0 (by omega))
      have hsz := hgr.size
      have ck := hne _ _ _ hck (by omega)
      have cM := hne _ _ _ hcM (by omega)
      obtain ⟨p0, p1, p2, p3⟩ := HB.out.2.2.2.1.grow hgr (fun g hg e => by injection hg with hg; omega)
      have HV := Lib.hid (And.intro hM (And.intro (hg_eq HXk.out) (hg_eq HXM.out)))
      rw [hM] at s0
      obtain ⟨F, hF⟩ : ∃ F, F = fallAt C S hs k a := ⟨_, rfl⟩
      rw [← hF] at s2'
      have HF := Lib.hid hF
      have HG := Lib.hid (And.intro hgr hbest)
      have hj1 : (j : Int) < ((dirs R C k).length : Int) := by omega
      have hkI : (k : Int) < (n : Int) := by omega
      have hMI : (M : Int) < (n : Int) := by omega
      have z1 : w.heap.size < wr.heap.size := by omega
      have z2 : w.heap.size + 2 < wr.heap.size := by omega
      have z3 : b < wr.heap.size := by omega
      have q0 := Go.Joins.cell_of_block hbest 0
      have q1 := Go.Joins.cell_of_block hbest 1
      have q2 := Go.Joins.cell_of_block hbest 2
      have u0 := Go.Joins.unfrozen_of_block hbest 0
      have u1 := Go.Joins.unfrozen_of_block hbest 1
      have u2 := Go.Joins.unfrozen_of_block hbest 2
      clear hne hown hmem hM hck hcM hbest hgr hints hF
      by_cases hp : p.1 < 0
      · have HFB := Lib.hid (show foundB p = false by unfold foundB; simp; omega)
        have HBC := Lib.hid (show bestC C k p = #[.int .i64 0, .int .i64 0, .int .i64 0] by unfold bestC; rw [if_pos hp])
        rw [HBC.out] at q0 q1 q2
        rw [HFB.out]
        simp at q0 q1 q2
        by_cases hx : xM < xk
        · have hd : decide (xM < xk) = true := by simpa using hx
          have HPN := Lib.hid (show (((a : Int), F) : Int × Int) = ((dirs R C k).take (j + 1)).foldl (better C S hs k) (-1, 0) by
            rw [steep_take HD.out, ← HP.out]
            unfold better
            rw [if_pos (by rw [HV.out.1, HV.out.2.1, HV.out.2.2, ← HF.out]; omega), ← HF.out])
          have HBN := Lib.hid (show bestC C k ((a : Int), F) = #[.int .i64 (M : Int), .int .i64 a, .int .i64 F] by
            unfold bestC
            rw [if_neg (by show ¬ (a : Int) < 0; omega)]
            simp [HV.out.1])
          go_wp2_with fail
          go_quiet (fail)
          go_wp2_with fail
          have HH := Lib.hid (Go.Joins.block_setCell (Go.Joins.block_setCell (Go.Joins.block_setCell (w := (wr.alloc (.cells #[.int .i64 (M : Int), .int .i64 a, .int .i64 F] 53)).drewN nq) (i := 0) ((Below.heap_alloc _ _ _ (by omega)).trans HG.out.2) (.int .i64 (M : Int))) (i := 1) (.int .i64 a)) (i := 2) (.int .i64 F))
          go_roundw
          case rel => exact ⟨j + 1, (a, F), by omega, by go_num, by simp [foundB], HPN.out, grown_setCell (grown_setCell (grown_setCell (grown_drewN (grown_allocT HG.out.1 _) _) rfl _) rfl _) rfl _, by rw [HBN.out]; refine HH.out.trans ?_; rw [HBC.out]; rfl⟩
          case measure => simp [intOf]; omega
        · have hd : decide (xM < xk) = false := by simpa using hx
          have HPN := Lib.hid (show p = ((dirs R C k).take (j + 1)).foldl (better C S hs k) (-1, 0) by
            rw [steep_take HD.out, ← HP.out]
            unfold better
            rw [if_neg (by rw [HV.out.1, HV.out.2.1, HV.out.2.2]; omega)])
          go_wp2_with fail
          go_quiet (fail)
          go_wp2_with fail
          go_roundw
          case rel => exact ⟨j + 1, p, by omega, by go_num, by rw [HFB.out], HPN.out, grown_drewN (grown_allocT HG.out.1 _) _, (Below.heap_alloc _ _ _ (by omega)).trans HG.out.2⟩
          case measure => simp [intOf]; omega
      · have HFB := Lib.hid (show foundB p = true by unfold foundB; simp; omega)
        have HBC := Lib.hid (show bestC C k p = #[.int .i64 (nbAt C k p.1.toNat), .int .i64 p.1, .int .i64 p.2] by unfold bestC; rw [if_neg hp])
        rw [HBC.out] at q0 q1 q2
        rw [HFB.out]
        simp at q0 q1 q2
        by_cases hx : xM < xk
        · have hd : decide (xM < xk) = true := by simpa using hx
          by_cases hy : p.2 < F
          · have hd2 : decide (p.2 < F) = true := by simpa using hy
            have HPN := Lib.hid (show (((a : Int), F) : Int × Int) = ((dirs R C k).take (j + 1)).foldl (better C S hs k) (-1, 0) by
              rw [steep_take HD.out, ← HP.out]
              unfold better
              rw [if_pos (by rw [HV.out.1, HV.out.2.1, HV.out.2.2, ← HF.out]; omega), ← HF.out])
            have HBN := Lib.hid (show bestC C k ((a : Int), F) = #[.int .i64 (M : Int), .int .i64 a, .int .i64 F] by
              unfold bestC
              rw [if_neg (by show ¬ (a : Int) < 0; omega)]
              simp [HV.out.1])
            go_wp2_with fail
            go_quiet (fail)
            go_wp2_with fail
            have HH := Lib.hid (Go.Joins.block_setCell (Go.Joins.block_setCell (Go.Joins.block_setCell (w := (wr.alloc (.cells #[.int .i64 (M : Int), .int .i64 a, .int .i64 F] 53)).drewN nq) (i := 0) ((Below.heap_alloc _ _ _ (by omega)).trans HG.out.2) (.int .i64 (M : Int))) (i := 1) (.int .i64 a)) (i := 2) (.int .i64 F))
            go_roundw
            case rel => exact ⟨j + 1, (a, F), by omega, by go_num, by simp [foundB], HPN.out, grown_setCell (grown_setCell (grown_setCell (grown_drewN (grown_allocT HG.out.1 _) _) rfl _) rfl _) rfl _, by rw [HBN.out]; refine HH.out.trans ?_; rw [HBC.out]; rfl⟩
            case measure => simp [intOf]; omega
          · have hd2 : decide (p.2 < F) = false := by simpa using hy
            have HPN := Lib.hid (show p = ((dirs R C k).take (j + 1)).foldl (better C S hs k) (-1, 0) by
              rw [steep_take HD.out, ← HP.out]
              unfold better
              rw [if_neg (by rw [HV.out.1, HV.out.2.1, HV.out.2.2, ← HF.out]; omega)])
            go_wp2_with fail
            go_quiet (fail)
            go_wp2_with fail
            go_roundw
            case rel => exact ⟨j + 1, p, by omega, by go_num, by rw [HFB.out], HPN.out, grown_drewN (grown_allocT HG.out.1 _) _, (Below.heap_alloc _ _ _ (by omega)).trans HG.out.2⟩
            case measure => simp [intOf]; omega
        · have hd : decide (xM < xk) = false := by simpa using hx
          have HPN := Lib.hid (show p = ((dirs R C k).take (j + 1)).foldl (better C S hs k) (-1, 0) by
            rw [steep_take HD.out, ← HP.out]
            unfold better
            rw [if_neg (by rw [HV.out.1, HV.out.2.1, HV.out.2.2]; omega)])
          go_wp2_with fail
          go_quiet (fail)
          go_wp2_with fail
          go_roundw
          case rel => exact ⟨j + 1, p, by omega, by go_num, by rw [HFB.out], HPN.out, grown_drewN (grown_allocT HG.out.1 _) _, (Below.heap_alloc _ _ _ (by omega)).trans HG.out.2⟩
          case measure => simp [intOf]; omega
    · obtain rfl : j = (dirs R C k).length := by omega
      have HE := Lib.hid (show p = steep R C S hs k by rw [HP.out, steep_all])
      have hres := (hgr.block (w.heap.size + 1) (by omega) (fun e => by injection e; omega)).trans HB.out.2.2.2.2.2.1
      have HG := Lib.hid (below_grown HB.out.2.1 hgr (HB.out.2.1.size) (by omega))
      have q0 := Go.Joins.cell_of_block hbest 0
      have q1 := Go.Joins.cell_of_block hbest 1
      have q2 := Go.Joins.cell_of_block hbest 2
      have r0 := Go.Joins.cell_of_block hres 0
      have r1' := Go.Joins.cell_of_block hres 1
      have r2' := Go.Joins.cell_of_block hres 2
      have v0 := Go.Joins.unfrozen_of_block hres 0
      have v1 := Go.Joins.unfrozen_of_block hres 1
      have v2 := Go.Joins.unfrozen_of_block hres 2
      simp at r0 r1' r2'
      have z2 : w.heap.size + 2 < wr.heap.size := by have := hgr.size; omega
      clear hgr hbest hres hlt
      by_cases hp : p.1 < 0
      · have HFB := Lib.hid (show foundB p = false by unfold foundB; simp; omega)
        have HBC := Lib.hid (show bestC C k p = #[.int .i64 0, .int .i64 0, .int .i64 0] by unfold bestC; rw [if_pos hp])
        rw [HBC.out] at q0 q1 q2
        rw [HFB.out]
        simp at q0 q1 q2
        go_wp2_with fail
        refine bodyPost_ret (v := .tuple #[.agg #[.int .i64 0, .int .i64 0, .int .i64 0], .bool false]) (by simp [results, Try.results24, go_sem, *]) rfl ⟨?_, ?_⟩
        · rw [← HE.out, bestV_eq, HBC.out, HFB.out]
        · exact ((HG.out.setCell (by simp) _).setCell (by simp) _).setCell (by simp) _
      · have HFB := Lib.hid (show foundB p = true by unfold foundB; simp; omega)
        have HBC := Lib.hid (show bestC C k p = #[.int .i64 (nbAt C k p.1.toNat), .int .i64 p.1, .int .i64 p.2] by unfold bestC; rw [if_neg hp])
        rw [HBC.out] at q0 q1 q2
        rw [HFB.out]
        simp at q0 q1 q2
        go_wp2_with fail
        refine bodyPost_ret (v := .tuple #[.agg #[.int .i64 (nbAt C k p.1.toNat), .int .i64 p.1, .int .i64 p.2], .bool true]) (by simp [results, Try.results24, go_sem, *]) rfl ⟨?_, ?_⟩
        · rw [← HE.out, bestV_eq, HBC.out, HFB.out]
        · exact ((HG.out.setCell (by simp) _).setCell (by simp) _).setCell (by simp) _
end Go.Proofs.Ytknppcgoooaaaaa
