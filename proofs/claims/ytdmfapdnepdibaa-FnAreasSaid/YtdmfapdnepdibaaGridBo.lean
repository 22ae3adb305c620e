/-
  The cells at the border of cells, the program's.
-/
import Derived.Test.YtdmfapdnepdibaaGridDf
import Derived.Test.YtdmfapdnepdibaaGridK
import Derived.Test.YtdmfapdnepdibaaGridS
namespace Go.Proofs.Ytdmfapdnepdibaa
open Go.ChangeShapes Go.WideShapes Go.ChangeAt Go.RowKit Go.Deep
set_option linter.unusedVariables false

def outQ (C : Int) (xs : List Int) (k : Int) (a : Nat) : Bool := !hasB xs (nbAt C k a)
def innerB (R C : Int) (xs : List Int) (k : Int) : Bool := decide ((dirs R C k).length = 8) && !(dirs R C k).any (outQ C xs k)
def borderR (K R C : Int) (xs : List Int) (m : Nat) : List Int := if K = 0 then keptTo (innerB R C xs) xs m else []
theorem borderR_yes {K R C : Int} {xs : List Int} {m : Nat} (h : K = 0) : borderR K R C xs m = keptTo (innerB R C xs) xs m := by rw [borderR, if_pos h]
theorem borderR_no {K R C : Int} {xs : List Int} {m : Nat} (h : ¬ K = 0) : borderR K R C xs m = [] := by rw [borderR, if_neg h]
theorem borderR_ok (K R C : Int) {xs : List Int} {m : Nat} (hm : m ≤ 1048576) (hx : ∀ x ∈ xs, -9223372036854775808 ≤ x ∧ x ≤ 9223372036854775807) : (∀ y ∈ borderR K R C xs m, -9223372036854775808 ≤ y ∧ y ≤ 9223372036854775807) ∧ (borderR K R C xs m).length ≤ 1048576 := by
  unfold borderR
  split
  · refine ⟨fun y hy => hx y ?_, by have := keptTo_len (innerB R C xs) xs m; omega⟩
    unfold keptTo at hy
    exact List.mem_of_mem_take (List.mem_filter.1 hy).1
  · simp
theorem border_cc (R C S : Int) (k a pa : Nat) (B : Option Addr) (m d : Nat) (hs xs : List Int) (w : World) (hp : w.cell? ⟨pa, 0, none⟩ = some (.slice B m d)) (h : Ints w B m xs) :
    Calls Try.prog 49 #[stepV C S hs k a, .pointer (some ⟨pa, 0, none⟩)] w fun e w' => e = .returned (.bool (outQ C xs k a)) ∧ Below w.heap.size w w' := by
  obtain ⟨Z, hZ⟩ : ∃ Z, Z = nbAt C k a := ⟨_, rfl⟩
  obtain ⟨F, hF⟩ : ∃ F, F = fallAt C S hs k a := ⟨_, rfl⟩
  have HE := Lib.hid (show outQ C xs k a = !hasB xs Z by unfold outQ; rw [hZ])
  have HS := Lib.hid (show stepV C S hs k a = .agg #[.int .i64 Z, .int .i64 a, .int .i64 F] by unfold stepV; rw [hZ, hF])
  rw [HS.out]
  have z1 := cell_lt hp
  have HX := Lib.hid (h.below ((Below.refl _ _).alloc (Nat.le_refl _) (.cells #[.int .i64 Z, .int .i64 a, .int .i64 F] 67)))
  clear hZ hF h
  go_enter Try.func49, Try.ntmps49
  go_wp2_with fail
  refine (contains_any _ _ _ _ xs _ HX.out).mono ?_
  rintro e w1 ⟨rfl, q1, rfl⟩
  go_wp2_with fail
  go_ret
  exact ⟨ret_bool (by rw [HE.out]), below_drewN ((Below.refl _ _).alloc (Nat.le_refl _) _) _⟩
set_option maxRecDepth 100000 in
set_option maxHeartbeats 800000 in
theorem border_c (R C S : Int) (A : Option Addr) (n c : Nat) (k pg pa : Nat) (B : Option Addr) (m d : Nat) (hs xs : List Int) (w : World) (hgb : BoxG w pg R C S A n c) (h : GridA w R C S A n hs) (hv : gridOk R C S hs = true) (hk : k < n) (hp : w.cell? ⟨pa, 0, none⟩ = some (.slice B m d)) (h' : Ints w B m xs) :
    Calls Try.prog 46 #[.int .i64 k, .pointer (some ⟨pg, 0, none⟩), .pointer (some ⟨pa, 0, none⟩)] w fun e w' => e = .returned (.bool (innerB R C xs k)) ∧ Below w.heap.size w w' := by
  have HV := Lib.hid hv
  obtain ⟨p0, p1, p2, p3⟩ := hgb
  have hdl := dirs_len R C k
  clear hv
  by_cases h8 : (dirs R C k).length = 8
  · have HE := Lib.hid (show innerB R C xs k = !(dirs R C k).any (outQ C xs k) by simp [innerB, h8])
    have H8 := Lib.hid h8
    have hd8 : (((dirs R C k).length : Int) == 8) = true := by simp [h8]
    clear h8
    go_enter Try.func46, Try.ntmps46
    go_wp2_with fail
    refine (next_any R C S A n c k hs _ h HV.out hk).mono ?_
    rintro e w1 ⟨A', c', rfl, ho1, hb1⟩
    have HB := Lib.hid (And.intro hb1 (And.intro (StepsAt.of_own ho1) (And.intro (cell_kept hb1 hp) (h'.below hb1))))
    clear ho1 hb1 p0 p1 p2 p3
    go_wp2_with fail
    refine (containsFunc_steps _ C S hs k (dirs R C k) _ _ 49 _ (outQ C xs k) _ rfl hdl (enters_of Try.func49 (by kernel_rfl) rfl) HB.out.2.1 ?_).mono ?_
    · intro j a W hj hW
      exact border_cc R C S k a _ _ _ _ hs xs W (cell_kept hW HB.out.2.2.1) (HB.out.2.2.2.below hW)
    rintro e w2 ⟨rfl, hb2⟩
    have HB2 := Lib.hid (HB.out.1.trans (hb2.mono HB.out.1.size))
    clear hb2
    go_wp2_with fail
    go_ret
    exact ⟨ret_bool (by rw [HE.out]), HB2.out⟩
  · have HE := Lib.hid (show innerB R C xs k = false by simp [innerB, h8])
    have hd8 : (((dirs R C k).length : Int) == 8) = false := beq_eq_false_iff_ne.2 (by omega)
    have hd9 : ¬ (dirs R C k).length = 8 := h8
    clear h8
    go_enter Try.func46, Try.ntmps46
    go_wp2_with fail
    refine (next_any R C S A n c k hs _ h HV.out hk).mono ?_
    rintro e w1 ⟨A', c', rfl, ho1, hb1⟩
    have HB := Lib.hid hb1
    clear ho1 hb1 p0 p1 p2 p3
    go_wp2_with fail
    go_ret
    exact ⟨ret_bool (by rw [HE.out]), HB.out⟩
set_option maxRecDepth 100000 in
set_option maxHeartbeats 1600000 in
theorem BorderOf_i (R C S : Int) (A : Option Addr) (n c : Nat) (B : Addr) (m d : Nat) (hs xs : List Int) (w : World) (h : GridA w R C S A n hs) (h' : Ints w (some B) m xs) :
    Calls Try.prog 11 #[.agg #[.int .i64 R, .int .i64 C, .int .i64 S, .slice A n c], .slice (some B) m d] w fun e w' => ResI 2 w (borderR (cellsC R C S hs xs) R C xs m) (cellsC R C S hs xs) e w' := by
  have hl := h.1.1
  have hlx := h'.1
  have B0 := ((Below.refl w.heap.size w).alloc (Nat.le_refl _) (.cells #[.int .i64 R, .int .i64 C, .int .i64 S, .slice A n c] 26)).alloc (by simp) (.cells #[.slice (some B) m d] 24)
  have HI := Lib.hid (And.intro (h.below B0) (And.intro (h'.below B0) (And.intro B0 (And.intro ((boxG_of w R C S A n c 26).below ((Below.refl _ _).alloc (Nat.le_refl _) (.cells #[.slice (some B) m d] 24))) (show ((w.alloc (.cells #[.int .i64 R, .int .i64 C, .int .i64 S, .slice A n c] 26)).alloc (.cells #[.slice (some B) m d] 24)).cell? ⟨w.heap.size + 1, 0, none⟩ = some (.slice (some B) m d) by go_simp)))))
  have HW := Lib.hid (And.intro h.1 h')
  clear h h' B0
  obtain ⟨K, hK⟩ : ∃ K, K = cellsC R C S hs xs := ⟨_, rfl⟩
  have hcb := cellsC_bd R C S hs xs
  rw [← hK] at hcb ⊢
  by_cases h0 : K = 0
  · obtain ⟨⟨r1, r2⟩, ⟨c1, c2⟩, ⟨s1, s2⟩, hn, h64⟩ := cells_facts hl (hK.symm.trans h0)
    obtain ⟨hv, hri⟩ := cellsC_ok (hK.symm.trans h0)
    have hm64 := rises_len hri (by omega)
    rw [hlx] at hm64
    have HR := Lib.hid (And.intro hv (And.intro (rises_iff.1 hri).2 hn))
    rw [borderR_yes h0]
    have HK := Lib.hid hK
    have HL := Lib.hid (And.intro hl hlx)
    subst h0
    have hm6 : m ≤ 64 := by omega
    clear hK hl hcb hn hv hri hlx hm64
    go_enter Try.func11, Try.ntmps11
    go_wp2_with fail
    refine (cellsCode_any _ _ _ _ _ _ _ _ _ hs xs _ HI.out.1 HI.out.2.1).mono ?_
    rintro e w1 ⟨rfl, hb1⟩
    rw [← HK.out]
    have q1 := cell_kept hb1 HI.out.2.2.2.2
    have HB := Lib.hid (And.intro (HI.out.2.2.1.trans (hb1.mono (HI.out.2.2.1).size)) (And.intro q1 (And.intro (HI.out.2.1.below hb1) (And.intro (HI.out.2.2.2.1.below hb1) (HI.out.1.below hb1)))))
    have hz1 : w.heap.size + 2 ≤ w1.heap.size := by have := hb1.size; simpa using this
    clear hb1
    go_wp2_with fail
    refine (clone_any _ _ _ xs _ HB.out.2.2.1 (by omega) ⟨_, rfl⟩).mono ?_
    rintro e w2 ⟨A2, cc2, rfl, hf2, hb2⟩
    have HB2 := Lib.hid (And.intro (HB.out.1.trans (hb2.mono HB.out.1.size)) (And.intro (cell_kept hb2 HB.out.2.1) (And.intro (HB.out.2.2.1.below hb2) (And.intro (HB.out.2.2.2.1.below hb2) (HB.out.2.2.2.2.below hb2)))))
    rw [HL.out.2] at hf2 ⊢
    clear hb2 q1
    rcases Nat.eq_zero_or_pos m with rfl | hpos
    · have hx0 : xs = [] := List.length_eq_zero_iff.1 HL.out.2
      go_wp2_with fail
      refine (deleteFunc_zero _ _ 46 _ _ (enters_of Try.func46 (by kernel_rfl) rfl)).mono ?_
      rintro e w3 ⟨rfl, hb3⟩
      have HB3 := Lib.hid (HB2.out.1.trans (hb3.mono HB2.out.1.size))
      clear hb3
      go_wp2_with fail
      go_ret2
      have e0 : keptTo (innerB R C xs) xs 0 = [] := by unfold keptTo; simp
      rw [e0]
      exact ⟨A2, cc2, rfl, Fresh.empty _ _ _ _ _ _, HB3.out⟩
    · have hown := hf2.2 hpos
      obtain ⟨g, hg⟩ : ∃ g, A2 = some ⟨g, 0, none⟩ := by
        rcases hown.2 with ⟨hv, h00⟩ | ⟨g, cap, cur, hv, _⟩
        · omega
        · simp only [Value.slice.injEq] at hv
          exact ⟨g, hv.1⟩
      subst hg
      have hgb := (hown.lt g rfl).1
      have HO := Lib.hid hown
      clear hown hf2
      go_wp2_with fail
      refine (deleteFunc_any g m cc2 _ xs 46 _ (innerB R C xs) _ (enters_of Try.func46 (by kernel_rfl) rfl) hm6 HO.out HB2.out.2.2.1.2.2.1 ?_).mono ?_
      · intro a W ha hW
        obtain ⟨j, hj⟩ := List.mem_iff_getElem?.1 ha
        have hab := allB_iff.1 HR.out.2.1 j a hj
        obtain ⟨k, hk⟩ : ∃ k : Nat, a = (k : Int) := ⟨a.toNat, by omega⟩
        subst hk
        have hkn : k < n := by have := HR.out.2.2; omega
        exact border_c R C S A n c k _ _ _ _ _ hs xs W (HB2.out.2.2.2.1.grow hW (fun g' hg' e => by injection hg' with hg'; omega)) ⟨HB2.out.2.2.2.2.1.old hW HW.out.1 (fun g' hg' => by injection hg' with hg'; omega), HB2.out.2.2.2.2.2⟩ HR.out.1 hkn (hW.cell HB2.out.2.1 (fun e => by injection e with e; simp at e; omega)) (HB2.out.2.2.1.old hW HW.out.2 (fun g' hg' => by injection hg' with hg'; omega))
      rintro e w3 ⟨rfl, hown3, hgr3⟩
      have HF := Lib.hid (And.intro hown3 (HB2.out.1.grown hgr3 HB2.out.1.size (fun g' hg' => by injection hg' with hg'; omega)))
      clear hown3 hgr3
      go_wp2_with fail
      go_ret2
      exact ⟨_, _, rfl, (Fresh.of_own HF.out.1).base (by omega), HF.out.2⟩
  · have hd : (K != 0) = true := by simp [h0]
    rw [borderR_no h0]
    have HK := Lib.hid hK
    have HL := Lib.hid hl
    clear hK hl hlx
    go_enter Try.func11, Try.ntmps11
    go_wp2_with fail
    refine (cellsCode_any _ _ _ _ _ _ _ _ _ hs xs _ HI.out.1 HI.out.2.1).mono ?_
    rintro e w1 ⟨rfl, hb1⟩
    rw [← HK.out]
    have HB := Lib.hid (HI.out.2.2.1.trans (hb1.mono (HI.out.2.2.1).size))
    clear hb1
    go_wp2_with fail
    go_ret2
    exact ResI.nil HB.out
end Go.Proofs.Ytdmfapdnepdibaa
