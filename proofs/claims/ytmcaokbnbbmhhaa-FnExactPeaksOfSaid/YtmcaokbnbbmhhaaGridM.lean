/-
  The cells that no cell around them is above, the reference's.
-/
import Derived.Test.YtmcaokbnbbmhhaaGridI
namespace Go.Proofs.Ytmcaokbnbbmhhaa
open Go.ChangeShapes Go.WideShapes Go.ChangeAt Go.RowKit Go.Deep
set_option linter.unusedVariables false

def leB (hs : List Int) (k z : Int) : Bool := decide (hg hs z ≤ hg hs k)
theorem peak_link {R C : Int} {hs : List Int} (k : Nat) : peakP R C hs k = (near R C k).all (leB hs k) := by
  unfold peakP
  rw [Bool.eq_iff_iff, Bool.not_eq_true', List.any_eq_false, List.all_eq_true]
  constructor
  · intro h z hz
    obtain ⟨a, ha, rfl⟩ := mem_near.1 hz
    have := h a ha
    unfold highQ at this
    unfold leB
    simp at this ⊢
    exact this
  · intro h a ha hc
    have := h _ (mem_near.2 ⟨a, ha, rfl⟩)
    unfold highQ at hc
    unfold leB at this
    simp at this hc
    omega
theorem all_snoc {p : Int → Bool} {l : List Int} {j : Nat} {z : Int} (h : l[j]? = some z) : (l.take (j + 1)).all p = ((l.take j).all p && p z) := by
  rw [List.take_add_one, h, List.all_append]
  simp
set_option maxRecDepth 100000 in
set_option maxHeartbeats 800000 in
theorem PeaksOf_s (R C S : Int) (A : Option Addr) (n c : Nat) (hs : List Int) (w : World) (h : GridA w R C S A n hs) :
    Calls Try.prog 28 #[.agg #[.int .i64 R, .int .i64 C, .int .i64 S, .slice A n c]] w fun e w' => ResI 2 w (cellsR (gridK R C S hs) n (peakP R C hs)) (gridK R C S hs) e w' := by
  have hl := h.1.1
  have HW := Lib.hid h
  have B0 := (Below.refl w.heap.size w).alloc (Nat.le_refl _) (.cells #[.int .i64 R, .int .i64 C, .int .i64 S, .slice A n c] 28)
  have HI := Lib.hid (And.intro (h.box (c := c) 28) (And.intro B0 (boxG_of w R C S A n c 28)))
  clear h B0
  cases hv : gridOk R C S hs
  · have HE := Lib.hid (show gridK R C S hs = 1 by simp [gridK, hv])
    have HX := Lib.hid hv
    rw [HE.out, cellsR_no (by omega)]
    clear hv hl
    go_enter Try.func28, Try.ntmps28
    go_wp2_with fail
    refine (l09Ok_any _ _ _ _ _ _ _ hs _ HI.out.1).mono ?_
    rintro e w1 ⟨rfl, q1, rfl⟩
    rw [HX.out]
    go_wp2_with fail
    go_ret2
    exact ResI.nil (below_drewN HI.out.2.1 _)
  · have HE := Lib.hid (show gridK R C S hs = 0 by simp [gridK, hv])
    have h64 := grid_len hl HE.out
    have hrc := (gridOk_iff.1 hv).2.2.2.1
    obtain ⟨⟨r1, r2⟩, ⟨c1, c2⟩, _⟩ := gridOk_iff.1 hv
    have hm := mul64 r1 r2 c1 c2
    rw [hl] at hrc
    have HL := Lib.hid hrc
    have HX := Lib.hid hv
    rw [HE.out, cellsR_yes rfl]
    clear hv hl hrc
    go_enter Try.func28, Try.ntmps28
    go_wp2_with fail
    refine (l09Ok_any _ _ _ _ _ _ _ hs _ HI.out.1).mono ?_
    rintro e w1 ⟨rfl, q1, rfl⟩
    rw [HX.out]
    go_wp2_with fail
    have hown0 := World.ownsRow_lit (base := w.heap.size + 1) (e := 2) (size := 1) ((w.alloc (.cells #[.int .i64 R, .int .i64 C, .int .i64 S, .slice A n c] 28)).drewN q1) #[] 0 (by simp [World.drewN]) (by simp) rfl
    have hb0 := (below_drewN HI.out.2.1 q1).alloc (below_drewN HI.out.2.1 q1).size (.cells #[] 2)
    have hg0 := (HI.out.2.2.below (below_drewN (Below.refl _ _) q1)).below ((Below.refl _ _).alloc (Nat.le_refl _) (.cells #[] 2))
    have hz0 : w.heap.size + 1 ≤ (((w.alloc (.cells #[.int .i64 R, .int .i64 C, .int .i64 S, .slice A n c] 28)).drewN q1).alloc (.cells #[] 2)).heap.size := by simp [World.drewN]
    have hi0 := (HI.out.1.2.2.2.2.below (below_drewN (Below.refl _ _) q1)).below ((Below.refl _ _).alloc (Nat.le_refl _) (.cells #[] 2))
    go_loopw [4, 5] (fun o i wr => ∃ k : Nat, k ≤ n ∧ i = .int .i64 k ∧ Below w.heap.size w wr ∧ w.heap.size + 1 ≤ wr.heap.size ∧ BoxG wr w.heap.size R C S A n c ∧ GridA wr R C S A n hs ∧ wr.ownsRow (w.heap.size + 1) 2 1 o (cellsB k (peakP R C hs)).length ((cellsB k (peakP R C hs)).map (.int .i64))) (fun _ i _ => n - (intOf i).toNat)
    case atStart => exact ⟨0, Nat.zero_le _, rfl, hb0, hz0, hg0, hi0, by simpa [cellsB] using hown0⟩
    case round =>
      clear hb0 hown0 hg0 hz0 hi0
      obtain ⟨k, hk, rfl, hbl, hz, hg, hx, hown⟩ := hrel
      have hlen := cellsB_len k (peakP R C hs)
      obtain ⟨A', c', rfl, _⟩ := own_form hown
      by_cases hlt : k < n
      · have hki : (k : Int) < R * C := by have := HL.out; omega
        have HO := Lib.hid (And.intro hbl (And.intro hz (And.intro hg (And.intro hx hown))))
        obtain ⟨p0, p1, p2, p3⟩ := hg
        clear hown hbl hz
        go_wp2_with fail
        refine (l09Near_any _ R C S A n c k _ HO.out.2.2.1 r1 r2 c1 c2 hlt h64).mono ?_
        rintro e w2 ⟨A2, cc2, rfl, hf2, hb2⟩
        have hnl := nearTo_len R C k 8
        have HNI := Lib.hid (show Ints w2 A2 (near R C k).length (near R C k) by
          rcases Nat.eq_zero_or_pos (near R C k).length with h0 | h0
          · have e0 : near R C k = [] := List.length_eq_zero_iff.1 h0
            rw [e0]
            exact Ints.nil _ _
          · exact Ints.of_own (hf2.2 h0) (nearTo_bd c1 (Nat.le_refl _) hm.2))
        have HB := Lib.hid (And.intro (HO.out.1.trans (hb2.mono HO.out.1.size)) (And.intro (Nat.le_trans HO.out.2.1 hb2.size) (And.intro (HO.out.2.2.1.below hb2) (And.intro (HO.out.2.2.2.1.below hb2) (own_below HO.out.2.2.2.2 hb2)))))
        clear hf2 hb2 p0 p1 p2 p3 hx
        obtain ⟨L, hL⟩ : ∃ L, L = near R C k := ⟨_, rfl⟩
        have hLl : L.length ≤ 8 := by rw [hL]; exact hnl
        rw [← hL] at HNI ⊢
        have HLE := Lib.hid hL
        clear hL hnl
        go_wp2_with fail
        have hz2 := HB.out.2.1
        go_loopw [7, 8] (fun tp i wr' => ∃ j q : Nat, j ≤ L.length ∧ i = .int .i64 j ∧ tp = .bool ((L.take j).all (leB hs k)) ∧ wr' = w2.drewN q) (fun _ i _ => L.length - (intOf i).toNat)
        case atStart => exact ⟨0, 0, Nat.zero_le _, rfl, by simp, rfl⟩
        case round =>
          obtain ⟨j, q, hj, rfl, rfl, rfl⟩ := hrel
          by_cases hjl : j < L.length
          · obtain ⟨bn, on, z, rfl, HZ, hcz, _⟩ := HNI.out.at_ hjl
            obtain ⟨a, ha8, hok, hza⟩ := mem_nearTo (Nat.le_refl 8) (show z ∈ nearTo R C k 8 by have := List.mem_of_getElem? HZ.out; rw [HLE.out] at this; exact this)
            have hzb := nb_bd hok c1
            rw [← hza, ← HL.out] at hzb
            obtain ⟨M, hM⟩ : ∃ M : Nat, z = (M : Int) := ⟨z.toNat, by omega⟩
            subst hM
            have hMn : M < n := by omega
            obtain ⟨b, off, xk, rfl, HXk, hck, _⟩ := HB.out.2.2.2.1.1.at_ hlt
            obtain ⟨b', off', xM, hA', HXM, hcM, _⟩ := HB.out.2.2.2.1.1.at_ hMn
            injection hA' with hA'
            injection hA' with hb' ho' _
            subst hb' ho'
            obtain ⟨p0, p1, p2, p3⟩ := HB.out.2.2.1
            have HV := Lib.hid (show leB hs k (M : Int) = decide (xM ≤ xk) by unfold leB; rw [hg_eq HXk.out, hg_eq HXM.out])
            have hji : (j : Int) < (L.length : Int) := by omega
            have hkI : (k : Int) < (n : Int) := by omega
            have hMI : (M : Int) < (n : Int) := by omega
            clear hza hzb hok ha8
            cases hT : (L.take j).all (leB hs k)
            · have HN := Lib.hid (show (L.take (j + 1)).all (leB hs k) = false by rw [all_snoc HZ.out, hT]; rfl)
              clear hT
              go_wp2_with fail
              go_quiet (fail)
              go_wp2_with fail
              go_roundw
              case rel => exact ⟨j + 1, _, by omega, by go_num, by rw [HN.out], rfl⟩
              case measure => simp [intOf]; omega
            · have HN := Lib.hid (show (L.take (j + 1)).all (leB hs k) = decide (xM ≤ xk) by rw [all_snoc HZ.out, hT, HV.out]; rfl)
              clear hT
              go_wp2_with fail
              go_quiet (fail)
              go_wp2_with fail
              go_roundw
              case rel => exact ⟨j + 1, _, by omega, by go_num, by rw [HN.out], rfl⟩
              case measure => simp [intOf]; omega
          · obtain rfl : j = L.length := by omega
            have HTk := Lib.hid (show peakP R C hs k = (L.take L.length).all (leB hs k) by rw [peak_link, ← HLE.out, List.take_of_length_le (Nat.le_refl _)])
            cases hT : (L.take L.length).all (leB hs k)
            · have HS := Lib.hid (show cellsB (k + 1) (peakP R C hs) = cellsB k (peakP R C hs) by rw [cellsB_succ, HTk.out, hT, if_neg (by simp)]; simp)
              clear hT hjl
              go_wp2_with fail
              go_roundw
              case rel => exact ⟨k + 1, by omega, by go_num, below_drewN HB.out.1 _, HB.out.2.1, HB.out.2.2.1, HB.out.2.2.2.1, by rw [HS.out]; exact HB.out.2.2.2.2⟩
              case measure => simp [intOf]; omega
            · have HS := Lib.hid (show cellsB (k + 1) (peakP R C hs) = cellsB k (peakP R C hs) ++ [(k : Int)] by rw [cellsB_succ, HTk.out, hT, if_pos rfl])
              clear hT hjl
              have HD := Lib.hid (And.intro (show (w2.drewN q).ownsRow (w.heap.size + 1) 2 1 (.slice A' (cellsB k (peakP R C hs)).length c') (cellsB k (peakP R C hs)).length ((cellsB k (peakP R C hs)).map (.int .i64)) from HB.out.2.2.2.2) (below_drewN HB.out.1 q))
              go_wp2_with (at_builtin; refine wp_app_int rfl (.tmp 47) (.tmp 49) 22 rfl (w.heap.size + 1) 2 Try.underlying22 info_int _ _ (cellsB k (peakP R C hs)) (k : Int) (by rfl) HD.out.1 (by rfl) (by omega) hz2 ?_; intro v' w3 hown3 hgrow3 hv3)
              obtain ⟨g, cc, rfl⟩ := hv3
              have HF := Lib.hid (And.intro (HD.out.2.grown hgrow3 HD.out.2.size (fun g h => Nat.le_of_succ_le (own_blk HD.out.1 g h))) (And.intro (Nat.le_trans HB.out.2.1 hgrow3.size) (And.intro (HB.out.2.2.1.grow (w := w2.drewN q) hgrow3 (fun g h e => by have := own_blk HD.out.1 g h; omega)) (And.intro (GridA.old (w := w2.drewN q) HB.out.2.2.2.1 hgrow3 HW.out (fun g h => Nat.le_of_succ_le (own_blk HD.out.1 g h))) hown3))))
              clear hown3 hgrow3
              go_wp2_with fail
              go_roundw
              case rel => exact ⟨k + 1, by omega, by go_num, HF.out.1, HF.out.2.1, HF.out.2.2.1, HF.out.2.2.2.1, by rw [HS.out]; simpa using HF.out.2.2.2.2⟩
              case measure => simp [intOf]; omega
      · obtain rfl : k = n := by omega
        have hki : ¬ (k : Int) < R * C := by have := HL.out; omega
        obtain ⟨p0, p1, p2, p3⟩ := hg
        have HO := Lib.hid (And.intro hbl hown)
        clear hlt hbl hown hx
        go_wp2_with fail
        go_ret2
        exact ResI.of (Fresh.of_own (own_base HO.out.2 (Nat.le_succ _))) (Nat.le_refl _) HO.out.1
end Go.Proofs.Ytmcaokbnbbmhhaa
