/-
  The cells at the border of cells, the reference's.
-/
import Derived.Test.YtmcaokbnbbmhhaaGridBo
import Derived.Test.YtmcaokbnbbmhhaaGridX
namespace Go.Proofs.Ytmcaokbnbbmhhaa
open Go.ChangeShapes Go.WideShapes Go.ChangeAt Go.RowKit Go.Deep
set_option linter.unusedVariables false

def sideB (R C : Int) (xs : List Int) (k : Int) (a : Nat) : Bool := nbOk R C k a && hasB xs (nbAt C k a)
def innerTo (R C : Int) (xs : List Int) (k : Int) (m : Nat) : Bool := (List.range m).all (sideB R C xs k)
theorem innerTo_succ (R C : Int) (xs : List Int) (k : Int) (m : Nat) : innerTo R C xs k (m + 1) = (innerTo R C xs k m && sideB R C xs k m) := by
  unfold innerTo
  rw [List.range_succ, List.all_append]
  simp
theorem inner_link (R C : Int) (xs : List Int) (k : Int) : innerB R C xs k = innerTo R C xs k 8 := by
  rw [Bool.eq_iff_iff]
  unfold innerB innerTo
  rw [Bool.and_eq_true, decide_eq_true_eq, Bool.not_eq_true', List.any_eq_false, List.all_eq_true]
  constructor
  · rintro ⟨h8, hall⟩ a ha
    have hfl : (dirs R C k).length = (List.range 8).length := by rw [h8]; rfl
    have hok := (List.length_filter_eq_length_iff.1 hfl) a ha
    have := hall a (mem_dirs.2 ⟨List.mem_range.1 ha, hok⟩)
    unfold outQ at this
    unfold sideB
    simp at this
    rw [hok, this]
    rfl
  · intro h
    have hok : ∀ a ∈ List.range 8, nbOk R C k a = true := fun a ha => by
      have := h a ha
      unfold sideB at this
      rw [Bool.and_eq_true] at this
      exact this.1
    refine ⟨(List.length_filter_eq_length_iff.2 hok).trans rfl, fun a ha => ?_⟩
    have := h a (List.mem_range.2 (mem_dirs.1 ha).1)
    unfold sideB at this
    rw [Bool.and_eq_true] at this
    unfold outQ
    simp [this.2]
set_option maxRecDepth 100000 in
set_option maxHeartbeats 1600000 in
theorem BorderOf_s (R C S : Int) (A : Option Addr) (n c : Nat) (B : Addr) (m d : Nat) (hs xs : List Int) (w : World) (h : GridA w R C S A n hs) (h' : Ints w (some B) m xs) :
    Calls Try.prog 34 #[.agg #[.int .i64 R, .int .i64 C, .int .i64 S, .slice A n c], .slice (some B) m d] w fun e w' => ResI 2 w (borderR (cellsC R C S hs xs) R C xs m) (cellsC R C S hs xs) e w' := by
  have hl := h.1.1
  have hlx := h'.1
  have B0 := (Below.refl w.heap.size w).alloc (Nat.le_refl _) (.cells #[.int .i64 R, .int .i64 C, .int .i64 S, .slice A n c] 28)
  have HI := Lib.hid (And.intro (h.box (c := c) 28) (And.intro (h'.below B0) (And.intro B0 (boxG_of w R C S A n c 28))))
  have HW := Lib.hid h'
  clear h h' B0
  obtain ⟨K, hK⟩ : ∃ K, K = cellsC R C S hs xs := ⟨_, rfl⟩
  have hcb := cellsC_bd R C S hs xs
  rw [← hK] at hcb ⊢
  by_cases h0 : K = 0
  · obtain ⟨⟨r1, r2⟩, ⟨c1, c2⟩, ⟨s1, s2⟩, hn, h64⟩ := cells_facts hl (hK.symm.trans h0)
    obtain ⟨hv, hri⟩ := cellsC_ok (hK.symm.trans h0)
    have hm64 := rises_len hri (by omega)
    rw [hlx] at hm64
    have HR := Lib.hid (And.intro hv (And.intro (rises_iff.1 hri).2 (And.intro hn (And.intro hl hlx))))
    rw [borderR_yes h0]
    have HK := Lib.hid hK
    subst h0
    have hm6 : m ≤ 64 := by omega
    clear hK hl hcb hn hv hri hlx hm64
    go_enter Try.func34, Try.ntmps34
    go_wp2_with fail
    refine (l11Ask_any _ _ _ _ _ _ _ _ _ _ hs xs _ HI.out.1 HI.out.2.1).mono ?_
    rintro e w1 ⟨rfl, q1, rfl⟩
    rw [← HK.out]
    go_wp2_with fail
    have hown0 := World.ownsRow_lit (base := w.heap.size + 1) (e := 2) (size := 1) ((w.alloc (.cells #[.int .i64 R, .int .i64 C, .int .i64 S, .slice A n c] 28)).drewN q1) #[] 0 (by simp [World.drewN]) (by simp) rfl
    have hb0 := (below_drewN HI.out.2.2.1 q1).alloc (below_drewN HI.out.2.2.1 q1).size (.cells #[] 2)
    have hg0 := (HI.out.2.2.2.below (below_drewN (Below.refl _ _) q1)).below ((Below.refl _ _).alloc (Nat.le_refl _) (.cells #[] 2))
    have hz0 : w.heap.size + 1 ≤ (((w.alloc (.cells #[.int .i64 R, .int .i64 C, .int .i64 S, .slice A n c] 28)).drewN q1).alloc (.cells #[] 2)).heap.size := by simp [World.drewN]
    have HI2 := Lib.hid (HI.out.2.1.below (below_drewN (Below.refl _ _) q1) |>.below ((Below.refl _ _).alloc (Nat.le_refl _) (.cells #[] 2)))
    go_loopw [7, 8] (fun o i wr => ∃ k : Nat, k ≤ m ∧ i = .int .i64 k ∧ Below w.heap.size w wr ∧ w.heap.size + 1 ≤ wr.heap.size ∧ BoxG wr w.heap.size R C S A n c ∧ Ints wr (some B) m xs ∧ wr.ownsRow (w.heap.size + 1) 2 1 o (keptTo (innerB R C xs) xs k).length ((keptTo (innerB R C xs) xs k).map (.int .i64))) (fun _ i _ => m - (intOf i).toNat)
    case atStart => exact ⟨0, Nat.zero_le _, rfl, hb0, hz0, hg0, HI2.out, by simpa [keptTo] using hown0⟩
    case round =>
      clear hb0 hown0 hg0 hz0 HI2
      obtain ⟨k, hk, rfl, hbl, hz, hg, hx, hown⟩ := hrel
      have hlen := keptTo_len (innerB R C xs) xs k
      obtain ⟨A', c', rfl, _⟩ := own_form hown
      by_cases hlt : k < m
      · obtain ⟨bx, ox, cc, hBA, HC, hcc, _⟩ := hx.at_ hlt
        injection hBA with hBA
        subst hBA
        have hcbd := allB_iff.1 HR.out.2.1 k cc HC.out
        obtain ⟨Q, hQ⟩ : ∃ Q : Nat, cc = (Q : Int) := ⟨cc.toNat, by omega⟩
        subst hQ
        have hQn : Q < n := by have := HR.out.2.2.1; omega
        have hki : (k : Int) < (m : Int) := by omega
        have HO := Lib.hid (And.intro hbl (And.intro hz (And.intro hg (And.intro hx hown))))
        clear hown hbl hz hg hcc
        go_wp2_with fail
        go_loopw [9, 10] (fun iv i wr2 => ∃ a : Nat, a ≤ 8 ∧ i = .int .i64 a ∧ iv = .bool (innerTo R C xs (Q : Int) a) ∧ Below wr.heap.size wr wr2) (fun _ i _ => 8 - (intOf i).toNat)
        case atStart => exact ⟨0, Nat.zero_le _, rfl, by simp [innerTo], Below.refl _ _⟩
        case round =>
          obtain ⟨a, ha, rfl, rfl, hb2⟩ := hrel
          have HB2 := Lib.hid (And.intro (HO.out.1.trans (hb2.mono HO.out.1.size)) (And.intro (Nat.le_trans HO.out.2.1 hb2.size) (And.intro (HO.out.2.2.1.below hb2) (And.intro (HO.out.2.2.2.1.below hb2) (own_below HO.out.2.2.2.2 hb2)))))
          obtain ⟨bx2, ox2, cc2, hA2, HC2, hcc2, _⟩ := HB2.out.2.2.2.1.at_ hlt
          injection hA2 with hA2
          injection hA2 with hbb hoo _
          subst hbb hoo
          have hce : cc2 = (Q : Int) := by have := HC2.out.symm.trans HC.out; injection this
          subst hce
          have HBL := Lib.hid hb2
          clear hb2 hx
          by_cases ha8 : a < 8
          · have hai : (a : Int) < 8 := by omega
            have hgx := HB2.out.2.2.1
            obtain ⟨V, hV⟩ : ∃ V, V = goAt R C Q a := ⟨_, rfl⟩
            have HI9 := Lib.hid (innerTo_succ R C xs (Q : Int) a)
            go_wp2_with fail
            refine (l09Go_any _ R C S A n c Q a _ hgx r1 r2 c1 c2 hQn h64 ha8).mono ?_
            rintro e w3 ⟨rfl, hb3⟩
            rw [← hV]
            have HB3 := Lib.hid (And.intro (HBL.out.trans (hb3.mono HBL.out.size)) (HB2.out.2.2.2.1.below hb3))
            clear hb3 hgx hcc2
            cases hT : innerTo R C xs (Q : Int) a
            · have HN := Lib.hid (show innerTo R C xs (Q : Int) (a + 1) = false by rw [HI9.out, hT]; rfl)
              clear hT
              have HVV := Lib.hid hV
              clear hV
              go_wp2_with fail
              go_roundw
              case rel => exact ⟨a + 1, by omega, by go_num, by rw [HN.out], HB3.out.1⟩
              case measure => simp [intOf]; omega
            · cases hok : nbOk R C (Q : Int) a
              · have hV1 : V = -1 := by rw [hV, goAt_no hok]
                have HN := Lib.hid (show innerTo R C xs (Q : Int) (a + 1) = false by rw [HI9.out, hT]; unfold sideB; rw [hok]; rfl)
                subst hV1
                clear hT hok hV
                go_wp2_with fail
                go_roundw
                case rel => exact ⟨a + 1, by omega, by go_num, by rw [HN.out], HB3.out.1⟩
                case measure => simp [intOf]; omega
              · have hV1 : V = nbAt C Q a := by rw [hV, goAt_yes hok]
                have hnb := nb_bd hok c1
                have HN := Lib.hid (show innerTo R C xs (Q : Int) (a + 1) = hasB xs V by rw [HI9.out, hT, hV1]; unfold sideB; rw [hok]; rfl)
                rw [← hV1] at hnb
                have hV0 : 0 ≤ V := hnb.1
                clear hT hok hV hV1
                go_wp2_with fail
                refine (l00Has_any _ _ _ _ xs _ HB3.out.2).mono ?_
                rintro e w4 ⟨rfl, q4, rfl⟩
                go_wp2_with fail
                go_roundw
                case rel => exact ⟨a + 1, by omega, by go_num, by rw [HN.out], below_drewN HB3.out.1 _⟩
                case measure => simp [intOf]; omega
          · obtain rfl : a = 8 := by omega
            have HTk := Lib.hid (inner_link R C xs (Q : Int))
            have hz2 := HB2.out.2.1
            cases hT : innerTo R C xs (Q : Int) 8
            · have HS := Lib.hid (show keptTo (innerB R C xs) xs (k + 1) = keptTo (innerB R C xs) xs k ++ [(Q : Int)] from keptTo_yes HC.out (by rw [HTk.out, hT]))
              clear hT ha8
              go_wp2_with (at_builtin; refine wp_app_int rfl (.tmp 46) (.tmp 51) 22 rfl (w.heap.size + 1) 2 Try.underlying22 info_int _ _ (keptTo (innerB R C xs) xs k) (Q : Int) (by rfl) HB2.out.2.2.2.2 (by rfl) (by omega) hz2 ?_; intro v' w4 hown3 hgrow3 hv3)
              obtain ⟨g, cc, rfl⟩ := hv3
              have HF := Lib.hid (And.intro (HB2.out.1.grown hgrow3 HB2.out.1.size (fun g h => Nat.le_of_succ_le (own_blk HB2.out.2.2.2.2 g h))) (And.intro (Nat.le_trans HB2.out.2.1 hgrow3.size) (And.intro (HB2.out.2.2.1.grow hgrow3 (fun g h e => by have := own_blk HB2.out.2.2.2.2 g h; omega)) (And.intro (HB2.out.2.2.2.1.old hgrow3 HW.out (fun g h => Nat.le_of_succ_le (own_blk HB2.out.2.2.2.2 g h))) hown3))))
              clear hown3 hgrow3
              go_wp2_with fail
              go_roundw
              case rel => exact ⟨k + 1, by omega, by go_num, HF.out.1, HF.out.2.1, HF.out.2.2.1, HF.out.2.2.2.1, by rw [HS.out]; simpa using HF.out.2.2.2.2⟩
              case measure => simp [intOf]; omega
            · have HS := Lib.hid (show keptTo (innerB R C xs) xs (k + 1) = keptTo (innerB R C xs) xs k from keptTo_no HC.out (by rw [HTk.out, hT]))
              clear hT ha8 hcc2
              go_wp2_with fail
              go_roundw
              case rel => exact ⟨k + 1, by omega, by go_num, HB2.out.1, HB2.out.2.1, HB2.out.2.2.1, HB2.out.2.2.2.1, by rw [HS.out]; exact HB2.out.2.2.2.2⟩
              case measure => simp [intOf]; omega
      · obtain rfl : k = m := by omega
        have HO := Lib.hid (And.intro hbl hown)
        clear hlt hbl hown hx hg
        go_wp2_with fail
        go_ret2
        exact ResI.of (Fresh.of_own (own_base HO.out.2 (Nat.le_succ _))) (Nat.le_refl _) HO.out.1
  · have hd : (K != 0) = true := by simp [h0]
    rw [borderR_no h0]
    have HK := Lib.hid hK
    have HL := Lib.hid hl
    clear hK hl hlx
    go_enter Try.func34, Try.ntmps34
    go_wp2_with fail
    refine (l11Ask_any _ _ _ _ _ _ _ _ _ _ hs xs _ HI.out.1 HI.out.2.1).mono ?_
    rintro e w1 ⟨rfl, q1, rfl⟩
    rw [← HK.out]
    go_wp2_with fail
    go_ret2
    exact ResI.nil (below_drewN HI.out.2.2.1 _)
end Go.Proofs.Ytmcaokbnbbmhhaa
