/-
  The way of steepest descent, both sides; whether it leads into cells.
-/
import Derived.Test.YtdmfapdnepdibaaGridY
import Derived.Test.YtdmfapdnepdibaaGridK
namespace Go.Proofs.Ytdmfapdnepdibaa
open Go.ChangeShapes Go.WideShapes Go.ChangeAt Go.RowKit Go.Deep
set_option linter.unusedVariables false

/-- The next cell on the way of steepest descent. -/
def downTo (R C S : Int) (hs : List Int) (k : Int) : Int := nbAt C k (steep R C S hs k).1.toNat
/-- The cells of the way, so many steps at most. -/
def descF (R C S : Int) (hs : List Int) : Nat → Int → List Int
  | 0, k => [k]
  | f + 1, k => if (steep R C S hs k).1 < 0 then [k] else k :: descF R C S hs f (downTo R C S hs k)
def descL (R C S : Int) (hs : List Int) (k : Int) : List Int := descF R C S hs (hg hs k).toNat k
theorem down_facts {R C S : Int} {hs : List Int} {k n : Nat} (hv : gridOk R C S hs = true) (hl : hs.length = n) (h : ¬ (steep R C S hs (k : Int)).1 < 0) :
    ∃ M : Nat, downTo R C S hs k = (M : Int) ∧ M < n ∧ hg hs (M : Int) < hg hs (k : Int) := by
  obtain ⟨_, ⟨c1, c2⟩, ⟨s1, s2⟩, hn, hall⟩ := gridOk_iff.1 hv
  rcases steep_cases (R := R) (C := C) (k := k) hall s1 with ⟨h1, _⟩ | ⟨a, ⟨ha, hok⟩, h1, _, hlow⟩
  · omega
  · have hb := nb_bd hok c1
    have e : downTo R C S hs k = nbAt C k a := by unfold downTo; rw [h1]; rfl
    refine ⟨(nbAt C k a).toNat, by rw [e]; omega, by rw [← hn, hl] at hb; omega, ?_⟩
    rw [show (((nbAt C k a).toNat : Nat) : Int) = nbAt C k a by omega]
    exact hlow
theorem descF_enough {R C S : Int} {hs : List Int} {n : Nat} (hv : gridOk R C S hs = true) (hl : hs.length = n) (f : Nat) : ∀ k : Nat, (hg hs (k : Int)).toNat ≤ f → descF R C S hs f k = descF R C S hs (hg hs (k : Int)).toNat k := by
  obtain ⟨_, _, _, _, hall⟩ := gridOk_iff.1 hv
  induction f using Nat.strongRecOn with
  | ind f ih =>
    intro k hk
    cases f with
    | zero => rw [show (hg hs (k : Int)).toNat = 0 by omega]
    | succ f =>
      by_cases h : (steep R C S hs (k : Int)).1 < 0
      · have e1 : ∀ m, descF R C S hs m k = [(k : Int)] := by
          intro m
          cases m with
          | zero => rfl
          | succ m => unfold descF; rw [if_pos h]
        rw [e1, e1]
      · obtain ⟨M, hM, _, hlow⟩ := down_facts hv hl h
        have b1 := hg_bd hall (M : Int)
        obtain ⟨g, hg'⟩ : ∃ g, (hg hs (k : Int)).toNat = g + 1 := ⟨(hg hs (k : Int)).toNat - 1, by omega⟩
        rw [hg']
        unfold descF
        rw [if_neg h, if_neg h, hM, ih f (by omega) M (by omega)]
        congr 1
        by_cases hgf : g = f
        · rw [hgf, ih f (by omega) M (by omega)]
        · rw [ih g (by omega) M (by omega)]
theorem descL_stop {R C S : Int} {hs : List Int} {k : Int} (h : (steep R C S hs k).1 < 0) : descL R C S hs k = [k] := by
  unfold descL
  cases (hg hs k).toNat with
  | zero => rfl
  | succ m => unfold descF; rw [if_pos h]
theorem descL_step {R C S : Int} {hs : List Int} {k n : Nat} (hv : gridOk R C S hs = true) (hl : hs.length = n) (h : ¬ (steep R C S hs (k : Int)).1 < 0) : descL R C S hs k = (k : Int) :: descL R C S hs (downTo R C S hs k) := by
  obtain ⟨_, _, _, _, hall⟩ := gridOk_iff.1 hv
  obtain ⟨M, hM, _, hlow⟩ := down_facts hv hl h
  have b1 := hg_bd hall (M : Int)
  unfold descL
  obtain ⟨g, hg'⟩ : ∃ g, (hg hs (k : Int)).toNat = g + 1 := ⟨(hg hs (k : Int)).toNat - 1, by omega⟩
  rw [hg']
  conv => lhs; unfold descF
  rw [if_neg h, hM, descF_enough hv hl g M (by omega)]
theorem descL_len {R C S : Int} {hs : List Int} {n : Nat} (hv : gridOk R C S hs = true) (hl : hs.length = n) (f : Nat) : ∀ k : Nat, (hg hs (k : Int)).toNat ≤ f → (descL R C S hs k).length ≤ f + 1 ∧ (k < n → ∀ z ∈ descL R C S hs k, 0 ≤ z ∧ z < n) := by
  obtain ⟨_, _, _, _, hall⟩ := gridOk_iff.1 hv
  induction f with
  | zero =>
    intro k hk
    have h : (steep R C S hs (k : Int)).1 < 0 := by
      by_cases h : (steep R C S hs (k : Int)).1 < 0
      · exact h
      · obtain ⟨M, hM, _, hlow⟩ := down_facts hv hl h
        have b1 := hg_bd hall (M : Int)
        omega
    rw [descL_stop h]
    exact ⟨by simp, fun hkn z hz => by simp at hz; omega⟩
  | succ f ih =>
    intro k hk
    by_cases h : (steep R C S hs (k : Int)).1 < 0
    · rw [descL_stop h]
      exact ⟨by simp, fun hkn z hz => by simp at hz; omega⟩
    · obtain ⟨M, hM, hMn, hlow⟩ := down_facts hv hl h
      have b1 := hg_bd hall (M : Int)
      rw [descL_step hv hl h, hM]
      have := ih M (by omega)
      refine ⟨by simp only [List.length_cons]; omega, fun hkn z hz => ?_⟩
      rcases List.mem_cons.1 hz with rfl | hz
      · omega
      · exact this.2 hMn z hz
def hg_nat (hs : List Int) (k : Int) : Nat := (hg hs k).toNat
def lenOf : Value → Nat
  | .slice _ n _ => n
  | _ => 0
theorem bestV_form (C k : Int) (P : Int × Int) : ∃ i0 i1 i2 : Int, bestV C k P = .agg #[.int .i64 i0, .int .i64 i1, .int .i64 i2] ∧ (foundB P = true → i0 = nbAt C k P.1.toNat) := by
  unfold bestV foundB
  by_cases h : P.1 < 0
  · exact ⟨0, 0, 0, by rw [if_pos h], fun hh => by simp at hh; omega⟩
  · exact ⟨_, _, _, by rw [if_neg h], fun _ => rfl⟩
theorem foundB_no {P : Int × Int} (h : foundB P = false) : P.1 < 0 := by unfold foundB at h; simpa using h
theorem foundB_yes {P : Int × Int} (h : foundB P = true) : ¬ P.1 < 0 := by unfold foundB at h; simp at h; omega
set_option maxRecDepth 100000 in
set_option maxHeartbeats 1600000 in
theorem descent_i (R C S : Int) (A : Option Addr) (n c : Nat) (k : Nat) (hs : List Int) (w : World) (h : GridA w R C S A n hs) (hv : gridOk R C S hs = true) (hk : k < n) :
    Calls Try.prog 58 #[.agg #[.int .i64 R, .int .i64 C, .int .i64 S, .slice A n c], .int .i64 k] w fun e w' => SlI 2 w (descL R C S hs k) e w' := by
  have hl := h.1.1
  have B0 := (Below.refl w.heap.size w).alloc (Nat.le_refl _) (.cells #[.int .i64 R, .int .i64 C, .int .i64 S, .slice A n c] 26)
  have HI := Lib.hid (And.intro (h.below B0) (And.intro B0 (boxG_of w R C S A n c 26)))
  have HV := Lib.hid (And.intro hv hl)
  have HW := Lib.hid h
  clear h B0 hl hv
  go_enter Try.func58, Try.ntmps58
  go_wp2_with fail
  refine (steepest_any R C S A n c k hs _ (HI.out.1.below ((Below.refl _ _).alloc (Nat.le_refl _) (.cells #[.int .i64 (k : Int)] 2))) HV.out.1 hk).mono ?_
  rintro e w1 ⟨rfl, hb1⟩
  obtain ⟨i0, i1, i2, hbv, hi0⟩ := bestV_form C k (steep R C S hs (k : Int))
  rw [hbv]
  have HBV := Lib.hid (And.intro hbv hi0)
  have HB := Lib.hid hb1
  clear hbv hi0 hb1
  obtain ⟨ok, hok⟩ : ∃ ok, ok = foundB (steep R C S hs (k : Int)) := ⟨_, rfl⟩
  rw [← hok]
  have HOK := Lib.hid hok
  clear hok
  go_wp2_with fail
  have HB0 := Lib.hid (HI.out.2.1.trans (((Below.refl _ (w.alloc (.cells #[.int .i64 R, .int .i64 C, .int .i64 S, .slice A n c] 26))).alloc (Nat.le_refl _) (.cells #[.int .i64 (k : Int)] 2)).trans (HB.out.mono (by simp)) |>.mono HI.out.2.1.size))
  have HBX := Lib.hid (show Below w1.heap.size w1 (w1.alloc (.cells #[.int .i64 i0, .int .i64 i1, .int .i64 i2] 67)) from (Below.refl _ _).alloc (Nat.le_refl _) _)
  have HB1 := Lib.hid (show Below (w.alloc (.cells #[.int .i64 R, .int .i64 C, .int .i64 S, .slice A n c] 26)).heap.size (w.alloc (.cells #[.int .i64 R, .int .i64 C, .int .i64 S, .slice A n c] 26)) (w1.alloc (.cells #[.int .i64 i0, .int .i64 i1, .int .i64 i2] 67)) from (((Below.refl _ _).alloc (Nat.le_refl _) (.cells #[.int .i64 (k : Int)] 2)).trans (HB.out.mono (by simp))).alloc (by have := HB.out.size; simp at this ⊢; omega) _)
  have hz1 : w.heap.size + 2 ≤ w1.heap.size := by have := HB.out.size; simpa using this
  have hown0 : (w1.alloc (.cells #[.int .i64 i0, .int .i64 i1, .int .i64 i2] 67)).ownsRow (w.heap.size + 1) 2 1 (.slice (some ⟨w.heap.size + 1, 0, none⟩) 1 1) 1 ([(k : Int)].map (.int .i64)) := by
    have h0 := World.ownsRow_lit (base := w.heap.size + 1) (e := 2) (size := 1) (w.alloc (.cells #[.int .i64 R, .int .i64 C, .int .i64 S, .slice A n c] 26)) #[.int .i64 (k : Int)] 1 (by simp) (by unfold maxLen; simp) rfl
    have e : (w.alloc (.cells #[.int .i64 R, .int .i64 C, .int .i64 S, .slice A n c] 26)).heap.size = w.heap.size + 1 := by simp
    rw [e] at h0
    exact own_below (own_below h0 HB.out) HBX.out
  go_loopw [5, 6, 7] (fun o xb okv wr => ∃ (m : Nat) (pre : List Int) (xk : Nat) (j0 j1 j2 : Int), m < n ∧ xb = .pointer (some ⟨xk, 0, none⟩) ∧ okv = .bool (foundB (steep R C S hs (m : Int))) ∧ Hid ((foundB (steep R C S hs (m : Int)) = true → j0 = downTo R C S hs m) ∧ descL R C S hs k = pre ++ descL R C S hs m) ∧
      wr.heap[xk]? = some (.cells #[.int .i64 j0, .int .i64 j1, .int .i64 j2] 67 (0, 0)) ∧ Below w.heap.size w wr ∧ w.heap.size + 1 ≤ wr.heap.size ∧ BoxG wr w.heap.size R C S A n c ∧ Ints wr A n hs ∧ wr.ownsRow (w.heap.size + 1) 2 1 o (pre.length + 1) ((pre ++ [(m : Int)]).map (.int .i64)) ∧ (∀ g, o.ownBlock = some g → g ≠ xk)) (fun o _ _ _ => (descL R C S hs k).length - lenOf o)
  case atStart =>
    refine ⟨k, [], w1.heap.size, i0, i1, i2, hk, rfl, by rw [HOK.out], ⟨HBV.out.2, by simp⟩, blk_alloc_new _ _, ?_, by simp; omega, HI.out.2.2.below HB1.out, HI.out.1.1.below HB1.out, hown0, ?_⟩
    · exact HI.out.2.1.trans (HB1.out.mono HI.out.2.1.size)
    · intro g hg
      simp [Value.ownBlock] at hg
      omega
  case round =>
    clear hown0 hz1
    obtain ⟨m, pre, xk, j0, j1, j2, hmn, rfl, rfl, HH, hxb, hbl, hz, hgx, hx, hown, hne⟩ := hrel
    have hdl := descL_len HV.out.1 HV.out.2 (hg_nat hs k) k (Nat.le_refl _)
    obtain ⟨A', c', rfl, _⟩ := own_form hown
    cases hf : foundB (steep R C S hs (m : Int))
    · have HE := Lib.hid (show descL R C S hs k = pre ++ [(m : Int)] by rw [HH.out.2, descL_stop (foundB_no hf)])
      have HO := Lib.hid (And.intro hbl hown)
      clear hbl hown hx hgx hxb hne hdl
      go_wp2_with fail
      go_ret
      exact ⟨A', c', by rw [HE.out, List.length_append]; rfl, by rw [HE.out, List.length_append]; exact Fresh.of_own (own_base HO.out.2 (Nat.le_succ _)), HO.out.1⟩
    · obtain ⟨M, hM, hMn, hlow⟩ := down_facts HV.out.1 HV.out.2 (foundB_yes hf)
      have hj0 : j0 = (M : Int) := by rw [HH.out.1 hf, hM]
      subst hj0
      have HD := Lib.hid (show descL R C S hs k = (pre ++ [(m : Int)]) ++ descL R C S hs M by
        rw [HH.out.2, descL_step HV.out.1 HV.out.2 (foundB_yes hf), hM]
        simp)
      have hlen : pre.length + 1 < (descL R C S hs k).length := by
        rw [HD.out]
        have : 1 ≤ (descL R C S hs (M : Int)).length := by
          unfold descL
          cases (hg hs (M : Int)).toNat with
          | zero => simp [descF]
          | succ f => unfold descF; split <;> simp
        simp only [List.length_append, List.length_cons, List.length_nil]
        omega
      have hbdk := hg_bd (gridOk_iff.1 HV.out.1).2.2.2.2 (k : Int)
      have hpl : pre.length ≤ 10000 := by have := hdl.1; unfold hg_nat at this; omega
      have c0 := Go.Joins.cell_of_block hxb 0
      have c1 := Go.Joins.cell_of_block hxb 1
      have c2 := Go.Joins.cell_of_block hxb 2
      simp at c0 c1 c2
      have HO := Lib.hid (And.intro hbl (And.intro hz (And.intro hgx (And.intro hx (And.intro hown (And.intro hxb hne))))))
      have HM := Lib.hid (And.intro hM (And.intro hlow hdl))
      have hzz := hz
      clear hbl hown hx hgx hxb hne hdl hM hlow hbdk
      go_wp2_with (at_builtin; refine wp_app_int rfl (.tmp 24) (.tmp 27) 24 rfl (w.heap.size + 1) 2 Try.underlying24 info_int _ _ (pre ++ [(m : Int)]) (M : Int) (by rfl) HO.out.2.2.2.2.1 (by rfl) (by omega) hzz ?_; intro v' w3 hown3 hgrow3 hv3; obtain ⟨g, cc, rfl⟩ := hv3; have d0 := hgrow3.cell c0 (fun e => HO.out.2.2.2.2.2.2 _ e.symm rfl); have d1 := hgrow3.cell c1 (fun e => HO.out.2.2.2.2.2.2 _ e.symm rfl); have d2 := hgrow3.cell c2 (fun e => HO.out.2.2.2.2.2.2 _ e.symm rfl); obtain ⟨g0, g1, g2, g3⟩ := HO.out.2.2.1.grow hgrow3 (fun g h e => by have := own_blk HO.out.2.2.2.2.1 g h; omega); have zx : w.heap.size < w3.heap.size := Nat.lt_of_lt_of_le hzz hgrow3.size; have HG := Lib.hid (And.intro hgrow3 hown3); clear hgrow3 hown3 c0 c1 c2)
      have HGO := Lib.hid (HG.out.2.lt g (by rfl))
      have HX3 := Lib.hid (And.intro (HO.out.2.2.2.1.old HG.out.1 HW.out.1 (fun g h => Nat.le_of_succ_le (own_blk HO.out.2.2.2.2.1 g h))) (show BoxG w3 w.heap.size R C S A n c from ⟨g0, g1, g2, g3⟩))
      have HBW := Lib.hid (HO.out.1.grown HG.out.1 HO.out.1.size (fun g h => Nat.le_of_succ_le (own_blk HO.out.2.2.2.2.1 g h)))
      have HB3 := Lib.hid (show Below w3.heap.size w3 (w3.alloc (.cells #[.int .i64 (M : Int), .int .i64 j1, .int .i64 j2] 67)) from (Below.refl _ _).alloc (Nat.le_refl _) _)
      refine (steepest_any R C S A n c M hs _ ⟨HX3.out.1.below HB3.out, HI.out.1.2⟩ HV.out.1 hMn).mono ?_
      rintro e w4 ⟨rfl, hb4⟩
      obtain ⟨q0, q1, q2, hbv2, hq0⟩ := bestV_form C M (steep R C S hs (M : Int))
      rw [hbv2]
      have HQ := Lib.hid (And.intro hbv2 hq0)
      have HB4 := Lib.hid (HB3.out.trans (hb4.mono HB3.out.size))
      have hxb4 := (hb4.block w3.heap.size (by simp)).trans (blk_alloc_new w3 (.cells #[.int .i64 (M : Int), .int .i64 j1, .int .i64 j2] 67))
      have HXB := Lib.hid hxb4
      have e0 := Go.Joins.cell_of_block hxb4 0
      have e1 := Go.Joins.cell_of_block hxb4 1
      have e2 := Go.Joins.cell_of_block hxb4 2
      have f0 := Go.Joins.unfrozen_of_block hxb4 0
      have f1 := Go.Joins.unfrozen_of_block hxb4 1
      have f2 := Go.Joins.unfrozen_of_block hxb4 2
      simp at e0 e1 e2
      clear hb4 hbv2 hq0 hxb4 g0 g1 g2 g3 d0 d1 d2
      obtain ⟨okM, hokM⟩ : ∃ okM, okM = foundB (steep R C S hs (M : Int)) := ⟨_, rfl⟩
      rw [← hokM]
      have HOKM := Lib.hid hokM
      clear hokM hf
      go_wp2_with fail
      have HT := Lib.hid (And.intro (((HB4.out.setCell (p := ⟨w3.heap.size, 0, none⟩) (Nat.le_refl _) (.int .i64 q0)).setCell (p := ⟨w3.heap.size, 1, none⟩) (Nat.le_refl _) (.int .i64 q1)).setCell (p := ⟨w3.heap.size, 2, none⟩) (Nat.le_refl _) (.int .i64 q2)) (Go.Joins.block_setCell (Go.Joins.block_setCell (Go.Joins.block_setCell (i := 0) HXB.out (.int .i64 q0)) (i := 1) (.int .i64 q1)) (i := 2) (.int .i64 q2)))
      go_roundw
      case rel => exact ⟨M, pre ++ [(m : Int)], w3.heap.size, q0, q1, q2, hMn, rfl, by rw [HOKM.out], ⟨HQ.out.2, HD.out⟩, HT.out.2, HBW.out.trans (HT.out.1.mono HBW.out.size), Nat.le_trans (Nat.succ_le_of_lt zx) HT.out.1.size, HX3.out.2.below HT.out.1, HX3.out.1.below HT.out.1, by simpa using own_below HG.out.2 HT.out.1, fun g' hg' => by simp [Value.ownBlock] at hg'; have := HGO.out.2; omega⟩
      case measure => simp [lenOf]; omega
end Go.Proofs.Ytdmfapdnepdibaa
