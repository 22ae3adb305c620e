/-
  The cells that nothing reaches, both sides.
-/
import Derived.Test.YtmcaokbnbbmhhaaGridH
namespace Go.Proofs.Ytmcaokbnbbmhhaa
open Go.ChangeShapes Go.WideShapes Go.ChangeAt Go.RowKit Go.Deep
set_option linter.unusedVariables false

/-- Cells with a property, where a code is 0. -/
def cellsR (K : Int) (n : Nat) (p : Nat → Bool) : List Int := if K = 0 then cellsB n p else []
theorem cellsR_yes {K : Int} {n : Nat} {p : Nat → Bool} (h : K = 0) : cellsR K n p = cellsB n p := by rw [cellsR, if_pos h]
theorem cellsR_no {K : Int} {n : Nat} {p : Nat → Bool} (h : ¬ K = 0) : cellsR K n p = [] := by rw [cellsR, if_neg h]
theorem cellsR_ok (K : Int) {n : Nat} (hn : K = 0 → n ≤ 64) (p : Nat → Bool) : (∀ y ∈ cellsR K n p, -9223372036854775808 ≤ y ∧ y ≤ 9223372036854775807) ∧ (cellsR K n p).length ≤ 1048576 := by
  unfold cellsR
  split
  · rename_i h
    have := hn h
    refine ⟨fun y hy => ?_, ?_⟩
    · have := cellsB_mem hy
      omega
    · have := cellsB_len n p
      omega
  · simp
theorem ResI.of {E : Nat} {w w0 w' : World} {K : Int} {ys : List Int} {A : Option Addr} {c : Nat} (hf : Fresh w' w0.heap.size E 1 A ys.length c (ys.map (.int .i64))) (hs : w.heap.size ≤ w0.heap.size) (hb : Below w.heap.size w w') :
    ResI E w ys K (.returned (.tuple #[.slice A ys.length c, .int .i64 K])) w' := ⟨A, c, rfl, hf.base hs, hb⟩
/-- What a walk over a grid whose cells are in order wants. -/
theorem cells_facts {R C S : Int} {hs xs : List Int} {n : Nat} (hl : hs.length = n) (h : cellsC R C S hs xs = 0) : (1 ≤ R ∧ R ≤ 8) ∧ (1 ≤ C ∧ C ≤ 8) ∧ (1 ≤ S ∧ S ≤ 100) ∧ (n : Int) = R * C ∧ n ≤ 64 := by
  obtain ⟨h1, h2⟩ := cellsC_ok h
  obtain ⟨⟨r1, r2⟩, ⟨c1, c2⟩, hS, hn, _⟩ := gridOk_iff.1 h1
  have := mul64 r1 r2 c1 c2
  rw [hl] at hn
  exact ⟨⟨r1, r2⟩, ⟨c1, c2⟩, hS, hn, by omega⟩
def safeP (xs : List Int) (k : Nat) : Bool := !hasB xs (k : Int)
theorem safe_c (k : Int) (p : Nat) (B : Option Addr) (m d : Nat) (xs : List Int) (w : World) (hp : w.cell? ⟨p, 0, none⟩ = some (.slice B m d)) (h : Ints w B m xs) :
    Calls Try.prog 57 #[.int .i64 k, .pointer (some ⟨p, 0, none⟩)] w fun e w' => e = .returned (.bool (!hasB xs k)) ∧ Below w.heap.size w w' := by
  go_enter Try.func57, Try.ntmps57
  go_wp2_with fail
  refine (contains_any _ _ _ _ xs _ h).mono ?_
  rintro e w1 ⟨rfl, q, rfl⟩
  go_wp2_with fail
  go_ret
  exact ⟨rfl, below_drewN (Below.refl _ _) _⟩
set_option maxRecDepth 100000 in
set_option maxHeartbeats 800000 in
theorem SafeCells_i (R C S : Int) (A : Option Addr) (n c : Nat) (B : Option Addr) (m d : Nat) (hs xs : List Int) (w : World) (h : GridA w R C S A n hs) (h' : Ints w B m xs) :
    Calls Try.prog 24 #[.agg #[.int .i64 R, .int .i64 C, .int .i64 S, .slice A n c], .slice B m d] w fun e w' => ResI 2 w (cellsR (cellsC R C S hs xs) n (safeP xs)) (cellsC R C S hs xs) e w' := by
  have hl := h.1.1
  have B0 := ((Below.refl w.heap.size w).alloc (Nat.le_refl _) (.cells #[.int .i64 R, .int .i64 C, .int .i64 S, .slice A n c] 28)).alloc (by simp) (.cells #[.slice B m d] 22)
  have HI := Lib.hid (And.intro (h.below B0) (And.intro (h'.below B0) (And.intro B0 (And.intro ((boxG_of w R C S A n c 28).below ((Below.refl _ _).alloc (Nat.le_refl _) (.cells #[.slice B m d] 22))) (show ((w.alloc (.cells #[.int .i64 R, .int .i64 C, .int .i64 S, .slice A n c] 28)).alloc (.cells #[.slice B m d] 22)).cell? ⟨w.heap.size + 1, 0, none⟩ = some (.slice B m d) by go_simp)))))
  clear h h' B0
  obtain ⟨K, hK⟩ : ∃ K, K = cellsC R C S hs xs := ⟨_, rfl⟩
  have hcb := cellsC_bd R C S hs xs
  rw [← hK] at hcb ⊢
  by_cases h0 : K = 0
  · obtain ⟨⟨r1, r2⟩, ⟨c1, c2⟩, ⟨s1, s2⟩, hn, h64⟩ := cells_facts hl (hK.symm.trans h0)
    rw [cellsR_yes h0]
    have HK := Lib.hid hK
    have HL := Lib.hid (And.intro hl hn)
    subst h0
    clear hK hl hcb hn
    go_enter Try.func24, Try.ntmps24
    go_wp2_with fail
    refine (cellsCode_any _ _ _ _ _ _ _ _ _ hs xs _ HI.out.1 HI.out.2.1).mono ?_
    rintro e w1 ⟨rfl, hb1⟩
    rw [← HK.out]
    have HB := Lib.hid (And.intro (HI.out.2.2.1.trans (hb1.mono (HI.out.2.2.1).size)) (And.intro (cell_kept hb1 HI.out.2.2.2.2) (HI.out.2.1.below hb1)))
    obtain ⟨p0, p1, p2, p3⟩ := HI.out.2.2.2.1.below hb1
    clear hb1
    go_wp2_with fail
    clear p0 p1 p2 p3
    refine (cellsWhere_any _ _ _ _ _ _ 57 _ (safeP xs) _ h64 (enters_of Try.func57 (by kernel_rfl) rfl) ?_).mono ?_
    · intro k W hk hW
      exact safe_c _ _ _ _ _ xs W (cell_kept hW HB.out.2.1) (HB.out.2.2.below hW)
    rintro e w2 ⟨A', c', rfl, hf, hb2⟩
    have HF := Lib.hid (And.intro hf (And.intro HB.out.1.size (HB.out.1.trans (hb2.mono HB.out.1.size))))
    clear hf hb2
    go_wp2_with fail
    go_ret2
    exact ResI.of HF.out.1 HF.out.2.1 HF.out.2.2
  · have hd : (K != 0) = true := by simp [h0]
    rw [cellsR_no h0]
    have HK := Lib.hid hK
    have HL := Lib.hid hl
    clear hK hl
    go_enter Try.func24, Try.ntmps24
    go_wp2_with fail
    refine (cellsCode_any _ _ _ _ _ _ _ _ _ hs xs _ HI.out.1 HI.out.2.1).mono ?_
    rintro e w1 ⟨rfl, hb1⟩
    rw [← HK.out]
    have HB := Lib.hid (HI.out.2.2.1.trans (hb1.mono (HI.out.2.2.1).size))
    clear hb1
    go_wp2_with fail
    go_ret2
    exact ResI.nil HB.out
set_option maxRecDepth 100000 in
set_option maxHeartbeats 800000 in
theorem SafeCells_s (R C S : Int) (A : Option Addr) (n c : Nat) (B : Option Addr) (m d : Nat) (hs xs : List Int) (w : World) (h : GridA w R C S A n hs) (h' : Ints w B m xs) :
    Calls Try.prog 23 #[.agg #[.int .i64 R, .int .i64 C, .int .i64 S, .slice A n c], .slice B m d] w fun e w' => ResI 2 w (cellsR (cellsC R C S hs xs) n (safeP xs)) (cellsC R C S hs xs) e w' := by
  have hl := h.1.1
  have B0 := (Below.refl w.heap.size w).alloc (Nat.le_refl _) (.cells #[.int .i64 R, .int .i64 C, .int .i64 S, .slice A n c] 28)
  have HI := Lib.hid (And.intro (h.box (c := c) 28) (And.intro (h'.below B0) (And.intro B0 (boxG_of w R C S A n c 28))))
  have HW := Lib.hid h'
  clear h h' B0
  obtain ⟨K, hK⟩ : ∃ K, K = cellsC R C S hs xs := ⟨_, rfl⟩
  have hcb := cellsC_bd R C S hs xs
  rw [← hK] at hcb ⊢
  by_cases h0 : K = 0
  · obtain ⟨⟨r1, r2⟩, ⟨c1, c2⟩, ⟨s1, s2⟩, hn, h64⟩ := cells_facts hl (hK.symm.trans h0)
    rw [cellsR_yes h0]
    have hm := mul64 r1 r2 c1 c2
    have HK := Lib.hid hK
    have HL := Lib.hid (And.intro hl hn)
    subst h0
    clear hK hl hcb hn
    go_enter Try.func23, Try.ntmps23
    go_wp2_with fail
    refine (l11Ask_any _ _ _ _ _ _ _ _ _ _ hs xs _ HI.out.1 HI.out.2.1).mono ?_
    rintro e w1 ⟨rfl, q1, rfl⟩
    rw [← HK.out]
    obtain ⟨p0, p1, p2, p3⟩ := HI.out.2.2.2
    go_wp2_with fail
    have hown0 := World.ownsRow_lit (base := w.heap.size + 1) (e := 2) (size := 1) ((w.alloc (.cells #[.int .i64 R, .int .i64 C, .int .i64 S, .slice A n c] 28)).drewN q1) #[] 0 (by simp [World.drewN]) (by simp) rfl
    have hb0 := (below_drewN HI.out.2.2.1 q1).alloc (below_drewN HI.out.2.2.1 q1).size (.cells #[] 2)
    have hg0 := (HI.out.2.2.2.below (below_drewN (Below.refl _ _) q1)).below ((Below.refl _ _).alloc (Nat.le_refl _) (.cells #[] 2))
    have hz0 : w.heap.size + 1 ≤ (((w.alloc (.cells #[.int .i64 R, .int .i64 C, .int .i64 S, .slice A n c] 28)).drewN q1).alloc (.cells #[] 2)).heap.size := by simp [World.drewN]
    have HI2 := Lib.hid (HI.out.2.1.below (below_drewN (Below.refl _ _) q1) |>.below ((Below.refl _ _).alloc (Nat.le_refl _) (.cells #[] 2)))
    clear p0 p1 p2 p3
    go_loopw [7, 8] (fun o i wr => ∃ k : Nat, k ≤ n ∧ i = .int .i64 k ∧ Below w.heap.size w wr ∧ w.heap.size + 1 ≤ wr.heap.size ∧ BoxG wr w.heap.size R C S A n c ∧ Ints wr B m xs ∧ wr.ownsRow (w.heap.size + 1) 2 1 o (cellsB k (safeP xs)).length ((cellsB k (safeP xs)).map (.int .i64))) (fun _ i _ => n - (intOf i).toNat)
    case atStart => exact ⟨0, Nat.zero_le _, rfl, hb0, hz0, hg0, HI2.out, by simpa [cellsB] using hown0⟩
    case round =>
      clear hb0 hown0 hg0 hz0 HI2
      obtain ⟨k, hk, rfl, hbl, hz, hg, hx, hown⟩ := hrel
      have hlen := cellsB_len k (safeP xs)
      obtain ⟨A', c', rfl, _⟩ := own_form hown
      obtain ⟨p0, p1, p2, p3⟩ := hg
      by_cases hlt : k < n
      · have hki : (k : Int) < R * C := by have := HL.out.2; omega
        have HO := Lib.hid (And.intro hbl (And.intro hz (And.intro (show BoxG _ _ _ _ _ _ _ _ from ⟨p0, p1, p2, p3⟩) (And.intro hx hown))))
        clear hown hbl hz
        cases hp : hasB xs (k : Int)
        · have HS := Lib.hid (show cellsB (k + 1) (safeP xs) = cellsB k (safeP xs) ++ [(k : Int)] by rw [cellsB_succ, if_pos (by simp [safeP, hp])])
          go_wp2_with fail
          refine (l00Has_any _ _ _ _ xs _ hx).mono ?_
          rintro e w2 ⟨rfl, q2, rfl⟩
          rw [hp]
          have HN := Lib.hid (And.intro (show (wr.drewN q2).ownsRow (w.heap.size + 1) 2 1 (.slice A' (cellsB k (safeP xs)).length c') (cellsB k (safeP xs)).length ((cellsB k (safeP xs)).map (.int .i64)) from HO.out.2.2.2.2) (below_drewN HO.out.1 q2))
          go_wp2_with (at_builtin; refine wp_app_int rfl (.tmp 28) (.tmp 30) 22 rfl (w.heap.size + 1) 2 Try.underlying22 info_int _ _ (cellsB k (safeP xs)) (k : Int) rfl HN.out.1 rfl (by omega) HO.out.2.1 ?_; intro v' w3 hown3 hgrow3 hv3)
          obtain ⟨g, cc, rfl⟩ := hv3
          have HF := Lib.hid (And.intro (HN.out.2.grown hgrow3 HN.out.2.size (fun g h => Nat.le_of_succ_le (own_blk HN.out.1 g h))) (And.intro (Nat.le_trans HO.out.2.1 hgrow3.size) (And.intro (HO.out.2.2.1.grow (w := wr.drewN q2) hgrow3 (fun g h e => by have := own_blk HN.out.1 g h; omega)) (And.intro (Ints.old (w := wr.drewN q2) HO.out.2.2.2.1 hgrow3 HW.out (fun g h => Nat.le_of_succ_le (own_blk HN.out.1 g h))) hown3))))
          clear hown3 hgrow3
          go_wp2_with fail
          go_roundw
          case rel => exact ⟨k + 1, by omega, by go_num, HF.out.1, HF.out.2.1, HF.out.2.2.1, HF.out.2.2.2.1, by rw [HS.out]; simpa using HF.out.2.2.2.2⟩
          case measure => simp [intOf]; omega
        · have HS := Lib.hid (show cellsB (k + 1) (safeP xs) = cellsB k (safeP xs) by rw [cellsB_succ, if_neg (by simp [safeP, hp])]; simp)
          go_wp2_with fail
          refine (l00Has_any _ _ _ _ xs _ hx).mono ?_
          rintro e w2 ⟨rfl, q2, rfl⟩
          rw [hp]
          go_wp2_with fail
          go_roundw
          case rel => exact ⟨k + 1, by omega, by go_num, below_drewN HO.out.1 _, HO.out.2.1, HO.out.2.2.1, HO.out.2.2.2.1, by rw [HS.out]; exact HO.out.2.2.2.2⟩
          case measure => simp [intOf]; omega
      · obtain rfl : k = n := by omega
        have hki : ¬ (k : Int) < R * C := by have := HL.out.2; omega
        have HO := Lib.hid (And.intro hbl hown)
        clear hlt hbl hown hx
        go_wp2_with fail
        go_ret2
        exact ResI.of (Fresh.of_own (own_base HO.out.2 (Nat.le_succ _))) (Nat.le_refl _) HO.out.1
  · have hd : (K != 0) = true := by simp [h0]
    rw [cellsR_no h0]
    have HK := Lib.hid hK
    have HL := Lib.hid hl
    clear hK hl
    go_enter Try.func23, Try.ntmps23
    go_wp2_with fail
    refine (l11Ask_any _ _ _ _ _ _ _ _ _ _ hs xs _ HI.out.1 HI.out.2.1).mono ?_
    rintro e w1 ⟨rfl, q1, rfl⟩
    rw [← HK.out]
    go_wp2_with fail
    go_ret2
    exact ResI.nil (below_drewN HI.out.2.2.1 _)
end Go.Proofs.Ytmcaokbnbbmhhaa
