/-
  The cells from which nothing leads down, the reference's.
-/
import Derived.Test.YtmcaokbnbbmhhaaGridQ
import Derived.Test.YtmcaokbnbbmhhaaGridX
namespace Go.Proofs.Ytmcaokbnbbmhhaa
open Go.ChangeShapes Go.WideShapes Go.ChangeAt Go.RowKit Go.Deep
set_option linter.unusedVariables false

theorem fold_low {C S k : Int} {hs : List Int} (l : List Nat) (p : Int × Int) : (l.foldl (better C S hs k) p).1 < 0 ↔ p.1 < 0 ∧ ∀ a ∈ l, ¬ hg hs (nbAt C k a) < hg hs k := by
  induction l generalizing p with
  | nil => simp
  | cons a t ih =>
    rw [List.foldl_cons, ih]
    unfold better
    constructor
    · rintro ⟨h1, h2⟩
      by_cases hl : hg hs (nbAt C k a) < hg hs k
      · by_cases hp : p.1 < 0
        · rw [if_pos ⟨hl, .inl hp⟩] at h1
          exact absurd h1 (by show ¬ (a : Int) < 0; omega)
        · split at h1
          · exact absurd h1 (by show ¬ (a : Int) < 0; omega)
          · exact absurd h1 hp
      · rw [if_neg (fun h => hl h.1)] at h1
        exact ⟨h1, fun b hb => by
          rcases List.mem_cons.1 hb with rfl | hb
          · exact hl
          · exact h2 b hb⟩
    · rintro ⟨h1, h2⟩
      rw [if_neg (fun h => h2 a (by simp) h.1)]
      exact ⟨h1, fun b hb => h2 b (by simp [hb])⟩
theorem pit_link {R C S : Int} {hs : List Int} (k : Nat) : pitP R C hs k = decide ((steep R C S hs (k : Int)).1 < 0) := by
  have h := fold_low (C := C) (S := S) (k := k) (hs := hs) (dirs R C k) (-1, 0)
  have e : steep R C S hs (k : Int) = (dirs R C k).foldl (better C S hs k) (-1, 0) := rfl
  rw [e]
  unfold pitP
  rw [Bool.eq_iff_iff, decide_eq_true_eq, h, Bool.not_eq_true', List.any_eq_false]
  constructor
  · intro hh
    exact ⟨by omega, fun a ha hc => hh a ha (by unfold lowQ; simpa using hc)⟩
  · rintro ⟨_, hh⟩ a ha hc
    unfold lowQ at hc
    exact hh a ha (by simpa using hc)
set_option maxRecDepth 100000 in
set_option maxHeartbeats 800000 in
theorem PitsOf_s (R C S : Int) (A : Option Addr) (n c : Nat) (hs : List Int) (w : World) (h : GridA w R C S A n hs) :
    Calls Try.prog 30 #[.agg #[.int .i64 R, .int .i64 C, .int .i64 S, .slice A n c]] w fun e w' => ResI 2 w (cellsR (gridK R C S hs) n (pitP R C hs)) (gridK R C S hs) e w' := by
  have hl := h.1.1
  have HW := Lib.hid h
  have B0 := (Below.refl w.heap.size w).alloc (Nat.le_refl _) (.cells #[.int .i64 R, .int .i64 C, .int .i64 S, .slice A n c] 28)
  have HI := Lib.hid (And.intro (h.box (c := c) 28) (And.intro B0 (boxG_of w R C S A n c 28)))
  clear h B0
  cases hv : gridOk R C S hs
  · have HE := Lib.hid (show gridK R C S hs = 1 by simp [gridK, hv])
    have HX := Lib.hid hv
    rw [HE.out, cellsR_no (by omega)]
    clear hv hl
    go_enter Try.func30, Try.ntmps30
    go_wp2_with fail
    refine (l09Ok_any _ _ _ _ _ _ _ hs _ HI.out.1).mono ?_
    rintro e w1 ⟨rfl, q1, rfl⟩
    rw [HX.out]
    go_wp2_with fail
    go_ret2
    exact ResI.nil (below_drewN HI.out.2.1 _)
  · have HE := Lib.hid (show gridK R C S hs = 0 by simp [gridK, hv])
    have h64 := grid_len hl HE.out
    have hrc := (gridOk_iff.1 hv).2.2.2.1
    obtain ⟨⟨r1, r2⟩, ⟨c1, c2⟩, _⟩ := gridOk_iff.1 hv
    have hm := mul64 r1 r2 c1 c2
    rw [hl] at hrc
    have HL := Lib.hid hrc
    have HX := Lib.hid hv
    rw [HE.out, cellsR_yes rfl]
    clear hv hl hrc
    go_enter Try.func30, Try.ntmps30
    go_wp2_with fail
    refine (l09Ok_any _ _ _ _ _ _ _ hs _ HI.out.1).mono ?_
    rintro e w1 ⟨rfl, q1, rfl⟩
    rw [HX.out]
    go_wp2_with fail
    have hown0 := World.ownsRow_lit (base := w.heap.size + 1) (e := 2) (size := 1) ((w.alloc (.cells #[.int .i64 R, .int .i64 C, .int .i64 S, .slice A n c] 28)).drewN q1) #[] 0 (by simp [World.drewN]) (by simp) rfl
    have hb0 := (below_drewN HI.out.2.1 q1).alloc (below_drewN HI.out.2.1 q1).size (.cells #[] 2)
    have hg0 := (HI.out.2.2.below (below_drewN (Below.refl _ _) q1)).below ((Below.refl _ _).alloc (Nat.le_refl _) (.cells #[] 2))
    have hz0 : w.heap.size + 1 ≤ (((w.alloc (.cells #[.int .i64 R, .int .i64 C, .int .i64 S, .slice A n c] 28)).drewN q1).alloc (.cells #[] 2)).heap.size := by simp [World.drewN]
    have hi0 := (HI.out.1.2.2.2.2.below (below_drewN (Below.refl _ _) q1)).below ((Below.refl _ _).alloc (Nat.le_refl _) (.cells #[] 2))
    go_loopw [4, 5] (fun o i wr => ∃ k : Nat, k ≤ n ∧ i = .int .i64 k ∧ Below w.heap.size w wr ∧ w.heap.size + 1 ≤ wr.heap.size ∧ BoxG wr w.heap.size R C S A n c ∧ GridA wr R C S A n hs ∧ wr.ownsRow (w.heap.size + 1) 2 1 o (cellsB k (pitP R C hs)).length ((cellsB k (pitP R C hs)).map (.int .i64))) (fun _ i _ => n - (intOf i).toNat)
    case atStart => exact ⟨0, Nat.zero_le _, rfl, hb0, hz0, hg0, hi0, by simpa [cellsB] using hown0⟩
    case round =>
      clear hb0 hown0 hg0 hz0 hi0
      obtain ⟨k, hk, rfl, hbl, hz, hg, hx, hown⟩ := hrel
      have hlen := cellsB_len k (pitP R C hs)
      obtain ⟨A', c', rfl, _⟩ := own_form hown
      by_cases hlt : k < n
      · have hki : (k : Int) < R * C := by have := HL.out; omega
        have HO := Lib.hid (And.intro hbl (And.intro hz (And.intro hg (And.intro hx hown))))
        obtain ⟨p0, p1, p2, p3⟩ := hg
        clear hown hbl hz
        obtain ⟨P, hP⟩ : ∃ P, P = steep R C S hs (k : Int) := ⟨_, rfl⟩
        have HP := Lib.hid hP
        clear hP
        go_wp2_with fail
        refine (l09Steepest_any _ R C S A n c k hs _ HO.out.2.2.1 hx.1 HX.out hlt).mono ?_
        rintro e w2 ⟨rfl, hb2⟩
        rw [← HP.out]
        have HB := Lib.hid (And.intro (HO.out.1.trans (hb2.mono HO.out.1.size)) (And.intro (Nat.le_trans HO.out.2.1 hb2.size) (And.intro (HO.out.2.2.1.below hb2) (And.intro (HO.out.2.2.2.1.below hb2) (own_below HO.out.2.2.2.2 hb2)))))
        have hz2 := HB.out.2.1
        clear hb2 p0 p1 p2 p3 hx
        by_cases hp : P.1 < 0
        · have HS := Lib.hid (show cellsB (k + 1) (pitP R C hs) = cellsB k (pitP R C hs) ++ [(k : Int)] by rw [cellsB_succ, pit_link (S := S), ← HP.out, if_pos (by simpa using hp)])
          go_wp2_with (at_builtin; refine wp_app_int rfl (.tmp 27) (.tmp 29) 22 rfl (w.heap.size + 1) 2 Try.underlying22 info_int _ _ (cellsB k (pitP R C hs)) (k : Int) rfl HB.out.2.2.2.2 rfl (by omega) hz2 ?_; intro v' w3 hown3 hgrow3 hv3)
          obtain ⟨g, cc, rfl⟩ := hv3
          have HF := Lib.hid (And.intro (HB.out.1.grown hgrow3 HB.out.1.size (fun g h => Nat.le_of_succ_le (own_blk HB.out.2.2.2.2 g h))) (And.intro (Nat.le_trans HB.out.2.1 hgrow3.size) (And.intro (HB.out.2.2.1.grow hgrow3 (fun g h e => by have := own_blk HB.out.2.2.2.2 g h; omega)) (And.intro (HB.out.2.2.2.1.old hgrow3 HW.out (fun g h => Nat.le_of_succ_le (own_blk HB.out.2.2.2.2 g h))) hown3))))
          clear hown3 hgrow3
          go_wp2_with fail
          go_roundw
          case rel => exact ⟨k + 1, by omega, by go_num, HF.out.1, HF.out.2.1, HF.out.2.2.1, HF.out.2.2.2.1, by rw [HS.out]; simpa using HF.out.2.2.2.2⟩
          case measure => simp [intOf]; omega
        · have HS := Lib.hid (show cellsB (k + 1) (pitP R C hs) = cellsB k (pitP R C hs) by rw [cellsB_succ, pit_link (S := S), ← HP.out, if_neg (by simpa using hp)]; simp)
          go_wp2_with fail
          go_roundw
          case rel => exact ⟨k + 1, by omega, by go_num, HB.out.1, HB.out.2.1, HB.out.2.2.1, HB.out.2.2.2.1, by rw [HS.out]; exact HB.out.2.2.2.2⟩
          case measure => simp [intOf]; omega
      · obtain rfl : k = n := by omega
        have hki : ¬ (k : Int) < R * C := by have := HL.out; omega
        obtain ⟨p0, p1, p2, p3⟩ := hg
        have HO := Lib.hid (And.intro hbl hown)
        clear hlt hbl hown hx
        go_wp2_with fail
        go_ret2
        exact ResI.of (Fresh.of_own (own_base HO.out.2 (Nat.le_succ _))) (Nat.le_refl _) HO.out.1
end Go.Proofs.Ytmcaokbnbbmhhaa
