/-
  PartsOf and IsConnected, both sides.
-/
import Derived.Test.YtknppcgoooaaaaaPartQ
namespace Go.Proofs.Ytknppcgoooaaaaa
open Go.ChangeShapes Go.WideShapes Go.ChangeAt Go.RowKit Go.Deep
set_option linter.unusedVariables false

theorem ResR.of {W w' : World} {rs : Rws} {A : Option Addr} {c : Nat} {n : Nat} (h : RowsB W.heap.size w' (.slice A n c) n rs) (hn : n ≤ 64) (hb : Below W.heap.size W w') : ResR W rs 0 (.returned (.tuple #[.slice A n c, .int .i64 0])) w' := by
  have e : rs.length = n := by obtain ⟨cs, f, d, q1, q2, q3⟩ := h; exact q2
  subst e
  exact ⟨A, c, rfl, h.fin (by omega) rfl, hb⟩
theorem cell_win {lo hi : Nat} {w w' : World} (hw : Win lo hi w w') {b o : Nat} {v : Value} (h : w.cell? ⟨b, o, none⟩ = some v) (hr : b < lo ∨ hi ≤ b) : w'.cell? ⟨b, o, none⟩ = some v :=
  (World.cell?_of_block (hw.2.2.2.2 b (cell_lt h) hr)).trans h
theorem BoxG.win {lo hi : Nat} {w w' : World} {b : Nat} {R C S : Int} {A : Option Addr} {n c : Nat} (h : BoxG w b R C S A n c) (hw : Win lo hi w w') (hr : b < lo ∨ hi ≤ b) : BoxG w' b R C S A n c :=
  ⟨cell_win hw h.1 hr, cell_win hw h.2.1 hr, cell_win hw h.2.2.1 hr, cell_win hw h.2.2.2 hr⟩
def connV (K R C : Int) (xs : List Int) : Bool := decide (K = 0) && decide ((partsF (near R C) xs).length = 1)
set_option maxRecDepth 100000 in
theorem PartsOf_i (R C S : Int) (A : Option Addr) (n c : Nat) (B : Option Addr) (m d : Nat) (hs xs : List Int) (w : World) (h : GridA w R C S A n hs) (h' : Ints w B m xs) :
    Calls Try.prog 7 #[.agg #[.int .i64 R, .int .i64 C, .int .i64 S, .slice A n c], .slice B m d] w fun e w' => ResR w (partsR (cellsC R C S hs xs) R C xs) (cellsC R C S hs xs) e w' := by
  have B0 := (Below.refl w.heap.size w).alloc (Nat.le_refl _) (.cells #[.int .i64 R, .int .i64 C, .int .i64 S, .slice A n c] 26)
  have HI := Lib.hid (And.intro (h.below B0) (And.intro (h'.below B0) (And.intro B0 (boxG_of w R C S A n c 26))))
  clear h h' B0
  have hcb := cellsC_bd R C S hs xs
  obtain ⟨K, hK⟩ : ∃ K, K = cellsC R C S hs xs := ⟨_, rfl⟩
  rw [← hK] at hcb ⊢
  by_cases h0 : K = 0
  · have hc0 := cellsC_ok (hK.symm.trans h0)
    obtain ⟨_, _, _, _, hx, hl64⟩ := cells_plain (hK.symm.trans h0)
    have HC0 := Lib.hid (And.intro hc0 (show (partsF (near R C) xs).length ≤ 64 from Nat.le_trans (partsF_ok _ _).1 hl64))
    have HE := Lib.hid (show partsR K R C xs = partsF (near R C) xs by rw [partsR, if_pos h0])
    have HK := Lib.hid hK
    subst h0
    clear hK hc0 hcb hx hl64
    go_enter Try.func7, Try.ntmps7
    go_wp2_with fail
    refine (cellsCode_any _ _ _ _ _ _ _ _ _ hs xs _ HI.out.1 HI.out.2.1).mono ?_
    rintro e w1 ⟨rfl, hb1⟩
    have HB := Lib.hid (And.intro hb1 (HI.out.2.2.1.trans (hb1.mono HI.out.2.2.1.size)))
    clear hb1
    rw [← HK.out]
    obtain ⟨p0, p1, p2, p3⟩ := HI.out.2.2.2.below HB.out.1
    go_wp2_with fail
    refine (parts_i R C S A n c B m d hs xs _ (HI.out.1.below HB.out.1) (HI.out.2.1.below HB.out.1) HC0.out.1.1 HC0.out.1.2).mono ?_
    rintro e w2 ⟨o, rfl, hr2, hb2⟩
    obtain ⟨A', c', rfl, _⟩ : ∃ A' c', o = .slice A' (partsF (near R C) xs).length c' ∧ True := by
      obtain ⟨cs, f, dd, q1, q2, q3⟩ := hr2
      obtain ⟨A', c', e, _⟩ := own_form q1
      exact ⟨A', c', e, trivial⟩
    have HF := Lib.hid (And.intro (hr2.base HB.out.2.size) (HB.out.2.trans (hb2.mono HB.out.2.size)))
    clear hr2 hb2
    go_wp2_with fail
    go_ret2
    rw [HE.out]
    exact ResR.of HF.out.1 HC0.out.2 HF.out.2
  · have HE := Lib.hid (show partsR K R C xs = [] by rw [partsR, if_neg h0])
    have hd : (K != 0) = true := by simp [h0]
    have hd2 : (K == 0) = false := by simp [h0]
    have HK := Lib.hid hK
    clear hK
    go_enter Try.func7, Try.ntmps7
    go_wp2_with fail
    refine (cellsCode_any _ _ _ _ _ _ _ _ _ hs xs _ HI.out.1 HI.out.2.1).mono ?_
    rintro e w1 ⟨rfl, hb1⟩
    have HB := Lib.hid hb1
    clear hb1
    rw [← HK.out]
    go_wp2_with fail
    go_ret2
    rw [HE.out]
    exact ResR.nil (HI.out.2.2.1.trans (HB.out.mono HI.out.2.2.1.size))
end Go.Proofs.Ytknppcgoooaaaaa
