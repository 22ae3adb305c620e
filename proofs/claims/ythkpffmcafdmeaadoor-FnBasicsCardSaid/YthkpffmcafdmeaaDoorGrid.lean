/-
  A grid as an argument: opened, copied, compared, marked.
-/
import Derived.Test.YthkpffmcafdmeaaDoorGridP
import Derived.Lib.SmallJoins
namespace Go.Proofs.YthkpffmcafdmeaaDoor
open Go.ChangeShapes Go.WideShapes Go.ChangeAt Go.RowKit Go.Deep
set_option linter.unusedVariables false

def GridA (w : World) (R C S : Int) (A : Option Addr) (n : Nat) (xs : List Int) : Prop :=
  Ints w A n xs ∧ (-9223372036854775808 ≤ R ∧ R ≤ 9223372036854775807) ∧ (-9223372036854775808 ≤ C ∧ C ≤ 9223372036854775807) ∧ (-9223372036854775808 ≤ S ∧ S ≤ 9223372036854775807)
theorem GridA.below {w w' : World} {R C S : Int} {A : Option Addr} {n : Nat} {xs : List Int} (h : GridA w R C S A n xs) (hb : Below w.heap.size w w') : GridA w' R C S A n xs := ⟨h.1.below hb, h.2⟩
theorem GridA.to {w w' : World} {R C S : Int} {A B : Option Addr} {n : Nat} {xs : List Int} (h : GridA w R C S A n xs) (hi : Ints w' B n xs) : GridA w' R C S B n xs := ⟨hi, h.2⟩
theorem GridA.old {W w w' : World} {R C S : Int} {A : Option Addr} {n : Nat} {xs : List Int} (h : GridA w R C S A n xs) {r : Option Nat} (hg : w.grownBy w' r) (hW : GridA W R C S A n xs) (hr : ∀ g, r = some g → W.heap.size ≤ g) : GridA w' R C S A n xs :=
  ⟨h.1.old hg hW.1 hr, h.2⟩
/-- The cells of a grid that is boxed. -/
def BoxG (w : World) (b : Nat) (R C S : Int) (A : Option Addr) (n c : Nat) : Prop :=
  w.cell? ⟨b, 0, none⟩ = some (.int .i64 R) ∧ w.cell? ⟨b, 1, none⟩ = some (.int .i64 C) ∧ w.cell? ⟨b, 2, none⟩ = some (.int .i64 S) ∧ w.cell? ⟨b, 3, none⟩ = some (.slice A n c)
theorem boxG_of (w : World) (R C S : Int) (A : Option Addr) (n c : Nat) (T : TypeId) : BoxG (w.alloc (.cells #[.int .i64 R, .int .i64 C, .int .i64 S, .slice A n c] T)) w.heap.size R C S A n c :=
  ⟨by go_simp, by go_simp, by go_simp, by go_simp⟩
theorem BoxG.below {w w' : World} {b : Nat} {R C S : Int} {A : Option Addr} {n c : Nat} (h : BoxG w b R C S A n c) (hb : Below w.heap.size w w') : BoxG w' b R C S A n c :=
  ⟨cell_kept hb h.1, cell_kept hb h.2.1, cell_kept hb h.2.2.1, cell_kept hb h.2.2.2⟩
theorem BoxG.grow {w w' : World} {b : Nat} {R C S : Int} {A : Option Addr} {n c : Nat} {r : Option Nat} (h : BoxG w b R C S A n c) (hg : w.grownBy w' r) (hne : ∀ g, r = some g → b ≠ g) : BoxG w' b R C S A n c :=
  ⟨hg.cell h.1 (fun e => hne b e.symm rfl), hg.cell h.2.1 (fun e => hne b e.symm rfl), hg.cell h.2.2.1 (fun e => hne b e.symm rfl), hg.cell h.2.2.2 (fun e => hne b e.symm rfl)⟩
theorem below_held {w w' : World} (h : ∃ q, w' = w.drewN q) : Below w.heap.size w w' := by
  obtain ⟨q, rfl⟩ := h
  exact below_drewN (Below.refl _ _) q
theorem below_of_drew {w w' : World} (h : Below w.drew.heap.size w.drew w') : Below w.heap.size w w' := ⟨h.os, h.tape, h.output, h.size, h.block⟩
/-- An argument that is a grid. -/
theorem grid_open {H : Type} {enc : TypeId × Value → H} {P : Program} {w : World} {t q s : TypeId} {f0 f1 f2 f3 : Field} {v : Value} {d : DataW H} {p : List MemPlace} {held : Bool} {r : Reach} {b0 : Nat}
    (ht : P.underlying t = some (.struct #[f0, f1, f2, f3])) (hq : P.underlying q = some (.int .i64)) (hs : P.underlying s = some (.slice q)) (hone : oneCellFields P #[f0, f1, f2, f3] = true) (hC : P.cellsOf t = 4) (hCq : P.cellsOf q = 1)
    (hty : f0.type = q ∧ f1.type = q ∧ f2.type = q ∧ f3.type = s) (hv : Value.okWide P w r b0 t v) (h : DataW.Trod enc P w 0 (fun _ => true) held t v d p) :
    ∃ (R C S : Int) (A : Option Addr) (n c : Nat) (xs : List Int), v = .agg #[.int .i64 R, .int .i64 C, .int .i64 S, .slice A n c] ∧ GridA w R C S A n xs := by
  obtain ⟨v0, v1, v2, v3, y0, y1, y2, y3, m, rfl, rfl, rfl, h0, h1, h2, h3⟩ := Go.Joins.open_agg4 ht hone hC hv h
  rw [hty.1] at h0
  rw [hty.2.1] at h1
  rw [hty.2.2.1] at h2
  rw [hty.2.2.2] at h3
  obtain ⟨u0, e0, _, w0⟩ := DataW.trod_int hq h0
  obtain ⟨u1, e1, _, w1⟩ := DataW.trod_int hq h1
  obtain ⟨u2, e2, _, w2⟩ := DataW.trod_int hq h2
  simp at e0 e1 e2
  subst e0 e1 e2
  obtain ⟨A, n, c, rfl⟩ : ∃ A n c, v3 = .slice A n c := by
    rcases open_slice hs h3 with ⟨hcs, _⟩ | ⟨a, len, cap, m, n', D, Pl, hcs, _⟩
    · simp at hcs; exact ⟨_, _, _, hcs⟩
    · simp at hcs; exact ⟨_, _, _, hcs⟩
  obtain ⟨xs, hx⟩ := ints_open (enc := enc) (d := y3.1) (p := y3.2) (held := held) (A := A) (n := n) (c := c) hs hq hCq ⟨m, by simpa [Value.cells] using h3⟩
  refine ⟨u0, u1, u2, A, n, c, xs, rfl, hx, ?_, ?_, ?_⟩
  · simpa [Lit.wf, IntKind.min, IntKind.max, IntKind.signed, IntKind.bits] using w0
  · simpa [Lit.wf, IntKind.min, IntKind.max, IntKind.signed, IntKind.bits] using w1
  · simpa [Lit.wf, IntKind.min, IntKind.max, IntKind.signed, IntKind.bits] using w2
theorem szGrid_ok (R C S : Int) (A : Option Addr) (n c : Nat) (left : Int) (w : World) (h1 : (n : Int) ≤ left) (h2 : left ≤ 1048576) :
    Calls Tryd.prog 15 #[.agg #[.int .i64 R, .int .i64 C, .int .i64 S, .slice A n c], .int .i64 left] w fun e w' => e = .returned (.int .i64 (left - n)) ∧ Below w.heap.size w w' := by
  go_enter Tryd.func15, Tryd.ntmps15
  go_wp2_with (go_at_call 67; refine (szInt64S_ok _ _ _ _ _ h1 h2).mono ?_; rintro e w' ⟨rfl, rfl⟩)
  go_ret
  exact ⟨rfl, (Below.refl _ _).alloc (Nat.le_refl _) _⟩
theorem szGrid_no (R C S : Int) (A : Option Addr) (n c : Nat) (left : Int) (w : World) (h0 : n ≤ 9223372036854775807) (h1 : left < (n : Int)) (h2 : left ≤ 1048576) (h3 : 0 ≤ left) :
    Calls Tryd.prog 15 #[.agg #[.int .i64 R, .int .i64 C, .int .i64 S, .slice A n c], .int .i64 left] w fun e w' => e = .returned (.int .i64 (-1)) ∧ Below w.heap.size w w' := by
  go_enter Tryd.func15, Tryd.ntmps15
  go_wp2_with (go_at_call 67; refine (szInt64S_no _ _ _ _ _ h0 h1 h2 h3).mono ?_; rintro e w' ⟨rfl, rfl⟩)
  go_ret
  exact ⟨rfl, (Below.refl _ _).alloc (Nat.le_refl _) _⟩
set_option maxRecDepth 100000 in
theorem toGrid_any (R C S : Int) (A : Option Addr) (n c : Nat) (xs : List Int) (w : World) (h : GridA w R C S A n xs) (hn : n ≤ 1048576) :
    Calls Tryd.prog 17 #[.agg #[.int .i64 R, .int .i64 C, .int .i64 S, .slice A n c]] w fun e w' => ∃ g, e = .returned (.agg #[.int .i64 R, .int .i64 C, .int .i64 S, .slice (some ⟨g, 0, none⟩) n n]) ∧
      w'.ownsRow w.heap.size 2 1 (.slice (some ⟨g, 0, none⟩) n n) n (xs.map (.int .i64)) ∧ Below w.heap.size w w' := by
  have B0 := (((Below.refl w.heap.size w).alloc (Nat.le_refl _) (.cells #[.int .i64 R, .int .i64 C, .int .i64 S, .slice A n c] 31)).alloc (by simp) (.cells #[.int .i64 0, .int .i64 0, .int .i64 0, .slice none 0 0] 34)).alloc (by simp; omega) (.cells #[.int .i64 R, .int .i64 C, .int .i64 S, .slice none 0 0] 34)
  have hi := Lib.hid (h.1.below B0)
  have HB := Lib.hid B0
  clear h B0
  go_enter Tryd.func17, Tryd.ntmps17
  go_wp2_with fail
  refine (toInt64S_any _ _ _ xs _ hi.out hn).mono ?_
  rintro e w1 ⟨rfl, ho1, hb1, hz1⟩
  obtain ⟨hc, hf⟩ := bcell hb1
  have hz : w.heap.size + 2 < w1.heap.size := by rw [hz1]; simp
  have HO := Lib.hid (And.intro ho1 (And.intro hb1 hz1))
  clear ho1 hb1 hz1
  go_wp2_with fail
  refine bodyPost_ret (v := .agg #[.int .i64 R, .int .i64 C, .int .i64 S, .slice (some ⟨w.heap.size + 3, 0, none⟩) n n]) (by simp [results, Tryd.results17, go_sem, hc]) rfl ⟨_, rfl, ?_, ?_⟩
  · have h := HO.out.1
    rw [show ((((w.alloc (.cells #[.int .i64 R, .int .i64 C, .int .i64 S, .slice A n c] 31)).alloc (.cells #[.int .i64 0, .int .i64 0, .int .i64 0, .slice none 0 0] 34)).alloc (.cells #[.int .i64 R, .int .i64 C, .int .i64 S, .slice none 0 0] 34)).heap.size : Nat) = w.heap.size + 3 by simp] at h
    refine own_base (base := w.heap.size + 3) ?_ (by omega)
    exact ownsRow_setCell_below (ownsRow_setCell_below (ownsRow_setCell_below (ownsRow_setCell_below (ownsRow_setCell_below h (by simp) _) (by simp) _) (by simp) _) (by simp) _) (by simp) _
  · refine ((((((HB.out.trans (HO.out.2.1.mono (by simp; omega))).setCell (by simp; omega) _).setCell (by simp) _).setCell (by simp) _).setCell (by simp) _).setCell (by simp) _)
theorem eqGrid_same (R C S : Int) (A B : Option Addr) (n c d : Nat) (xs : List Int) (w : World) (h : Ints w A n xs) (h' : Ints w B n xs) :
    Calls Tryd.prog 19 #[.agg #[.int .i64 R, .int .i64 C, .int .i64 S, .slice A n c], .agg #[.int .i64 R, .int .i64 C, .int .i64 S, .slice B n d]] w fun e w' => e = .returned (.bool true) ∧ Below w.heap.size w w' := by
  have B0 := (((Below.refl w.heap.size w).alloc (Nat.le_refl _) (.cells #[.int .i64 R, .int .i64 C, .int .i64 S, .slice A n c] 34)).alloc (by simp) (.cells #[.int .i64 R, .int .i64 C, .int .i64 S, .slice B n d] 34))
  have HI := Lib.hid (And.intro (h.below B0) (h'.below B0))
  clear h h' B0
  go_enter Tryd.func19, Tryd.ntmps19
  go_wp2_with fail
  refine (eqInt64S_same _ _ _ _ _ xs _ HI.out.1 HI.out.2).mono ?_
  rintro e w1 ⟨rfl, hb1⟩
  go_wp2_with fail
  go_ret
  exact ⟨rfl, (((Below.refl _ _).alloc (Nat.le_refl _) _).alloc (by simp) _).trans (hb1.mono (by simp; omega))⟩
theorem markGrid_fresh (R C S : Int) (A : Option Addr) (n c base : Nat) (k : Int) (xs : List Value) (w : World) (h : Fresh w base 2 1 A n c xs) (hn : n ≤ 1048576) (hk1 : 0 ≤ k) (hk2 : k ≤ 100000000000) :
    Calls Tryd.prog 26 #[.agg #[.int .i64 R, .int .i64 C, .int .i64 S, .slice A n c], .int .i64 k] w fun e w' => e = .returned (.int .i64 (k + n)) ∧ ∃ r, Fresh w' base 2 1 A n c ((marks k n).map (.int .i64)) ∧ w.grownBy w' r ∧ (∀ g, r = some g → base ≤ g ∧ 0 < n ∧ A = some ⟨g, 0, none⟩) := by
  have HF := Lib.hid (h.below ((Below.refl _ _).alloc (Nat.le_refl _) (.cells #[.int .i64 R, .int .i64 C, .int .i64 S, .slice A n c] 34)))
  go_enter Tryd.func26, Tryd.ntmps26
  go_wp2_with fail
  refine (markInt64S_fresh _ _ _ _ _ _ _ HF.out hn hk1 hk2).mono ?_
  rintro e w1 ⟨rfl, r, hf, hg, hr⟩
  have HH := Lib.hid (And.intro hf (And.intro hg hr))
  clear hf hg hr
  go_wp2_with fail
  go_ret
  obtain ⟨hf, hg, hr⟩ := HH.out
  exact ⟨rfl, r, hf, ⟨hg.os, hg.tape, hg.output, Nat.le_trans (by simp) hg.size, fun i hi hne => (hg.block i (by simp; omega) hne).trans (Below.heap_alloc w _ i hi)⟩, hr⟩
end Go.Proofs.YthkpffmcafdmeaaDoor
