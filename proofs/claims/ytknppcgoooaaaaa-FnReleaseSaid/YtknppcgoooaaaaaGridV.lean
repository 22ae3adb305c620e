/-
  The contracts of ValidGrid and CellAt, both sides.
-/
import Derived.Test.YtknppcgoooaaaaaGrid
namespace Go.Proofs.Ytknppcgoooaaaaa
open Go.ChangeShapes Go.WideShapes Go.ChangeAt Go.RowKit Go.Deep
set_option linter.unusedVariables false

theorem gridOk_no {R C S : Int} {hs : List Int} (h : ¬ ((1 ≤ R ∧ R ≤ 8) ∧ (1 ≤ C ∧ C ≤ 8) ∧ (1 ≤ S ∧ S ≤ 100) ∧ (hs.length : Int) = R * C ∧ allB hs 0 5000 = true)) : gridOk R C S hs = false := by
  cases hp : gridOk R C S hs
  · rfl
  · exact absurd (gridOk_iff.1 hp) h
set_option maxRecDepth 100000 in
set_option maxHeartbeats 800000 in
theorem ValidGrid_i (R C S : Int) (A : Option Addr) (n c : Nat) (xs : List Int) (w : World) (h : GridA w R C S A n xs) :
    Calls Try.prog 23 #[.agg #[.int .i64 R, .int .i64 C, .int .i64 S, .slice A n c]] w fun e w' => e = .returned (.bool (gridOk R C S xs)) ∧ Below w.heap.size w w' := by
  have HL := Lib.hid h.1.1
  have B0 := (Below.refl w.heap.size w).alloc (Nat.le_refl _) (.cells #[.int .i64 R, .int .i64 C, .int .i64 S, .slice A n c] 26)
  have HI := Lib.hid (And.intro (h.1.below B0) B0)
  have hn := h.1.2.1
  clear h B0
  cases h1 : inB R 1 8
  · have HG := Lib.hid (show gridOk R C S xs = false by simp [gridOk, h1])
    have H1 := Lib.hid h1
    go_enter Try.func23, Try.ntmps23
    go_wp2_with ((go_at_call 27; refine (within_any _ _ _ _).mono ?_; rintro e w' ⟨rfl, rfl⟩))
    go_ret
    exact ⟨ret_bool (by rw [HG.out]), HI.out.2⟩
  · cases h2 : inB C 1 8
    · have HG := Lib.hid (show gridOk R C S xs = false by simp [gridOk, h1, h2])
      go_enter Try.func23, Try.ntmps23
      go_wp2_with ((go_at_call 27; refine (within_any _ _ _ _).mono ?_; rintro e w' ⟨rfl, rfl⟩))
      go_ret
      exact ⟨ret_bool (by rw [HG.out]), HI.out.2⟩
    · cases h3 : inB S 1 100
      · have HG := Lib.hid (show gridOk R C S xs = false by simp [gridOk, h1, h2, h3])
        go_enter Try.func23, Try.ntmps23
        go_wp2_with ((go_at_call 27; refine (within_any _ _ _ _).mono ?_; rintro e w' ⟨rfl, rfl⟩))
        go_ret
        exact ⟨ret_bool (by rw [HG.out]), HI.out.2⟩
      · have e1 := inB_iff.1 h1
        have e2 := inB_iff.1 h2
        have hm := mul64 e1.1 e1.2 e2.1 e2.2
        by_cases h4 : (n : Int) = R * C
        · have HG := Lib.hid (show gridOk R C S xs = allB xs 0 5000 by simp [gridOk, h1, h2, h3, HL.out, h4])
          have H4 := Lib.hid h4
          have hd : ((n : Int) == R * C) = true := by simpa using h4
          clear h4
          go_enter Try.func23, Try.ntmps23
          go_wp2_with (first | (go_at_call 29; refine (allWithin_any _ _ _ _ _ xs _ HI.out.1).mono ?_; rintro e w' ⟨rfl, hb⟩) | ((go_at_call 27; refine (within_any _ _ _ _).mono ?_; rintro e w' ⟨rfl, rfl⟩)))
          go_ret
          exact ⟨ret_bool (by rw [HG.out]), HI.out.2.trans (hb.mono (by simp))⟩
        · have HG := Lib.hid (show gridOk R C S xs = false by simp [gridOk, h1, h2, h3, HL.out, h4])
          have hd : ((n : Int) == R * C) = false := by simpa using h4
          clear h4
          go_enter Try.func23, Try.ntmps23
          go_wp2_with ((go_at_call 27; refine (within_any _ _ _ _).mono ?_; rintro e w' ⟨rfl, rfl⟩))
          go_ret
          exact ⟨ret_bool (by rw [HG.out]), HI.out.2⟩
/-- A grid in memory, at block b. -/
def GridAt (w : World) (b : Nat) (R C S : Int) (A : Option Addr) (n c : Nat) (xs : List Int) : Prop :=
  w.cell? ⟨b, 0, none⟩ = some (.int .i64 R) ∧ w.cell? ⟨b, 1, none⟩ = some (.int .i64 C) ∧ w.cell? ⟨b, 2, none⟩ = some (.int .i64 S) ∧ w.cell? ⟨b, 3, none⟩ = some (.slice A n c) ∧ GridA w R C S A n xs
theorem GridAt.below {w w' : World} {b : Nat} {R C S : Int} {A : Option Addr} {n c : Nat} {xs : List Int} (h : GridAt w b R C S A n c xs) (hb : Below w.heap.size w w') : GridAt w' b R C S A n c xs :=
  ⟨cell_kept hb h.1, cell_kept hb h.2.1, cell_kept hb h.2.2.1, cell_kept hb h.2.2.2.1, h.2.2.2.2.below hb⟩
theorem GridAt.drewN {w : World} {b : Nat} {R C S : Int} {A : Option Addr} {n c : Nat} {xs : List Int} (h : GridAt w b R C S A n c xs) (k : Nat) : GridAt (w.drewN k) b R C S A n c xs := h
/-- A grid that is boxed. -/
theorem GridA.box {w : World} {R C S : Int} {A : Option Addr} {n c : Nat} {xs : List Int} (h : GridA w R C S A n xs) (T : TypeId) : GridAt (w.alloc (.cells #[.int .i64 R, .int .i64 C, .int .i64 S, .slice A n c] T)) w.heap.size R C S A n c xs :=
  ⟨by go_simp, by go_simp, by go_simp, by go_simp, h.below ((Below.refl _ _).alloc (Nat.le_refl _) _)⟩
set_option maxRecDepth 100000 in
set_option maxHeartbeats 800000 in
theorem l09Ok_any (b : Nat) (R C S : Int) (A : Option Addr) (n c : Nat) (xs : List Int) (w : World) (h : GridAt w b R C S A n c xs) :
    Calls Try.prog 39 #[.pointer (some ⟨b, 0, none⟩)] w fun e w' => e = .returned (.bool (gridOk R C S xs)) ∧ ∃ q, w' = w.drewN q := by
  have HL := Lib.hid h.2.2.2.2.1.1
  have hI := h.2.2.2.2.1
  obtain ⟨c0, c1, c2, c3, _⟩ := h
  have hn := hI.2.1
  cases h1 : inB R 1 8
  · have HG := Lib.hid (show gridOk R C S xs = false by simp [gridOk, h1])
    go_enter Try.func39, Try.ntmps39
    go_wp2_with fail
    go_quiet ((go_at_call 48; exact quiet_left (l00In_any _ _ _ _)))
    go_wp2_with fail
    go_ret
    exact ⟨ret_bool (by rw [HG.out]), _, rfl⟩
  · cases h2 : inB C 1 8
    · have HG := Lib.hid (show gridOk R C S xs = false by simp [gridOk, h1, h2])
      go_enter Try.func39, Try.ntmps39
      go_wp2_with fail
      go_quiet ((go_at_call 48; exact quiet_left (l00In_any _ _ _ _)))
      go_wp2_with fail
      go_ret
      exact ⟨ret_bool (by rw [HG.out]), _, rfl⟩
    · cases h3 : inB S 1 100
      · have HG := Lib.hid (show gridOk R C S xs = false by simp [gridOk, h1, h2, h3])
        go_enter Try.func39, Try.ntmps39
        go_wp2_with fail
        go_quiet ((go_at_call 48; exact quiet_left (l00In_any _ _ _ _)))
        go_wp2_with fail
        go_ret
        exact ⟨ret_bool (by rw [HG.out]), _, rfl⟩
      · have e1 := inB_iff.1 h1
        have e2 := inB_iff.1 h2
        have hm := mul64 e1.1 e1.2 e2.1 e2.2
        by_cases h4 : (n : Int) = R * C
        · have HG := Lib.hid (show gridOk R C S xs = allB xs 0 5000 by simp [gridOk, h1, h2, h3, HL.out, h4])
          have H4 := Lib.hid h4
          have hd : ((n : Int) != R * C) = false := by simpa using h4
          clear h4
          go_enter Try.func39, Try.ntmps39
          have hw : IntKind.i64.wrap (R * C) = R * C := IntWalk.i64_in _ (by omega)
          go_wp2_with fail
          go_quiet ((go_at_call 48; exact quiet_left (l00In_any _ _ _ _)))
          have HW := Lib.hid (And.intro hw (And.intro h1 (And.intro h2 (And.intro h3 hd))))
          clear hw h1 h2 h3 hd
          go_wp2_with fail
          go_loopw [3] (fun i wr => ∃ k q : Nat, k ≤ n ∧ i = .int .i64 k ∧ wr = w.drewN q ∧ Hid (∀ (j : Nat) (x : Int), j < k → xs[j]? = some x → inB x 0 5000 = true)) (fun i _ => n - (intOf i).toNat)
          case atStart => exact ⟨0, _, Nat.zero_le _, rfl, rfl, fun j x hj => absurd hj (by omega)⟩
          case round =>
            obtain ⟨k, q, hk, rfl, rfl, HK⟩ := hrel
            by_cases hlt : k < n
            · obtain ⟨bb, off, x, rfl, HX, hc, hx1, hx2⟩ := hI.at_ hlt
              cases hb : inB x 0 5000
              · have HN := Lib.hid (allB_no HX.out hb)
                go_wp2_with ((go_at_call 48; refine (l00In_any _ _ _ _).mono ?_; rintro e w' ⟨rfl, rfl⟩))
                go_ret
                exact ⟨ret_bool (by rw [HG.out, HN.out]), _, rfl⟩
              · have HB := Lib.hid hb
                go_wp2_with ((go_at_call 48; refine (l00In_any _ _ _ _).mono ?_; rintro e w' ⟨rfl, rfl⟩))
                go_roundw
                case rel => exact ⟨k + 1, _, by omega, by go_num, rfl, fun j y hj hy => by
                  by_cases e : j = k
                  · subst e
                    have := HX.out.symm.trans hy
                    injection this with e2
                    subst e2
                    exact HB.out
                  · exact HK.out j y (by omega) hy⟩
                case measure => simp [intOf]; omega
            · obtain rfl : k = n := by omega
              clear hlt
              have HA := Lib.hid (allB_all (xs := xs) (lo := 0) (hi := 5000) (fun j x hj hx => HK.out j x (by rw [← HL.out]; exact hj) hx))
              go_wp2_with fail
              go_ret
              exact ⟨ret_bool (by rw [HG.out, HA.out]), _, rfl⟩
        · have HG := Lib.hid (show gridOk R C S xs = false by simp [gridOk, h1, h2, h3, HL.out, h4])
          have hd : ((n : Int) != R * C) = true := by simpa using h4
          clear h4
          go_enter Try.func39, Try.ntmps39
          have hw : IntKind.i64.wrap (R * C) = R * C := IntWalk.i64_in _ (by omega)
          go_wp2_with fail
          go_quiet ((go_at_call 48; exact quiet_left (l00In_any _ _ _ _)))
          go_wp2_with fail
          go_ret
          exact ⟨ret_bool (by rw [HG.out]), _, rfl⟩
/-! ### The number of a cell -/
def atB (R C S : Int) (hs : List Int) (r c : Int) : Bool := inB r 0 (R - 1) && inB c 0 (C - 1)
def atC (R C S : Int) (hs : List Int) (r c : Int) : Int := if gridOk R C S hs = true then (if atB R C S hs r c = true then 0 else 2) else 1
def atV (R C S : Int) (hs : List Int) (r c : Int) : Int := if (gridOk R C S hs && atB R C S hs r c) = true then r * C + c else 0
end Go.Proofs.Ytknppcgoooaaaaa
