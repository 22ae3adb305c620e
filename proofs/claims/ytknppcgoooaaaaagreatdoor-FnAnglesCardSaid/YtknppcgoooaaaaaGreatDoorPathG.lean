/-
  The contracts of the ground of a valid path.
-/
import Derived.Test.YtknppcgoooaaaaaGreatDoorPathX
namespace Go.Proofs.YtknppcgoooaaaaaGreatDoor
open Go.ChangeShapes Go.WideShapes Go.ChangeAt Go.RowKit Go.Deep
set_option linter.unusedVariables false

/-- The first point from index 1 on that is at least so far. -/
def gIdx (ps : Pth) (d : Int) : Nat := ((List.range ps.length).find? fun i => decide (1 ≤ i) && decide (d ≤ dAt ps i)).getD 0
theorem gIdx_eq {ps : Pth} {d : Int} {k : Nat} (h1 : 1 ≤ k) (h2 : k < ps.length) (h3 : d ≤ dAt ps k) (h4 : ∀ j, 1 ≤ j → j < k → dAt ps j < d) : gIdx ps d = k := by
  unfold gIdx
  have : (List.range ps.length).find? (fun i => decide (1 ≤ i) && decide (d ≤ dAt ps i)) = some k := by
    rw [List.find?_range_eq_some]
    refine ⟨by simp [h1, h3], by simpa using h2, fun j hj => ?_⟩
    by_cases hj1 : 1 ≤ j
    · have := h4 j hj1 hj
      simp [hj1]
      omega
    · simp [hj1]
  rw [this]
  rfl
def betw (ps : Pth) (k : Nat) (d : Int) : Int := lineN (dAt ps (k - 1)) (1000 * hAt ps (k - 1)) (dAt ps k) (1000 * hAt ps k) d
def groundV (ps : Pth) (d : Int) : Int := betw ps (gIdx ps d) d
theorem gIdx_ok {ps : Pth} (hp : pathOk ps = true) {d : Int} (hd : d ≤ lastD ps) : 1 ≤ gIdx ps d ∧ gIdx ps d < ps.length ∧ d ≤ dAt ps (gIdx ps d) ∧ ∀ j, 1 ≤ j → j < gIdx ps d → dAt ps j < d := by
  have hl := pathOk_len hp
  have hex : ∃ k, 1 ≤ k ∧ k < ps.length ∧ d ≤ dAt ps k ∧ ∀ j, 1 ≤ j → j < k → dAt ps j < d := by
    have key : ∀ m, ∀ k, ps.length - k ≤ m → 1 ≤ k → k < ps.length → (∀ j, 1 ≤ j → j < k → dAt ps j < d) → ∃ k, 1 ≤ k ∧ k < ps.length ∧ d ≤ dAt ps k ∧ ∀ j, 1 ≤ j → j < k → dAt ps j < d := by
      intro m
      induction m with
      | zero => intro k h0 _ h2; omega
      | succ m ih =>
        intro k h0 h1 h2 h3
        by_cases h4 : d ≤ dAt ps k
        · exact ⟨k, h1, h2, h4, h3⟩
        · by_cases h5 : k + 1 < ps.length
          · refine ih (k + 1) (by omega) (by omega) h5 (fun j hj1 hj2 => ?_)
            by_cases e : j = k
            · subst e; omega
            · exact h3 j hj1 (by omega)
          · have e : k = ps.length - 1 := by omega
            unfold lastD at hd
            rw [← e] at hd
            omega
    exact key ps.length 1 (by omega) (by omega) (by omega) (fun j h1 h2 => by omega)
  obtain ⟨k, h1, h2, h3, h4⟩ := hex
  rw [gIdx_eq h1 h2 h3 h4]
  exact ⟨h1, h2, h3, h4⟩

set_option maxRecDepth 100000 in
set_option maxHeartbeats 1600000 in
theorem groundAt_any (A : Option Addr) (n c : Nat) (d : Int) (ps : Pth) (w : World) (h : Pts w A n ps) (hp : pathOk ps = true) (hd : d ≤ lastD ps) :
    Calls Tryz.prog 42 #[.slice A n c, .int .i64 d] w fun e w' => e = .returned (.int .i64 (groundV ps d)) ∧ Below w.heap.size w w' := by
  have HL := Lib.hid h.1
  have hmx := h.2.1
  have hl := pathOk_len hp
  have HG := gIdx_ok hp hd
  have HP := Lib.hid hp
  have H := Lib.hid h
  rw [HL.out] at hl
  obtain ⟨g, hg⟩ : ∃ g, g = gIdx ps d := ⟨_, rfl⟩
  rw [← hg] at HG
  have HV := Lib.hid (show groundV ps d = betw ps g d by unfold groundV; rw [hg])
  have hg1 := HG.1
  have hg2 : g < n := by rw [← HL.out]; exact HG.2.1
  have HG2 := Lib.hid HG.2.2
  clear hg HG hp h
  go_enter Tryz.func42, Tryz.ntmps42
  go_wp2_with fail
  go_loopw [5] (fun i wr => ∃ k : Nat, 1 ≤ k ∧ k ≤ g ∧ i = .int .i64 k ∧ Below w.heap.size w wr) (fun i _ => g - (intOf i).toNat)
  case atStart => exact ⟨1, by omega, hg1, rfl, Below.refl _ _⟩
  case round =>
    obtain ⟨k, hk1, hk2, rfl, hbl⟩ := hrel
    have HB := Lib.hid hbl
    have hh := H.out.below hbl
    obtain ⟨b, off, x, y, rfl, HX, hc1, hc2, hx1, hx2, hx3, hx4⟩ := hh.ok HP.out (show k < n by omega)
    have hki : (k : Int) < (n : Int) := by omega
    by_cases hkg : k < g
    · clear hbl hh
      have hlt : x < d := by have := HG2.out.2 k hk1 hkg; rw [HX.out.1] at this; exact this
      go_wp2_with fail
      go_roundw
      case rel => exact ⟨k + 1, by omega, by omega, by go_num, HB.out⟩
      case measure => simp [intOf]; omega
    · obtain rfl : k = g := by omega
      have hge : d ≤ x := by have := HG2.out.1; rw [HX.out.1] at this; exact this
      obtain ⟨b', off', x0, y0, hAA, HX0, hd1, hd2, hy1, hy2, hy3, hy4⟩ := hh.ok HP.out (show k - 1 < n by omega)
      obtain ⟨rfl, rfl⟩ : b = b' ∧ off = off' := by
        injection hAA with hAA
        injection hAA with e1 e2 _
        exact ⟨e1, e2⟩
      have HE := Lib.hid (show betw ps k d = lineN x0 (1000 * y0) x (1000 * y) d by unfold betw; rw [HX0.out.1, HX0.out.2, HX.out.1, HX.out.2])
      have hj1 : ((k : Int) - 1).toNat = k - 1 := by omega
      have hj2 : (0 : Int) ≤ (k : Int) - 1 := by omega
      have hj3 : (k : Int) - 1 < (n : Int) := by omega
      have hj4 : IntKind.i64.wrap ((k : Int) - 1) = (k : Int) - 1 := IntWalk.i64_in _ (by omega)
      have hj5 : (1 : Int) ≤ (k : Int) := by omega
      have hj6 : (k : Int) ≤ (n : Int) := by omega
      have hbw : b < wr.heap.size := cell_lt hc1
      clear hh hbl
      have HC := fun W : World => Lib.hid (blend_any x0 (1000 * y0) x (1000 * y) d W (by omega) (by omega) (by omega) (by omega))
      clear hAA
      go_wp2_with fail
      go_region_held3 (fun w' => w'.cell? ⟨b, off + k * 2, none⟩ = some (.int .i64 x) ∧ w'.cell? ⟨b, off + k * 2 + 1, none⟩ = some (.int .i64 y) ∧ w'.cell? ⟨b, off + (k - 1) * 2, none⟩ = some (.int .i64 x0) ∧ w'.cell? ⟨b, off + (k - 1) * 2 + 1, none⟩ = some (.int .i64 y0))
        (go_keep) (fail)
      all_goals
        go_wp2_with fail
        refine (HC _).out.mono ?_
        rintro e w2 ⟨rfl, q2, rfl⟩
        go_wp2_with fail
        go_ret
        refine ⟨ret_int (by rw [HV.out, HE.out]), ?_⟩
        have hsz := HB.out.size
        repeat (first | exact HB.out | refine below_drewN ?_ _ | refine Below.drew ?_ | refine Below.alloc ?_ (by first | omega | (simp; omega)) _)

/-! ### GroundAt -/
def gndA (ps : Pth) (d : Int) : Int := if codeP ps 1 d = 0 then groundV ps d else 0
set_option maxRecDepth 100000 in
set_option maxHeartbeats 800000 in
theorem GroundAt_i (A : Option Addr) (n c : Nat) (d : Int) (ps : Pth) (w : World) (h : Pts w A n ps) :
    Calls Tryz.prog 9 #[.slice A n c, .int .i64 d] w fun e w' => e = .returned (.tuple #[.int .i64 (gndA ps d), .int .i64 (codeP ps 1 d)]) ∧ Below w.heap.size w w' := by
  by_cases h0 : codeP ps 1 d = 0
  · obtain ⟨hp, ht, hd⟩ := codeP_ok h0
    have HA := Lib.hid (show gndA ps d = groundV ps d by simp [gndA, h0])
    have H0 := Lib.hid h0
    have HP := Lib.hid hp
    have hd' := (inB_iff.1 hd).2
    clear h0 hp ht hd
    go_enter Tryz.func9, Tryz.ntmps9
    go_wp2_with fail
    refine (pathCode_any _ _ _ _ _ ps _ h).mono ?_
    rintro e w1 ⟨rfl, hb⟩
    have hh := h.below hb
    rw [H0.out]
    go_wp2_with fail
    refine (groundAt_any _ _ _ _ ps _ hh HP.out hd').mono ?_
    rintro e w2 ⟨rfl, hb2⟩
    go_wp2_with fail
    go_ret2
    exact ⟨ret_int2 (by rw [HA.out]) (by rw [H0.out]), hb.trans (hb2.mono hb.size)⟩
  · have hne : (codeP ps 1 d != 0) = true := by simpa using h0
    have HA := Lib.hid (show gndA ps d = 0 by simp [gndA, h0])
    clear h0
    go_enter Tryz.func9, Tryz.ntmps9
    go_wp2_with fail
    refine (pathCode_any _ _ _ _ _ ps _ h).mono ?_
    rintro e w1 ⟨rfl, hb⟩
    go_wp2_with fail
    go_ret2
    exact ⟨ret_int2 (by rw [HA.out]) rfl, hb⟩
end Go.Proofs.YtknppcgoooaaaaaGreatDoor
