/-
  The contracts of the ground of a valid path.
-/
import Derived.Test.YtehfpnammmgeaaaPathX
namespace Go.Proofs.Ytehfpnammmgeaaa
open Go.ChangeShapes Go.WideShapes Go.ChangeAt Go.RowKit Go.Deep
set_option linter.unusedVariables false

/-- The first point from index 1 on that is at least so far. -/
def gIdx (ps : Pth) (d : Int) : Nat := ((List.range ps.length).find? fun i => decide (1 ≤ i) && decide (d ≤ dAt ps i)).getD 0
theorem gIdx_eq {ps : Pth} {d : Int} {k : Nat} (h1 : 1 ≤ k) (h2 : k < ps.length) (h3 : d ≤ dAt ps k) (h4 : ∀ j, 1 ≤ j → j < k → dAt ps j < d) : gIdx ps d = k := by
  unfold gIdx
  have : (List.range ps.length).find? (fun i => decide (1 ≤ i) && decide (d ≤ dAt ps i)) = some k := by
    rw [List.find?_range_eq_some]
    refine ⟨by simp [h1, h3], by simpa using h2, fun j hj => ?_⟩
    by_cases hj1 : 1 ≤ j
    · have := h4 j hj1 hj
      simp [hj1]
      omega
    · simp [hj1]
  rw [this]
  rfl
def betw (ps : Pth) (k : Nat) (d : Int) : Int := lineN (dAt ps (k - 1)) (1000 * hAt ps (k - 1)) (dAt ps k) (1000 * hAt ps k) d
def groundV (ps : Pth) (d : Int) : Int := betw ps (gIdx ps d) d
theorem gIdx_ok {ps : Pth} (hp : pathOk ps = true) {d : Int} (hd : d ≤ lastD ps) : 1 ≤ gIdx ps d ∧ gIdx ps d < ps.length ∧ d ≤ dAt ps (gIdx ps d) ∧ ∀ j, 1 ≤ j → j < gIdx ps d → dAt ps j < d := by
  have hl := pathOk_len hp
  have hex : ∃ k, 1 ≤ k ∧ k < ps.length ∧ d ≤ dAt ps k ∧ ∀ j, 1 ≤ j → j < k → dAt ps j < d := by
    have key : ∀ m, ∀ k, ps.length - k ≤ m → 1 ≤ k → k < ps.length → (∀ j, 1 ≤ j → j < k → dAt ps j < d) → ∃ k, 1 ≤ k ∧ k < ps.length ∧ d ≤ dAt ps k ∧ ∀ j, 1 ≤ j → j < k → dAt ps j < d := by
      intro m
      induction m with
      | zero => intro k h0 _ h2; omega
      | succ m ih =>
        intro k h0 h1 h2 h3
        by_cases h4 : d ≤ dAt ps k
        · exact ⟨k, h1, h2, h4, h3⟩
        · by_cases h5 : k + 1 < ps.length
          · refine ih (k + 1) (by omega) (by omega) h5 (fun j hj1 hj2 => ?_)
            by_cases e : j = k
            · subst e; omega
            · exact h3 j hj1 (by omega)
          · have e : k = ps.length - 1 := by omega
            unfold lastD at hd
            rw [← e] at hd
            omega
    exact key ps.length 1 (by omega) (by omega) (by omega) (fun j h1 h2 => by omega)
  obtain ⟨k, h1, h2, h3, h4⟩ := hex
  rw [gIdx_eq h1 h2 h3 h4]
  exact ⟨h1, h2, h3, h4⟩

set_option maxRecDepth 100000 in
set_option maxHeartbeats 1600000 in
theorem l14Between_any (A : Option Addr) (n c k : Nat) (d : Int) (ps : Pth) (w : World) (h : Pts w A n ps) (hp : pathOk ps = true) (hk : 1 ≤ k) (hkn : k < n) :
    Calls Try.prog 69 #[.slice A n c, .int .i64 k, .int .i64 d] w fun e w' => e = .returned (.int .i64 (betw ps k d)) ∧ ∃ q, w' = w.drewN q := by
  have HL := Lib.hid h.1
  have hmx := h.2.1
  obtain ⟨b, off, x0, y0, rfl, HX0, hc1, hc2, hx1, hx2, hx3, hx4⟩ := h.ok hp (show k - 1 < n by omega)
  obtain ⟨b', off', x, y, hAA, HX, hd1, hd2, hy1, hy2, hy3, hy4⟩ := h.ok hp hkn
  obtain ⟨rfl, rfl⟩ : b = b' ∧ off = off' := by
    injection hAA with hAA
    injection hAA with e1 e2 _
    exact ⟨e1, e2⟩
  have HE := Lib.hid (show betw ps k d = lineN x0 (1000 * y0) x (1000 * y) d by unfold betw; rw [HX0.out.1, HX0.out.2, HX.out.1, HX.out.2])
  have hki : (k : Int) < (n : Int) := by omega
  have hk1 : ((k : Int) - 1).toNat = k - 1 := by omega
  have hk2 : (0 : Int) ≤ (k : Int) - 1 := by omega
  have hk3 : (k : Int) - 1 < (n : Int) := by omega
  have hk4 : IntKind.i64.wrap ((k : Int) - 1) = (k : Int) - 1 := IntWalk.i64_in _ (by omega)
  have hw1 : IntKind.i64.wrap (1000 * y0) = 1000 * y0 := IntWalk.i64_in _ (by omega)
  have hw2 : IntKind.i64.wrap (1000 * y) = 1000 * y := IntWalk.i64_in _ (by omega)
  have HC := fun W : World => Lib.hid (l01Line_any x0 (1000 * y0) x (1000 * y) d W (by omega) (by omega) (by omega) (by omega))
  clear h hp hAA
  go_enter Try.func69, Try.ntmps69
  go_wp2_with fail
  go_quiet ((go_at_call 87; exact quiet_left (HC _).out))
  go_wp2_with fail
  go_ret
  exact ⟨ret_int (by rw [HE.out]), _, rfl⟩
set_option maxRecDepth 100000 in
set_option maxHeartbeats 1600000 in
theorem l14Ground_any (A : Option Addr) (n c : Nat) (d : Int) (ps : Pth) (w : World) (h : Pts w A n ps) (hp : pathOk ps = true) (hd : d ≤ lastD ps) :
    Calls Try.prog 65 #[.slice A n c, .int .i64 d] w fun e w' => e = .returned (.int .i64 (groundV ps d)) ∧ ∃ q, w' = w.drewN q := by
  have HL := Lib.hid h.1
  have hmx := h.2.1
  have hl := pathOk_len hp
  have HG := gIdx_ok hp hd
  have HP := Lib.hid hp
  have H := Lib.hid h
  rw [HL.out] at hl
  obtain ⟨g, hg⟩ : ∃ g, g = gIdx ps d := ⟨_, rfl⟩
  rw [← hg] at HG
  have HV := Lib.hid (show groundV ps d = betw ps g d by unfold groundV; rw [hg])
  have hg1 := HG.1
  have hg2 : g < n := by rw [← HL.out]; exact HG.2.1
  have HG2 := Lib.hid HG.2.2
  clear hg HG hp h
  go_enter Try.func65, Try.ntmps65
  go_wp2_with fail
  go_loopw [5] (fun i wr => ∃ k q : Nat, 1 ≤ k ∧ k ≤ g ∧ i = .int .i64 k ∧ wr = w.drewN q) (fun i _ => g - (intOf i).toNat)
  case atStart => exact ⟨1, 0, by omega, hg1, rfl, rfl⟩
  case round =>
    obtain ⟨k, q, hk1, hk2, rfl, rfl⟩ := hrel
    obtain ⟨b, off, x, y, rfl, HX, hc1, hc2, hx1, hx2, hx3, hx4⟩ := H.out.ok HP.out (show k < n by omega)
    have hki : (k : Int) < (n : Int) := by omega
    by_cases hkg : k < g
    · have hlt : x < d := by have := HG2.out.2 k hk1 hkg; rw [HX.out.1] at this; exact this
      go_wp2_with fail
      go_roundw
      case rel => exact ⟨k + 1, _, by omega, by omega, by go_num, rfl⟩
      case measure => simp [intOf]; omega
    · obtain rfl : k = g := by omega
      have hge : d ≤ x := by have := HG2.out.1; rw [HX.out.1] at this; exact this
      go_wp2_with fail
      refine (l14Between_any _ _ _ _ _ ps _ (H.out.drewN q) HP.out hk1 hg2).mono ?_
      rintro e w2 ⟨rfl, q2, rfl⟩
      go_wp2_with fail
      go_ret
      exact ⟨ret_int (by rw [HV.out]), _, rfl⟩
set_option maxRecDepth 100000 in
set_option maxHeartbeats 1600000 in
theorem groundAt_any (A : Option Addr) (n c : Nat) (d : Int) (ps : Pth) (w : World) (h : Pts w A n ps) (hp : pathOk ps = true) (hd : d ≤ lastD ps) :
    Calls Try.prog 66 #[.slice A n c, .int .i64 d] w fun e w' => e = .returned (.int .i64 (groundV ps d)) ∧ Below w.heap.size w w' := by
  have HL := Lib.hid h.1
  have hmx := h.2.1
  have hl := pathOk_len hp
  have HG := gIdx_ok hp hd
  have HP := Lib.hid hp
  have H := Lib.hid h
  rw [HL.out] at hl
  obtain ⟨g, hg⟩ : ∃ g, g = gIdx ps d := ⟨_, rfl⟩
  rw [← hg] at HG
  have HV := Lib.hid (show groundV ps d = betw ps g d by unfold groundV; rw [hg])
  have hg1 := HG.1
  have hg2 : g < n := by rw [← HL.out]; exact HG.2.1
  have HG2 := Lib.hid HG.2.2
  clear hg HG hp h
  go_enter Try.func66, Try.ntmps66
  go_wp2_with fail
  go_loopw [5] (fun i wr => ∃ k : Nat, 1 ≤ k ∧ k ≤ g ∧ i = .int .i64 k ∧ Below w.heap.size w wr) (fun i _ => g - (intOf i).toNat)
  case atStart => exact ⟨1, by omega, hg1, rfl, Below.refl _ _⟩
  case round =>
    obtain ⟨k, hk1, hk2, rfl, hbl⟩ := hrel
    have HB := Lib.hid hbl
    have hh := H.out.below hbl
    obtain ⟨b, off, x, y, rfl, HX, hc1, hc2, hx1, hx2, hx3, hx4⟩ := hh.ok HP.out (show k < n by omega)
    have hki : (k : Int) < (n : Int) := by omega
    by_cases hkg : k < g
    · clear hbl hh
      have hlt : x < d := by have := HG2.out.2 k hk1 hkg; rw [HX.out.1] at this; exact this
      go_wp2_with fail
      go_roundw
      case rel => exact ⟨k + 1, by omega, by omega, by go_num, HB.out⟩
      case measure => simp [intOf]; omega
    · obtain rfl : k = g := by omega
      have hge : d ≤ x := by have := HG2.out.1; rw [HX.out.1] at this; exact this
      obtain ⟨b', off', x0, y0, hAA, HX0, hd1, hd2, hy1, hy2, hy3, hy4⟩ := hh.ok HP.out (show k - 1 < n by omega)
      obtain ⟨rfl, rfl⟩ : b = b' ∧ off = off' := by
        injection hAA with hAA
        injection hAA with e1 e2 _
        exact ⟨e1, e2⟩
      have HE := Lib.hid (show betw ps k d = lineN x0 (1000 * y0) x (1000 * y) d by unfold betw; rw [HX0.out.1, HX0.out.2, HX.out.1, HX.out.2])
      have hj1 : ((k : Int) - 1).toNat = k - 1 := by omega
      have hj2 : (0 : Int) ≤ (k : Int) - 1 := by omega
      have hj3 : (k : Int) - 1 < (n : Int) := by omega
      have hj4 : IntKind.i64.wrap ((k : Int) - 1) = (k : Int) - 1 := IntWalk.i64_in _ (by omega)
      have hj5 : (1 : Int) ≤ (k : Int) := by omega
      have hj6 : (k : Int) ≤ (n : Int) := by omega
      have hbw : b < wr.heap.size := cell_lt hc1
      clear hh hbl
      have HC := fun W : World => Lib.hid (blend_any x0 (1000 * y0) x (1000 * y) d W (by omega) (by omega) (by omega) (by omega))
      clear hAA
      go_wp2_with fail
      go_region_held3 (fun w' => w'.cell? ⟨b, off + k * 2, none⟩ = some (.int .i64 x) ∧ w'.cell? ⟨b, off + k * 2 + 1, none⟩ = some (.int .i64 y) ∧ w'.cell? ⟨b, off + (k - 1) * 2, none⟩ = some (.int .i64 x0) ∧ w'.cell? ⟨b, off + (k - 1) * 2 + 1, none⟩ = some (.int .i64 y0))
        (go_keep) (fail)
      all_goals
        go_wp2_with fail
        refine (HC _).out.mono ?_
        rintro e w2 ⟨rfl, q2, rfl⟩
        go_wp2_with fail
        go_ret
        refine ⟨ret_int (by rw [HV.out, HE.out]), ?_⟩
        have hsz := HB.out.size
        repeat (first | exact HB.out | refine below_drewN ?_ _ | refine Below.drew ?_ | refine Below.alloc ?_ (by first | omega | (simp; omega)) _)

/-! ### GroundAt -/
def gndA (ps : Pth) (d : Int) : Int := if codeP ps 1 d = 0 then groundV ps d else 0
set_option maxRecDepth 100000 in
set_option maxHeartbeats 800000 in
theorem GroundAt_i (A : Option Addr) (n c : Nat) (d : Int) (ps : Pth) (w : World) (h : Pts w A n ps) :
    Calls Try.prog 32 #[.slice A n c, .int .i64 d] w fun e w' => e = .returned (.tuple #[.int .i64 (gndA ps d), .int .i64 (codeP ps 1 d)]) ∧ Below w.heap.size w w' := by
  by_cases h0 : codeP ps 1 d = 0
  · obtain ⟨hp, ht, hd⟩ := codeP_ok h0
    have HA := Lib.hid (show gndA ps d = groundV ps d by simp [gndA, h0])
    have H0 := Lib.hid h0
    have HP := Lib.hid hp
    have hd' := (inB_iff.1 hd).2
    clear h0 hp ht hd
    go_enter Try.func32, Try.ntmps32
    go_wp2_with fail
    refine (pathCode_any _ _ _ _ _ ps _ h).mono ?_
    rintro e w1 ⟨rfl, hb⟩
    have hh := h.below hb
    rw [H0.out]
    go_wp2_with fail
    refine (groundAt_any _ _ _ _ ps _ hh HP.out hd').mono ?_
    rintro e w2 ⟨rfl, hb2⟩
    go_wp2_with fail
    go_ret2
    exact ⟨ret_int2 (by rw [HA.out]) (by rw [H0.out]), hb.trans (hb2.mono hb.size)⟩
  · have hne : (codeP ps 1 d != 0) = true := by simpa using h0
    have HA := Lib.hid (show gndA ps d = 0 by simp [gndA, h0])
    clear h0
    go_enter Try.func32, Try.ntmps32
    go_wp2_with fail
    refine (pathCode_any _ _ _ _ _ ps _ h).mono ?_
    rintro e w1 ⟨rfl, hb⟩
    go_wp2_with fail
    go_ret2
    exact ⟨ret_int2 (by rw [HA.out]) rfl, hb⟩
set_option maxRecDepth 100000 in
set_option maxHeartbeats 800000 in
theorem GroundAt_s (A : Option Addr) (n c : Nat) (d : Int) (ps : Pth) (w : World) (h : Pts w A n ps) :
    Calls Try.prog 31 #[.slice A n c, .int .i64 d] w fun e w' => e = .returned (.tuple #[.int .i64 (gndA ps d), .int .i64 (codeP ps 1 d)]) ∧ Below w.heap.size w w' := by
  have h11 : inB 1 1 3000 = true := rfl
  cases hp : pathOk ps
  · have HA := hid_and (show gndA ps d = 0 by simp [gndA, codeP, hp]) (show codeP ps 1 d = 1 by simp [codeP, hp])
    go_enter Try.func31, Try.ntmps31
    go_wp2_with fail
    refine (l14Ok_any _ _ _ ps _ h).mono ?_
    rintro e w1 ⟨rfl, hb⟩
    go_wp2_with fail
    go_ret2
    exact ⟨ret_int2 (by rw [HA.out.1]) (by rw [HA.out.2]), hb⟩
  · have HP := Lib.hid hp
    cases h2 : inB d 0 (lastD ps)
    · have HA := hid_and (show gndA ps d = 0 by simp [gndA, codeP, hp, h11, h2]) (show codeP ps 1 d = 2 by simp [codeP, hp, h11, h2])
      go_enter Try.func31, Try.ntmps31
      go_wp2_with fail
      refine (l14Ok_any _ _ _ ps _ h).mono ?_
      rintro e w1 ⟨rfl, hb⟩
      have hh := h.below hb
      go_wp2_with fail
      refine (l14Distance_any _ _ _ _ ps _ hh HP.out).mono ?_
      rintro e w2 ⟨rfl, q, rfl⟩
      go_wp2_with fail
      go_ret2
      exact ⟨ret_int2 (by rw [HA.out.1]) (by rw [HA.out.2]), below_drewN hb _⟩
    · have hd := inB_iff.1 h2
      have HA := hid_and (show gndA ps d = groundV ps d by simp [gndA, codeP, hp, h11, h2]) (show codeP ps 1 d = 0 by simp [codeP, hp, h11, h2])
      go_enter Try.func31, Try.ntmps31
      go_wp2_with fail
      refine (l14Ok_any _ _ _ ps _ h).mono ?_
      rintro e w1 ⟨rfl, hb⟩
      have hh := h.below hb
      go_wp2_with fail
      refine (l14Distance_any _ _ _ _ ps _ hh HP.out).mono ?_
      rintro e w2 ⟨rfl, q, rfl⟩
      go_wp2_with fail
      refine (l14Ground_any _ _ _ _ ps _ (hh.drewN q) HP.out hd.2).mono ?_
      rintro e w2 ⟨rfl, q2, rfl⟩
      go_wp2_with fail
      go_ret2
      exact ⟨ret_int2 (by rw [HA.out.1]) (by rw [HA.out.2]), below_drewN hb _⟩
end Go.Proofs.Ytehfpnammmgeaaa
