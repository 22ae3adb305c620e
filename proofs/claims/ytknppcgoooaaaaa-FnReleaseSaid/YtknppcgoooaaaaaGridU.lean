/-
  The cells around a cell and the steepest slope, the reference's.
-/
import Derived.Test.YtknppcgoooaaaaaGridC
import Derived.Deep.DeepCutAuto
namespace Go.Proofs.Ytknppcgoooaaaaa
open Go.ChangeShapes Go.WideShapes Go.ChangeAt Go.RowKit Go.Deep
set_option linter.unusedVariables false

def goAt (R C k : Int) (a : Nat) : Int := if nbOk R C k a = true then nbAt C k a else -1
theorem wrap_row {C : Int} {k n a : Nat} (hC : 1 ≤ C) (hk : k < n) (hn : n ≤ 64) (ha : a < 8) : IntKind.i64.wrap (IntKind.i64.wrap ((k : Int) / C) + dirR a) = nbR C k a := by
  have h1 := Int.ediv_nonneg (show (0 : Int) ≤ k by omega) (show 0 ≤ C by omega)
  have h2 := Int.ediv_le_self C (show (0 : Int) ≤ k by omega)
  have h3 := dir_bd a
  rw [show IntKind.i64.wrap ((k : Int) / C) = (k : Int) / C from IntWalk.i64_in _ (by omega)]
  exact IntWalk.i64_in _ (by omega)
theorem wrap_col {C : Int} {k a : Nat} (hC : 1 ≤ C) (hC8 : C ≤ 8) : IntKind.i64.wrap ((k : Int) % C + dirC a) = nbC C k a := by
  have h4 := Int.emod_nonneg (k : Int) (show C ≠ 0 by omega)
  have h5 := Int.emod_lt_of_pos (k : Int) (show 0 < C by omega)
  have h3 := dir_bd a
  exact IntWalk.i64_in _ (by omega)
theorem below_of_drew2 {w w' : World} (h : Below w.drew.drew.heap.size w.drew.drew w') : Below w.heap.size w w' := ⟨h.os, h.tape, h.output, h.size, h.block⟩
theorem l09Rows_any (w : World) : Calls Try.prog 46 #[] w fun e w' => e = .returned (.slice (some ⟨w.heap.size, 0, none⟩) 8 8) ∧ (∀ a, a < 8 → w'.cell? ⟨w.heap.size, a, none⟩ = some (.int .i64 (dirR a))) ∧ Below w.heap.size w w' := by
  go_enter Try.func46, Try.ntmps46
  go_wp2_with fail
  go_ret
  refine ⟨rfl, fun a ha => ?_, (Below.refl _ _).alloc (Nat.le_refl _) _⟩
  rw [World.cell?_alloc_mark]
  rcases lt8 ha with rfl | rfl | rfl | rfl | rfl | rfl | rfl | rfl <;> rfl
theorem l09Columns_any (w : World) : Calls Try.prog 47 #[] w fun e w' => e = .returned (.slice (some ⟨w.heap.size, 0, none⟩) 8 8) ∧ (∀ a, a < 8 → w'.cell? ⟨w.heap.size, a, none⟩ = some (.int .i64 (dirC a))) ∧ Below w.heap.size w w' := by
  go_enter Try.func47, Try.ntmps47
  go_wp2_with fail
  go_ret
  refine ⟨rfl, fun a ha => ?_, (Below.refl _ _).alloc (Nat.le_refl _) _⟩
  rw [World.cell?_alloc_mark]
  rcases lt8 ha with rfl | rfl | rfl | rfl | rfl | rfl | rfl | rfl <;> rfl
set_option maxRecDepth 100000 in
set_option maxHeartbeats 1600000 in
theorem l09Go_any (b : Nat) (R C S : Int) (A : Option Addr) (n c : Nat) (k a : Nat) (w : World) (hg : BoxG w b R C S A n c) (r1 : 1 ≤ R) (r2 : R ≤ 8) (c1 : 1 ≤ C) (c2 : C ≤ 8) (hk : k < n) (hn : n ≤ 64) (ha : a < 8) :
    Calls Try.prog 34 #[.pointer (some ⟨b, 0, none⟩), .int .i64 k, .int .i64 a] w fun e w' => e = .returned (.int .i64 (goAt R C k a)) ∧ Below w.heap.size w w' := by
  have hq0 : (k : Int).tdiv C = k / C := Int.tdiv_eq_ediv_of_nonneg (by omega)
  have hq1 : (k : Int).tmod C = k % C := Int.tmod_eq_emod_of_nonneg (by omega)
  have hrc := nb_rc (C := C) (k := k) (n := n) (a := a) (by omega) (by omega) (by omega) (by omega) (by omega)
  have hC0 : ¬ C = 0 := by omega
  have ha8 : (a : Int) < 8 := by omega
  obtain ⟨p0, p1, p2, p3⟩ := hg
  have HG := Lib.hid (show BoxG w b R C S A n c from ⟨p0, p1, p2, p3⟩)
  go_enter Try.func34, Try.ntmps34
  have HC := Lib.hid (And.intro hq0 (And.intro hq1 (And.intro hrc hC0)))
  go_upto_region 1 with (fail)
  go_cut [7] (fun r wr => r = .int .i64 (nbR C k a) ∧ Below w.heap.size w wr)
  case first =>
    go_region_with ((go_at_call 46; refine (l09Rows_any _).mono ?_; rintro e w2 ⟨rfl, hc2, hb2⟩; have hc2a : w2.cell? ⟨w.heap.size, a, none⟩ = some (.int .i64 (dirR a)) := hc2 a ha; have p1b : w2.cell? ⟨b, 1, none⟩ = some (.int .i64 C) := (hb2.cell (p := ⟨b, 1, none⟩) (by have := cell_lt p1; simpa using this)).trans p1; clear hc2))
    all_goals
      go_wp2_with fail
      go_meet
      exact ⟨by rw [wrap_row c1 hk hn ha], by first | exact below_of_drew hb2 | exact (below_of_drew hb2).drew | exact below_of_drew2 hb2⟩
  case rest =>
    obtain ⟨rfl, hb⟩ := hcut
    have p1c := cell_kept hb p1
    have p0c := cell_kept hb p0
    have HB := Lib.hid hb
    clear hb p0 p1 p2 p3
    rename World => wd
    go_upto_region 2 with (fail)
    go_cut [8] (fun r wr => r = .int .i64 (nbC C k a) ∧ Below wd.heap.size wd wr)
    case first =>
      go_region_with ((go_at_call 47; refine (l09Columns_any _).mono ?_; rintro e w2 ⟨rfl, hc2, hb2⟩; have hc2a : w2.cell? ⟨wd.heap.size, a, none⟩ = some (.int .i64 (dirC a)) := hc2 a ha; have p1b : w2.cell? ⟨b, 1, none⟩ = some (.int .i64 C) := (hb2.cell (p := ⟨b, 1, none⟩) (by have := cell_lt p1c; simpa using this)).trans p1c; clear hc2))
      all_goals
        go_wp2_with fail
        go_meet
        exact ⟨by rw [wrap_col c1 c2], by first | exact below_of_drew hb2 | exact (below_of_drew hb2).drew | exact below_of_drew2 hb2⟩
    case rest =>
      obtain ⟨rfl, hb⟩ := hcut
      have p1d := cell_kept hb p1c
      have p0d := cell_kept hb p0c
      have HB2 := Lib.hid (HB.out.trans (hb.mono HB.out.size))
      clear hb p0c p1c hq0 hq1 hC0
      obtain ⟨r, hr⟩ : ∃ r, r = nbR C k a := ⟨_, rfl⟩
      obtain ⟨q, hq⟩ : ∃ q, q = nbC C k a := ⟨_, rfl⟩
      have HRQ := Lib.hid (And.intro hr hq)
      rw [← hr, ← hq] at hrc ⊢
      have HOK := Lib.hid (show nbOk R C k a = (inB r 0 (R - 1) && inB q 0 (C - 1)) by rw [hr, hq]; rfl)
      clear hr hq
      cases h1 : inB r 0 (R - 1)
      · have HN := Lib.hid (show goAt R C k a = -1 by unfold goAt; rw [HOK.out, h1]; rfl)
        go_wp2_with ((go_at_call 48; refine (l00In_any _ _ _ _).mono ?_; rintro e w' ⟨rfl, rfl⟩))
        go_ret
        exact ⟨ret_int (by rw [HN.out]), HB2.out⟩
      · cases h2 : inB q 0 (C - 1)
        · have HN := Lib.hid (show goAt R C k a = -1 by unfold goAt; rw [HOK.out, h1, h2]; rfl)
          go_wp2_with ((go_at_call 48; refine (l00In_any _ _ _ _).mono ?_; rintro e w' ⟨rfl, rfl⟩))
          go_ret
          exact ⟨ret_int (by rw [HN.out]), HB2.out⟩
        · have HN := Lib.hid (show goAt R C k a = r * C + q by
            unfold goAt
            rw [HOK.out, h1, h2, if_pos (by rfl)]
            unfold nbAt
            rw [HRQ.out.1, HRQ.out.2])
          have i1 := inB_iff.1 h1
          have i2 := inB_iff.1 h2
          have m1 : 0 ≤ r * C := Int.mul_nonneg (by omega) (by omega)
          have m2 : r * C ≤ 7 * 8 := Int.mul_le_mul (by omega) (by omega) (by omega) (by omega)
          go_wp2_with ((go_at_call 48; refine (l00In_any _ _ _ _).mono ?_; rintro e w' ⟨rfl, rfl⟩))
          go_ret
          exact ⟨ret_int (by rw [HN.out]), HB2.out⟩
set_option maxRecDepth 100000 in
set_option maxHeartbeats 800000 in
theorem l09Fall_any (b : Nat) (R C S : Int) (A : Option Addr) (n c : Nat) (k M a : Nat) (hs : List Int) (w : World) (hg : BoxG w b R C S A n c) (h : Ints w A n hs) (hall : allB hs 0 5000 = true) (s1 : 1 ≤ S) (s2 : S ≤ 100) (hk : k < n) (hM : M < n) (hMe : nbAt C k a = (M : Int)) (ha : a < 8) :
    Calls Try.prog 45 #[.pointer (some ⟨b, 0, none⟩), .int .i64 k, .int .i64 M, .int .i64 a] w fun e w' => e = .returned (.int .i64 (fallAt C S hs k a)) ∧ Below w.heap.size w w' := by
  obtain ⟨g, off, xk, rfl, HXk, hck, _⟩ := h.at_ hk
  obtain ⟨g', off', xM, hA', HXM, hcM, _⟩ := h.at_ hM
  injection hA' with hA'
  injection hA' with hb' ho' _
  subst hb' ho'
  have bk := allB_iff.1 hall _ _ HXk.out
  have bM := allB_iff.1 hall _ _ HXM.out
  have HV := Lib.hid (And.intro hMe (And.intro (hg_eq HXk.out) (hg_eq HXM.out)))
  obtain ⟨p0, p1, p2, p3⟩ := hg
  have hkI : (k : Int) < (n : Int) := by omega
  have hMI : (M : Int) < (n : Int) := by omega
  clear hMe hall h
  rcases Nat.mod_two_eq_zero_or_one a with hpa | hpa
  · have hpI : ((a : Int) % 2 == 1) = false := by simp; omega
    have HP := Lib.hid hpa
    clear hpa
    go_enter Try.func45, Try.ntmps45
    have hw1 : IntKind.i64.wrap (xk - xM) = xk - xM := IntWalk.i64_in _ (by omega)
    go_wp2_with fail
    go_quiet (fail)
    clear hw1
    go_wp2_with ((go_at_call 54; refine (l01Div_any _ _ _ (by omega) (by omega) (by omega) (by omega)).mono ?_; rintro e w' ⟨rfl, rfl⟩))
    go_ret
    exact ⟨ret_int (by unfold fallAt; rw [HV.out.1, HV.out.2.1, HV.out.2.2, HP.out]; first | (rw [if_pos (by rfl), Int.mul_comm]) | (rw [if_neg (by decide), Int.mul_comm, Int.mul_comm S])), below_drewN (Below.refl _ _) _⟩
  · have hpI : ((a : Int) % 2 == 1) = true := by simp; omega
    have HP := Lib.hid hpa
    clear hpa
    go_enter Try.func45, Try.ntmps45
    have hw1 : IntKind.i64.wrap (xk - xM) = xk - xM := IntWalk.i64_in _ (by omega)
    go_wp2_with fail
    go_quiet (fail)
    clear hw1
    go_wp2_with ((go_at_call 54; refine (l01Div_any _ _ _ (by omega) (by omega) (by omega) (by omega)).mono ?_; rintro e w' ⟨rfl, rfl⟩))
    go_ret
    exact ⟨ret_int (by unfold fallAt; rw [HV.out.1, HV.out.2.1, HV.out.2.2, HP.out]; first | (rw [if_pos (by rfl), Int.mul_comm]) | (rw [if_neg (by decide), Int.mul_comm, Int.mul_comm S])), below_drewN (Below.refl _ _) _⟩
end Go.Proofs.Ytknppcgoooaaaaa
