/-
  The contracts of the search for the least number with a property; the point where a path becomes flat; the tangent of a runout.
-/
import Derived.Test.YtehfpnammmgeaaaPathG
namespace Go.Proofs.Ytehfpnammmgeaaa
open Go.ChangeShapes Go.WideShapes Go.ChangeAt Go.RowKit Go.Deep
set_option linter.unusedVariables false

/-- The least number of a range with a property, or -1. -/
def firstI (p : Int → Bool) (lo hi : Int) : Int := match (List.range (hi + 1 - lo).toNat).find? fun j : Nat => p (lo + (j : Int)) with
  | some j => lo + (j : Int)
  | none => -1
theorem firstI_eq {p : Int → Bool} {lo hi m : Int} (h1 : lo ≤ m) (h2 : m ≤ hi) (h3 : p m = true) (h4 : ∀ x, lo ≤ x → x < m → p x = false) : firstI p lo hi = m := by
  have e : (List.range (hi + 1 - lo).toNat).find? (fun j : Nat => p (lo + (j : Int))) = some (m - lo).toNat := by
    rw [List.find?_range_eq_some]
    have e1 : lo + (((m - lo).toNat : Nat) : Int) = m := by omega
    refine ⟨by rw [e1]; exact h3, by rw [List.mem_range]; omega, fun j hj => ?_⟩
    rw [h4 (lo + (j : Int)) (by omega) (by omega)]
    rfl
  unfold firstI
  rw [e]
  show lo + (((m - lo).toNat : Nat) : Int) = m
  omega
theorem firstI_no {p : Int → Bool} {lo hi : Int} (h : ∀ x, lo ≤ x → x ≤ hi → p x = false) : firstI p lo hi = -1 := by
  have e : (List.range (hi + 1 - lo).toNat).find? (fun j : Nat => p (lo + (j : Int))) = none := by
    rw [List.find?_eq_none]
    intro j hj
    rw [List.mem_range] at hj
    rw [h (lo + (j : Int)) (by omega) (by omega)]
    simp
  unfold firstI
  rw [e]
def LeastPost (p : Int → Bool) (lo hi : Int) (e : Ending) : Prop :=
  (∃ m, lo ≤ m ∧ m ≤ hi ∧ p m = true ∧ (∀ x, lo ≤ x → x < m → p x = false) ∧ e = .returned (.tuple #[.int .i64 m, .bool true])) ∨
  ((∀ x, lo ≤ x → x ≤ hi → p x = false) ∧ e = .returned (.tuple #[.int .i64 0, .bool false]))

def betaP (ps : Pth) (k : Int) : Bool := decide (1000 * (hAt ps k.toNat - hAt ps (k.toNat + 1)) < 176 * (dAt ps (k.toNat + 1) - dAt ps k.toNat))
def betaI (ps : Pth) : Int := firstI (betaP ps) 1 ((ps.length : Int) - 2)
set_option maxRecDepth 100000 in
set_option maxHeartbeats 1600000 in
theorem beta_c (A : Option Addr) (n c k p : Nat) (ps : Pth) (w : World) (h : Pts w A n ps) (hp : pathOk ps = true) (hcl : w.cell? ⟨p, 0, none⟩ = some (.slice A n c)) (hk : 1 ≤ k) (hkn : k + 1 < n) :
    Calls Try.prog 83 #[.int .i64 k, .pointer (some ⟨p, 0, none⟩)] w fun e w' => e = .returned (.bool (betaP ps k)) ∧ Below w.heap.size w w' := by
  have HL := Lib.hid h.1
  have hmx := h.2.1
  obtain ⟨b, off, x, y, rfl, HX, hc1, hc2, hx1, hx2, hx3, hx4⟩ := h.ok hp (show k < n by omega)
  obtain ⟨b', off', x0, y0, hAA, HX0, hd1, hd2, hy1, hy2, hy3, hy4⟩ := h.ok hp hkn
  obtain ⟨rfl, rfl⟩ : b = b' ∧ off = off' := by
    injection hAA with hAA
    injection hAA with e1 e2 _
    exact ⟨e1, e2⟩
  have HE := Lib.hid (show betaP ps (k : Int) = decide (1000 * (y - y0) < 176 * (x0 - x)) by simp only [betaP, Int.toNat_natCast, HX0.out.1, HX0.out.2, HX.out.1, HX.out.2])
  have hki : (k : Int) < (n : Int) := by omega
  have hj1 : ((k : Int) + 1).toNat = k + 1 := by omega
  have hj2 : (0 : Int) ≤ (k : Int) + 1 := by omega
  have hj3 : (k : Int) + 1 < (n : Int) := by omega
  have hj4 : IntKind.i64.wrap ((k : Int) + 1) = (k : Int) + 1 := IntWalk.i64_in _ (by omega)
  have hbw : b < w.heap.size := cell_lt hc1
  have hpw : p < w.heap.size := cell_lt hcl
  clear h hp hAA
  go_enter Try.func83, Try.ntmps83
  go_wp2_with fail
  go_region_held3 (fun w' => w'.cell? ⟨p, 0, none⟩ = some (.slice (some ⟨b, off, none⟩) n c) ∧ w'.cell? ⟨b, off + k * 2, none⟩ = some (.int .i64 x) ∧ w'.cell? ⟨b, off + k * 2 + 1, none⟩ = some (.int .i64 y) ∧ w'.cell? ⟨b, off + (k + 1) * 2, none⟩ = some (.int .i64 x0) ∧ w'.cell? ⟨b, off + (k + 1) * 2 + 1, none⟩ = some (.int .i64 y0))
    (go_keep) (fail)
  all_goals
    go_wp2_with fail
    go_ret
    refine ⟨ret_bool (by rw [HE.out]), ?_⟩
    repeat (first | exact Below.refl _ _ | refine below_drewN ?_ _ | refine Below.drew ?_ | refine Below.alloc ?_ (by first | omega | (simp; omega) | simp) _)

set_option maxRecDepth 100000 in
set_option maxHeartbeats 1600000 in
theorem least_beta (lo hi : Int) (A : Option Addr) (n c p : Nat) (ps : Pth) (w : World) (h : Pts w A n ps) (hp : pathOk ps = true) (hcl : w.cell? ⟨p, 0, none⟩ = some (.slice A n c)) (hr : 1 ≤ lo ∧ hi + 1 < n) (h1 : 0 ≤ lo) (h2 : hi ≤ 1000000) (h3 : -1000000 ≤ hi) :
    Calls Try.prog 81 #[.int .i64 lo, .int .i64 hi, .func (.func 83) #[] #[.pointer (some ⟨p, 0, none⟩)]] w fun e w' => LeastPost (betaP ps) lo hi e ∧ Below w.heap.size w w' := by
  go_enter Try.func81, Try.ntmps81
  go_wp2_with fail
  go_loopw [8] (fun i wr => ∃ m : Int, lo ≤ m ∧ (m ≤ hi + 1 ∨ m = lo) ∧ i = .int .i64 m ∧ Hid (∀ x, lo ≤ x → x < m → (betaP ps) x = false) ∧ Below w.heap.size w wr) (fun i _ => (hi + 1 - intOf i).toNat)
  case atStart => exact ⟨lo, Int.le_refl _, .inr rfl, rfl, fun x hx1 hx2 => by omega, Below.refl _ _⟩
  case round =>
    obtain ⟨m, hm1, hm2, rfl, HM, hbl⟩ := hrel
    have HB := Lib.hid hbl
    by_cases hlt : m ≤ hi
    · have HC := Lib.hid (show Calls Try.prog 83 #[.int .i64 m, .pointer (some ⟨p, 0, none⟩)] wr fun e w' => e = .returned (.bool (betaP ps m)) ∧ Below wr.heap.size wr w' from by
        obtain ⟨j, hj⟩ : ∃ j : Nat, m = j := ⟨m.toNat, by omega⟩
        rw [hj]
        exact beta_c A n c j p ps wr (h.below hbl) hp (cell_kept hbl hcl) (by omega) (by omega))
      clear hbl
      cases hpm : (betaP ps) m
      · have HP := Lib.hid hpm
        go_wp2_with fail
        refine (HC.out).mono ?_
        rintro e w2 ⟨rfl, hb2⟩
        have HB2 := Lib.hid (HB.out.trans (hb2.mono HB.out.size))
        clear hb2
        go_wp2_with fail
        go_roundw
        case rel => exact ⟨m + 1, by omega, .inl (by omega), by go_num, fun x hx1 hx2 => by
          by_cases e : x = m
          · rw [e]; exact HP.out
          · exact HM.out x hx1 (by omega), HB2.out⟩
        case measure => simp [intOf]; omega
      · have HP := Lib.hid hpm
        go_wp2_with fail
        refine (HC.out).mono ?_
        rintro e w2 ⟨rfl, hb2⟩
        have HB2 := Lib.hid (HB.out.trans (hb2.mono HB.out.size))
        clear hb2
        go_wp2_with fail
        go_ret2
        exact ⟨.inl ⟨m, hm1, hlt, HP.out, HM.out, rfl⟩, HB2.out⟩
    · clear hbl
      go_wp2_with fail
      go_ret2
      exact ⟨.inr ⟨fun x hx1 hx2 => HM.out x hx1 (by omega), rfl⟩, HB.out⟩

theorem betaPoint_any (A : Option Addr) (n c : Nat) (ps : Pth) (w : World) (h : Pts w A n ps) (hp : pathOk ps = true) :
    Calls Try.prog 59 #[.slice A n c] w fun e w' => LeastPost (betaP ps) 1 ((n : Int) - 2) e ∧ Below w.heap.size w w' := by
  have hl := pathOk_len hp
  rw [h.1] at hl
  have HP := Lib.hid hp
  have hb0 := (Below.refl w.heap.size w).alloc (Nat.le_refl _) (.cells #[.slice A n c] 26)
  have HH := Lib.hid (And.intro (h.below hb0) hb0)
  clear h hp hb0
  go_enter Try.func59, Try.ntmps59
  go_wp2_with fail
  refine (least_beta _ _ A n c w.heap.size ps _ HH.out.1 HP.out (by go_simp) (by omega) (by omega) (by omega) (by omega)).mono ?_
  rintro e w' ⟨hpost, hb⟩
  have HB := Lib.hid (HH.out.2.trans (hb.mono HH.out.2.size))
  clear hb
  rcases hpost with ⟨m, h1, h2, h3, h4, rfl⟩ | ⟨h1, rfl⟩
  · have HL := hid_and h3 h4
    clear h3 h4
    go_wp2_with fail
    go_ret2
    exact ⟨.inl ⟨m, h1, h2, HL.out.1, HL.out.2, rfl⟩, HB.out⟩
  · have HL := Lib.hid h1
    clear h1
    go_wp2_with fail
    go_ret2
    exact ⟨.inr ⟨HL.out, rfl⟩, HB.out⟩
def betaA (ps : Pth) : Int := if pathOk ps = true then (if betaI ps < 0 then 0 else betaI ps) else 0
def betaC (ps : Pth) : Int := if pathOk ps = true then (if betaI ps < 0 then 3 else 0) else 1
theorem orNotFound_yes (n : Int) (w : World) : Calls Try.prog 51 #[.int .i64 n, .bool true] w fun e w' => e = .returned (.tuple #[.int .i64 n, .int .i64 0]) ∧ w = w' := by
  go_enter Try.func51, Try.ntmps51
  go_wp2
  go_ret2
  exact ⟨rfl, rfl⟩
theorem orNotFound_no (n : Int) (w : World) : Calls Try.prog 51 #[.int .i64 n, .bool false] w fun e w' => e = .returned (.tuple #[.int .i64 0, .int .i64 3]) ∧ w = w' := by
  go_enter Try.func51, Try.ntmps51
  go_wp2
  go_ret2
  exact ⟨rfl, rfl⟩
theorem BetaPoint_i (A : Option Addr) (n c : Nat) (ps : Pth) (w : World) (h : Pts w A n ps) :
    Calls Try.prog 26 #[.slice A n c] w fun e w' => e = .returned (.tuple #[.int .i64 (betaA ps), .int .i64 (betaC ps)]) ∧ Below w.heap.size w w' := by
  have HL := Lib.hid h.1
  cases hp : pathOk ps
  · have HA := hid_and (show betaA ps = 0 by simp [betaA, hp]) (show betaC ps = 1 by simp [betaC, hp])
    go_enter Try.func26, Try.ntmps26
    go_wp2_with fail
    refine (ValidPath_i _ _ _ ps _ h).mono ?_
    rintro e w1 ⟨rfl, hb⟩
    go_wp2_with fail
    go_ret2
    exact ⟨ret_int2 (by rw [HA.out.1]) (by rw [HA.out.2]), hb⟩
  · have HP := Lib.hid hp
    go_enter Try.func26, Try.ntmps26
    go_wp2_with fail
    refine (ValidPath_i _ _ _ ps _ h).mono ?_
    rintro e w1 ⟨rfl, hb⟩
    have hh := h.below hb
    go_wp2_with fail
    refine (betaPoint_any _ _ _ ps _ hh HP.out).mono ?_
    rintro e w2 ⟨hpost, hb2⟩
    have HB := Lib.hid (hb.trans (hb2.mono hb.size))
    clear hb hb2 hh h
    rcases hpost with ⟨m, h1, h2, h3, h4, rfl⟩ | ⟨h1, rfl⟩
    · have hI : betaI ps = m := by unfold betaI; rw [HL.out]; exact firstI_eq h1 h2 h3 h4
      have HA := hid_and (show betaA ps = m by simp only [betaA, HP.out, hI]; simp; omega) (show betaC ps = 0 by simp only [betaC, HP.out, hI]; simp; omega)
      clear h3 h4 hI
      go_wp2_with (go_at_call 51; refine (orNotFound_yes _ _).mono ?_; rintro e w' ⟨rfl, rfl⟩)
      go_ret2
      exact ⟨ret_int2 (by rw [HA.out.1]) (by rw [HA.out.2]), HB.out⟩
    · have hI : betaI ps = -1 := by unfold betaI; rw [HL.out]; exact firstI_no h1
      have HA := hid_and (show betaA ps = 0 by simp only [betaA, HP.out, hI]; simp) (show betaC ps = 3 by simp only [betaC, HP.out, hI]; simp)
      clear h1 hI
      go_wp2_with (go_at_call 51; refine (orNotFound_no _ _).mono ?_; rintro e w' ⟨rfl, rfl⟩)
      go_ret2
      exact ⟨ret_int2 (by rw [HA.out.1]) (by rw [HA.out.2]), HB.out⟩
set_option maxRecDepth 100000 in
set_option maxHeartbeats 1600000 in
theorem l14Beta_any (A : Option Addr) (n c : Nat) (ps : Pth) (w : World) (h : Pts w A n ps) (hp : pathOk ps = true) :
    Calls Try.prog 64 #[.slice A n c] w fun e w' => e = .returned (.int .i64 (betaI ps)) ∧ ∃ q, w' = w.drewN q := by
  have HL := Lib.hid h.1
  have hl := pathOk_len hp
  rw [HL.out] at hl
  have HP := hid_and hp h
  have hI : Hid (betaI ps = firstI (betaP ps) 1 ((n : Int) - 2)) := by unfold betaI; rw [HL.out]; exact rfl
  clear h hp
  go_enter Try.func64, Try.ntmps64
  go_wp2_with fail
  go_loopw [3] (fun i wr => ∃ k q : Nat, 1 ≤ k ∧ k + 1 ≤ n ∧ i = .int .i64 k ∧ wr = w.drewN q ∧ Hid (∀ x : Int, 1 ≤ x → x < k → betaP ps x = false)) (fun i _ => n - (intOf i).toNat)
  case atStart => exact ⟨1, 0, by omega, by omega, rfl, rfl, fun x h1 h2 => by omega⟩
  case round =>
    obtain ⟨k, q, hk1, hk2, rfl, rfl, HM⟩ := hrel
    by_cases hlt : k + 1 < n
    · obtain ⟨b, off, x, y, rfl, HX, hc1, hc2, hx1, hx2, hx3, hx4⟩ := HP.out.2.ok HP.out.1 (show k < n by omega)
      obtain ⟨b', off', x0, y0, hAA, HX0, hd1, hd2, hy1, hy2, hy3, hy4⟩ := HP.out.2.ok HP.out.1 hlt
      obtain ⟨rfl, rfl⟩ : b = b' ∧ off = off' := by
        injection hAA with hAA
        injection hAA with e1 e2 _
        exact ⟨e1, e2⟩
      have HE := Lib.hid (show betaP ps (k : Int) = decide (1000 * (y - y0) < 176 * (x0 - x)) by simp only [betaP, Int.toNat_natCast, HX0.out.1, HX0.out.2, HX.out.1, HX.out.2])
      have hki : (k : Int) < (n : Int) := by omega
      have hj1 : ((k : Int) + 1).toNat = k + 1 := by omega
      have hj2 : (0 : Int) ≤ (k : Int) + 1 := by omega
      have hj3 : (k : Int) + 1 < (n : Int) := by omega
      have hj4 : IntKind.i64.wrap ((k : Int) + 1) = (k : Int) + 1 := IntWalk.i64_in _ (by omega)
      have hw1 : IntKind.i64.wrap (y - y0) = y - y0 := IntWalk.i64_in _ (by omega)
      have hw2 : IntKind.i64.wrap (1000 * (y - y0)) = 1000 * (y - y0) := IntWalk.i64_in _ (by omega)
      have hw3 : IntKind.i64.wrap (x0 - x) = x0 - x := IntWalk.i64_in _ (by omega)
      have hw4 : IntKind.i64.wrap (176 * (x0 - x)) = 176 * (x0 - x) := IntWalk.i64_in _ (by omega)
      clear hAA
      by_cases hcmp : 1000 * (y - y0) < 176 * (x0 - x)
      · have HF := Lib.hid (show betaP ps (k : Int) = true by rw [HE.out]; simpa using hcmp)
        go_wp2_with fail
        go_quiet (fail)
        go_wp2_with fail
        go_ret
        exact ⟨ret_int (by rw [hI.out]; exact (firstI_eq (by omega) (by omega) HF.out HM.out).symm), _, World.drewN_drewN ..⟩
      · have HF := Lib.hid (show betaP ps (k : Int) = false by rw [HE.out]; simpa using hcmp)
        go_wp2_with fail
        go_quiet (fail)
        go_wp2_with fail
        go_roundw
        case rel => exact ⟨k + 1, _, by omega, by omega, by go_num, rfl, fun x h1 h2 => by
          by_cases e : x = k
          · rw [e]; exact HF.out
          · exact HM.out x h1 (by omega)⟩
        case measure => simp [intOf]; omega
    · go_wp2_with fail
      go_ret
      exact ⟨ret_int (by rw [hI.out]; exact (firstI_no (fun x h1 h2 => HM.out x h1 (by omega))).symm), _, rfl⟩
theorem BetaPoint_s (A : Option Addr) (n c : Nat) (ps : Pth) (w : World) (h : Pts w A n ps) :
    Calls Try.prog 29 #[.slice A n c] w fun e w' => e = .returned (.tuple #[.int .i64 (betaA ps), .int .i64 (betaC ps)]) ∧ Below w.heap.size w w' := by
  cases hp : pathOk ps
  · have HA := hid_and (show betaA ps = 0 by simp [betaA, hp]) (show betaC ps = 1 by simp [betaC, hp])
    go_enter Try.func29, Try.ntmps29
    go_wp2_with fail
    refine (l14Ok_any _ _ _ ps _ h).mono ?_
    rintro e w1 ⟨rfl, hb⟩
    go_wp2_with fail
    go_ret2
    exact ⟨ret_int2 (by rw [HA.out.1]) (by rw [HA.out.2]), hb⟩
  · have HP := Lib.hid hp
    by_cases hneg : betaI ps < 0
    · have HA := hid_and (show betaA ps = 0 by simp [betaA, hp, hneg]) (show betaC ps = 3 by simp [betaC, hp, hneg])
      go_enter Try.func29, Try.ntmps29
      go_wp2_with fail
      refine (l14Ok_any _ _ _ ps _ h).mono ?_
      rintro e w1 ⟨rfl, hb⟩
      have hh := h.below hb
      go_wp2_with fail
      refine (l14Beta_any _ _ _ ps _ hh HP.out).mono ?_
      rintro e w2 ⟨rfl, q, rfl⟩
      go_wp2_with fail
      go_ret2
      exact ⟨ret_int2 (by rw [HA.out.1]) (by rw [HA.out.2]), below_drewN hb _⟩
    · have HA := hid_and (show betaA ps = betaI ps by simp [betaA, hp, hneg]) (show betaC ps = 0 by simp [betaC, hp, hneg])
      go_enter Try.func29, Try.ntmps29
      go_wp2_with fail
      refine (l14Ok_any _ _ _ ps _ h).mono ?_
      rintro e w1 ⟨rfl, hb⟩
      have hh := h.below hb
      go_wp2_with fail
      refine (l14Beta_any _ _ _ ps _ hh HP.out).mono ?_
      rintro e w2 ⟨rfl, q, rfl⟩
      go_wp2_with fail
      go_ret2
      exact ⟨ret_int2 (by rw [HA.out.1]) (by rw [HA.out.2]), below_drewN hb _⟩

end Go.Proofs.Ytehfpnammmgeaaa
