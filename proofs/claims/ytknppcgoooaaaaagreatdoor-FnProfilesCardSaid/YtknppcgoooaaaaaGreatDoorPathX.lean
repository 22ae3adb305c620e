/-
  The contracts of the functions over a valid path: codes, lines, tangents, the ground.
-/
import Derived.Test.YtknppcgoooaaaaaGreatDoorPathW
import Derived.Test.YtknppcgoooaaaaaGreatDoorScal
namespace Go.Proofs.YtknppcgoooaaaaaGreatDoor
open Go.ChangeShapes Go.WideShapes Go.ChangeAt Go.RowKit Go.Deep
set_option linter.unusedVariables false

/-! ### The plain side -/
theorem pathOk_pts {ps : Pth} (h : pathOk ps = true) {i : Nat} (hi : i < ps.length) :
    0 ≤ dAt ps i ∧ dAt ps i ≤ 20000 ∧ 0 ≤ hAt ps i ∧ hAt ps i ≤ 9000 ∧ hAt ps i ≤ hAt ps 0 ∧ (i = 0 ∨ dAt ps (i - 1) < dAt ps i) := ptOk_iff.1 ((pathOk_iff.1 h).2.2.2 i hi)
theorem pathOk_len {ps : Pth} (h : pathOk ps = true) : 2 ≤ ps.length ∧ ps.length ≤ 24 ∧ dAt ps 0 = 0 := ⟨(pathOk_iff.1 h).1, (pathOk_iff.1 h).2.1, (pathOk_iff.1 h).2.2.1⟩
theorem path_mono {ps : Pth} (h : pathOk ps = true) {i j : Nat} (hij : i < j) (hj : j < ps.length) : dAt ps i < dAt ps j := by
  induction j with
  | zero => omega
  | succ m ih =>
    have h1 := (pathOk_pts h hj).2.2.2.2.2
    rcases h1 with h1 | h1
    · omega
    · rw [Nat.add_sub_cancel] at h1
      rcases Nat.lt_or_ge i m with h2 | h2
      · have := ih h2 (by omega); omega
      · have : i = m := by omega
        rw [this]; exact h1
def lastD (ps : Pth) : Int := dAt ps (ps.length - 1)
theorem lastD_bd {ps : Pth} (h : pathOk ps = true) : 1 ≤ lastD ps ∧ lastD ps ≤ 20000 := by
  have hl := pathOk_len h
  have h1 := pathOk_pts h (i := ps.length - 1) (by omega)
  have h2 := path_mono h (i := 0) (j := ps.length - 1) (by omega) (by omega)
  rw [hl.2.2] at h2
  unfold lastD
  omega

def lineN (x0 y0 x1 y1 x : Int) : Int := if x ≤ x0 ∨ x1 ≤ x0 then y0 else if x1 ≤ x then y1 else y0 + divN ((y1 - y0) * (x - x0)) (x1 - x0)
theorem mul_abs {a b A B : Int} (ha1 : -A ≤ a) (ha2 : a ≤ A) (hb1 : 0 ≤ b) (hb2 : b ≤ B) (hA : 0 ≤ A) : -(A * B) ≤ a * b ∧ a * b ≤ A * B := by
  have h1 : a * b ≤ A * b := Int.mul_le_mul_of_nonneg_right ha2 hb1
  have h2 : -A * b ≤ a * b := Int.mul_le_mul_of_nonneg_right ha1 hb1
  have h3 : A * b ≤ A * B := Int.mul_le_mul_of_nonneg_left hb2 hA
  rw [Int.neg_mul] at h2
  omega

set_option maxHeartbeats 800000 in
theorem blend_any (x0 y0 x1 y1 x : Int) (w : World) (h1 : -10000000000 ≤ y0 ∧ y0 ≤ 10000000000) (h2 : -10000000000 ≤ y1 ∧ y1 ≤ 10000000000) (h3 : -1000000 ≤ x0 ∧ x0 ≤ 1000000) (h4 : -1000000 ≤ x1 ∧ x1 ≤ 1000000) :
    Calls Tryz.prog 77 #[.int .i64 x0, .int .i64 y0, .int .i64 x1, .int .i64 y1, .int .i64 x] w fun e w' => e = .returned (.int .i64 (lineN x0 y0 x1 y1 x)) ∧ ∃ n, w' = w.drewN n := by
  by_cases a : x ≤ x0
  · go_enter Tryz.func77, Tryz.ntmps77
    go_wp2_with fail
    go_ret
    exact ⟨ret_int (by unfold lineN; rw [if_pos (.inl a)]), 0, rfl⟩
  · by_cases b : x1 ≤ x0
    · go_enter Tryz.func77, Tryz.ntmps77
      go_wp2_with fail
      go_ret
      exact ⟨ret_int (by unfold lineN; rw [if_pos (.inr b)]), 0, rfl⟩
    · by_cases c : x1 ≤ x
      · go_enter Tryz.func77, Tryz.ntmps77
        go_wp2_with fail
        go_ret
        exact ⟨ret_int (by unfold lineN; rw [if_neg (by omega), if_pos c]), 0, rfl⟩
      · have hm := mul_abs (a := y1 - y0) (b := x - x0) (A := 20000000000) (B := 2000000) (by omega) (by omega) (by omega) (by omega) (by omega)
        have hd := divN_bd ((y1 - y0) * (x - x0)) (x1 - x0) (by omega)
        unfold absI at hd
        have hd2 : -40000000000000001 ≤ divN ((y1 - y0) * (x - x0)) (x1 - x0) ∧ divN ((y1 - y0) * (x - x0)) (x1 - x0) ≤ 40000000000000001 := by split at hd <;> omega
        clear hd
        go_enter Tryz.func77, Tryz.ntmps77
        go_wp2_with ((go_at_call 65; refine (divRound_any _ _ _ (by omega) (by omega) (by omega) (by omega)).mono ?_; rintro e w' ⟨rfl, nd, rfl⟩))
        go_ret
        exact ⟨ret_int (by unfold lineN; rw [if_neg (by omega), if_neg (by omega)]), _, rfl⟩

/-- What a walk over a valid path wants of its point i. -/
theorem Pts.ok {w : World} {A : Option Addr} {n : Nat} {ps : Pth} (h : Pts w A n ps) (hp : pathOk ps = true) {k : Nat} (hk : k < n) :
    ∃ b off x y, A = some ⟨b, off, none⟩ ∧ Hid (dAt ps k = x ∧ hAt ps k = y) ∧ w.cell? ⟨b, off + k * 2, none⟩ = some (.int .i64 x) ∧ w.cell? ⟨b, off + k * 2 + 1, none⟩ = some (.int .i64 y) ∧
      0 ≤ x ∧ x ≤ 20000 ∧ 0 ≤ y ∧ y ≤ 9000 := by
  obtain ⟨b, off, x, y, hA, HX, hc, hd, _⟩ := h.at_ hk
  have e1 := dAt_eq HX.out
  have e2 := hAt_eq HX.out
  have := pathOk_pts hp (i := k) (by rw [h.1]; exact hk)
  rw [e1, e2] at this
  exact ⟨b, off, x, y, hA, ⟨e1, e2⟩, hc, hd, this.1, this.2.1, this.2.2.1, this.2.2.2.1⟩

def codeP (ps : Pth) (t d : Int) : Int := if pathOk ps = true then (if (inB t 1 3000 && inB d 0 (lastD ps)) = true then 0 else 2) else 1
set_option maxRecDepth 100000 in
set_option maxHeartbeats 800000 in
theorem pathCode_any (A : Option Addr) (n c : Nat) (t d : Int) (ps : Pth) (w : World) (h : Pts w A n ps) :
    Calls Tryz.prog 37 #[.slice A n c, .int .i64 t, .int .i64 d] w fun e w' => e = .returned (.int .i64 (codeP ps t d)) ∧ Below w.heap.size w w' := by
  have HL := Lib.hid h.1
  cases hp : pathOk ps
  · have HC := Lib.hid (show codeP ps t d = 1 by simp [codeP, hp])
    go_enter Tryz.func37, Tryz.ntmps37
    go_wp2_with fail
    refine (ValidPath_i _ _ _ ps _ h).mono ?_
    rintro e w1 ⟨rfl, hb⟩
    go_wp2_with fail
    go_ret
    exact ⟨ret_int (by rw [HC.out]), hb⟩
  · have hl := pathOk_len hp
    rw [HL.out] at hl
    have HP := Lib.hid hp
    obtain ⟨b, off, x, y, rfl, HX, hc1, hc2, hx⟩ := h.ok hp (show n - 1 < n by omega)
    have HLD := Lib.hid (show lastD ps = x by unfold lastD; rw [HL.out]; exact HX.out.1)
    have hk1 : ((n : Int) - 1).toNat = n - 1 := by omega
    have hk2 : (0 : Int) ≤ (n : Int) - 1 := by omega
    have hk3 : (n : Int) - 1 < (n : Int) := by omega
    have hk4 : IntKind.i64.wrap ((n : Int) - 1) = (n : Int) - 1 := IntWalk.i64_in _ (by omega)
    have H := Lib.hid h
    have HC := Lib.hid (And.intro hc1 hc2)
    cases h1 : inB t 1 3000
    · have HD := Lib.hid (show codeP ps t d = 2 by simp [codeP, hp, h1])
      clear h hc1 hc2
      go_enter Tryz.func37, Tryz.ntmps37
      go_wp2_with fail
      refine (ValidPath_i _ _ _ ps _ H.out).mono ?_
      rintro e w1 ⟨rfl, hb⟩
      have hc1 := cell_kept hb HC.out.1
      have HB := Lib.hid hb
      clear hb
      go_wp2_with ((go_at_call 49; refine (within_any _ _ _ _).mono ?_; rintro e w' ⟨rfl, rfl⟩))
      go_ret
      exact ⟨ret_int (by rw [HD.out]), HB.out⟩
    · cases h2 : inB d 0 x
      · have HD := Lib.hid (show codeP ps t d = 2 by simp [codeP, hp, HLD.out, h2])
        clear h hc1 hc2
        go_enter Tryz.func37, Tryz.ntmps37
        go_wp2_with fail
        refine (ValidPath_i _ _ _ ps _ H.out).mono ?_
        rintro e w1 ⟨rfl, hb⟩
        have hc1 := cell_kept hb HC.out.1
        have HB := Lib.hid hb
        clear hb
        go_wp2_with ((go_at_call 49; refine (within_any _ _ _ _).mono ?_; rintro e w' ⟨rfl, rfl⟩))
        go_ret
        exact ⟨ret_int (by rw [HD.out]), HB.out⟩
      · have HD := Lib.hid (show codeP ps t d = 0 by simp [codeP, hp, h1, HLD.out, h2])
        clear h hc1 hc2
        go_enter Tryz.func37, Tryz.ntmps37
        go_wp2_with fail
        refine (ValidPath_i _ _ _ ps _ H.out).mono ?_
        rintro e w1 ⟨rfl, hb⟩
        have hc1 := cell_kept hb HC.out.1
        have HB := Lib.hid hb
        clear hb
        go_wp2_with ((go_at_call 49; refine (within_any _ _ _ _).mono ?_; rintro e w' ⟨rfl, rfl⟩))
        go_ret
        exact ⟨ret_int (by rw [HD.out]), HB.out⟩

theorem codeP_ok {ps : Pth} {t d : Int} (h : codeP ps t d = 0) : pathOk ps = true ∧ inB t 1 3000 = true ∧ inB d 0 (lastD ps) = true := by
  unfold codeP at h
  cases hp : pathOk ps
  · rw [hp] at h; simp at h
  · cases h1 : inB t 1 3000 <;> cases h2 : inB d 0 (lastD ps) <;> simp_all
theorem codeP_of {ps : Pth} {t d : Int} (h : pathOk ps = true) (h1 : inB t 1 3000 = true) (h2 : inB d 0 (lastD ps) = true) : codeP ps t d = 0 := by simp [codeP, h, h1, h2]
theorem codeP_bd (ps : Pth) (t d : Int) : 0 ≤ codeP ps t d ∧ codeP ps t d ≤ 2 := by
  unfold codeP
  split
  · split <;> omega
  · omega
def lineV (ps : Pth) (t d : Int) : Int := 1000 * hAt ps 0 - t * d
def lineA (ps : Pth) (t d : Int) : Int := if codeP ps t d = 0 then lineV ps t d else 0
set_option maxRecDepth 100000 in
set_option maxHeartbeats 800000 in
theorem LineAt_i (A : Option Addr) (n c : Nat) (t d : Int) (ps : Pth) (w : World) (h : Pts w A n ps) :
    Calls Tryz.prog 10 #[.slice A n c, .int .i64 t, .int .i64 d] w fun e w' => e = .returned (.tuple #[.int .i64 (lineA ps t d), .int .i64 (codeP ps t d)]) ∧ Below w.heap.size w w' := by
  by_cases h0 : codeP ps t d = 0
  · obtain ⟨hp, ht, hd⟩ := codeP_ok h0
    have hl := pathOk_len hp
    have HA := Lib.hid (show lineA ps t d = lineV ps t d by simp [lineA, h0])
    obtain ⟨b, off, x, y, rfl, HX, hc1, hc2, hx1, hx2, hx3, hx4⟩ := h.ok hp (show 0 < n by rw [← h.1]; omega)
    simp only [Nat.zero_mul, Nat.add_zero] at hc1 hc2
    have hn0 : 0 < n := by rw [← h.1]; omega
    have ht' := inB_iff.1 ht
    have hd' := inB_iff.1 hd
    have hld := lastD_bd hp
    have hm := mul_bd (show 0 ≤ t by omega) ht'.2 hd'.1 (show d ≤ 20000 by omega)
    have H := Lib.hid (And.intro h (And.intro hc2 h0))
    clear h hc1 hc2 h0 hp hl ht hd
    go_enter Tryz.func10, Tryz.ntmps10
    go_wp2_with fail
    refine (pathCode_any _ _ _ _ _ ps _ H.out.1).mono ?_
    rintro e w1 ⟨rfl, hb⟩
    have hc2 := cell_kept hb H.out.2.1
    rw [H.out.2.2]
    have HB := Lib.hid hb
    clear hb
    go_wp2_with fail
    go_ret2
    exact ⟨ret_int2 (by rw [HA.out]; unfold lineV; rw [HX.out.2]) (by rw [H.out.2.2]), HB.out⟩
  · have hne : (codeP ps t d != 0) = true := by simpa using h0
    have HA := Lib.hid (show lineA ps t d = 0 by simp [lineA, h0])
    clear h0
    go_enter Tryz.func10, Tryz.ntmps10
    go_wp2_with fail
    refine (pathCode_any _ _ _ _ _ ps _ h).mono ?_
    rintro e w1 ⟨rfl, hb⟩
    go_wp2_with fail
    go_ret2
    exact ⟨ret_int2 (by rw [HA.out]) rfl, hb⟩
theorem hid_and {p q : Prop} (h : p) (h' : q) : Hid (p ∧ q) := ⟨h, h'⟩
set_option maxRecDepth 100000 in
set_option maxHeartbeats 800000 in
theorem tangentOf_any (A : Option Addr) (n c k : Nat) (ps : Pth) (w : World) (h : Pts w A n ps) (hp : pathOk ps = true) (hk : 1 ≤ k) (hkn : k < n) :
    Calls Tryz.prog 50 #[.slice A n c, .int .i64 k] w fun e w' => e = .returned (.int .i64 (divN (1000 * (hAt ps 0 - hAt ps k)) (dAt ps k))) ∧ ∃ q, w' = w.drewN q := by
  have HL := Lib.hid h.1
  have hmx := h.2.1
  have hl := pathOk_len hp
  have hmono := path_mono hp (i := 0) (j := k) (by omega) (by rw [HL.out]; exact hkn)
  rw [hl.2.2] at hmono
  have hpk := pathOk_pts hp (i := k) (by rw [HL.out]; exact hkn)
  obtain ⟨b, off, x0, y0, rfl, HX0, hc1, hc2, hx1, hx2, hx3, hx4⟩ := h.ok hp (show 0 < n by omega)
  obtain ⟨b', off', x, y, hAA, HX, hd1, hd2, hy1, hy2, hy3, hy4⟩ := h.ok hp hkn
  obtain ⟨rfl, rfl⟩ : b = b' ∧ off = off' := by
    injection hAA with hAA
    injection hAA with e1 e2 _
    exact ⟨e1, e2⟩
  simp only [Nat.zero_mul, Nat.add_zero] at hc1 hc2
  rw [HX.out.1] at hmono
  rw [HX.out.2, HX0.out.2] at hpk
  have hle : y ≤ y0 := hpk.2.2.2.2.1
  have HE := Lib.hid (show divN (1000 * (hAt ps 0 - hAt ps k)) (dAt ps k) = divN (1000 * (y0 - y)) x by rw [HX0.out.2, HX.out.1, HX.out.2])
  have hn0 : 0 < n := by omega
  have hki : (k : Int) < (n : Int) := by omega
  have hw1 : IntKind.i64.wrap (y0 - y) = y0 - y := IntWalk.i64_in _ (by omega)
  have hw2 : IntKind.i64.wrap (1000 * (y0 - y)) = 1000 * (y0 - y) := IntWalk.i64_in _ (by omega)
  have HC := fun W : World => Lib.hid (divRound_any (1000 * (y0 - y)) x W (by omega) (by omega) (by omega) (by omega))
  clear h hp hl hpk hAA
  go_enter Tryz.func50, Tryz.ntmps50
  go_wp2_with fail
  go_quiet ((go_at_call 65; exact Calls.quiet_of (HC _).out))
  go_wp2_with fail
  go_ret
  exact ⟨ret_int (by rw [HE.out]), _, rfl⟩

/-! ### Tangents -/
def tanV (ps : Pth) (k : Nat) : Int := divN (1000 * (hAt ps 0 - hAt ps k)) (dAt ps k)
def tanA (ps : Pth) (k : Int) : Int := if (pathOk ps && inB k 1 ((ps.length : Int) - 1)) = true then tanV ps k.toNat else 0
def tanC (ps : Pth) (k : Int) : Int := if pathOk ps = true then (if inB k 1 ((ps.length : Int) - 1) = true then 0 else 2) else 1
set_option maxRecDepth 100000 in
set_option maxHeartbeats 800000 in
theorem TangentOf_i (A : Option Addr) (n c : Nat) (k : Int) (ps : Pth) (w : World) (h : Pts w A n ps) :
    Calls Tryz.prog 14 #[.slice A n c, .int .i64 k] w fun e w' => e = .returned (.tuple #[.int .i64 (tanA ps k), .int .i64 (tanC ps k)]) ∧ Below w.heap.size w w' := by
  have HL := Lib.hid h.1
  have hmx := h.2.1
  cases hp : pathOk ps
  · have HA := hid_and (show tanA ps k = 0 by simp [tanA, hp]) (show tanC ps k = 1 by simp [tanC, hp])
    go_enter Tryz.func14, Tryz.ntmps14
    go_wp2_with fail
    refine (ValidPath_i _ _ _ ps _ h).mono ?_
    rintro e w1 ⟨rfl, hb⟩
    go_wp2_with fail
    go_ret2
    exact ⟨ret_int2 (by rw [HA.out.1]) (by rw [HA.out.2]), hb⟩
  · have HP := Lib.hid hp
    cases h1 : inB k 1 ((n : Int) - 1)
    · have HA := hid_and (show tanA ps k = 0 by simp [tanA, hp, HL.out, h1]) (show tanC ps k = 2 by simp [tanC, hp, HL.out, h1])
      go_enter Tryz.func14, Tryz.ntmps14
      go_wp2_with fail
      refine (ValidPath_i _ _ _ ps _ h).mono ?_
      rintro e w1 ⟨rfl, hb⟩
      go_wp2_with ((go_at_call 49; refine (within_any _ _ _ _).mono ?_; rintro e w' ⟨rfl, rfl⟩))
      go_ret2
      exact ⟨ret_int2 (by rw [HA.out.1]) (by rw [HA.out.2]), hb⟩
    · have hk := inB_iff.1 h1
      have HA := hid_and (show tanA ps k = tanV ps k.toNat by simp [tanA, hp, HL.out, h1]) (show tanC ps k = 0 by simp [tanC, hp, HL.out, h1])
      have hki : ((k.toNat : Nat) : Int) = k := by omega
      obtain ⟨j, hj⟩ : ∃ j : Nat, k = j := ⟨k.toNat, by omega⟩
      subst hj
      rw [Int.toNat_natCast] at HA
      have hj1 : 1 ≤ j := by omega
      have hj2 : j < n := by omega
      clear hki
      go_enter Tryz.func14, Tryz.ntmps14
      go_wp2_with fail
      refine (ValidPath_i _ _ _ ps _ h).mono ?_
      rintro e w1 ⟨rfl, hb⟩
      have hh := h.below hb
      go_wp2_with (first | ((go_at_call 49; refine (within_any _ _ _ _).mono ?_; rintro e w' ⟨rfl, rfl⟩)) | (go_at_call 50; refine (tangentOf_any _ _ _ j ps _ hh HP.out hj1 hj2).mono ?_; rintro e w' ⟨rfl, q, rfl⟩))
      go_ret2
      exact ⟨ret_int2 (by rw [HA.out.1]; rfl) (by rw [HA.out.2]), below_drewN hb _⟩
end Go.Proofs.YtknppcgoooaaaaaGreatDoor
