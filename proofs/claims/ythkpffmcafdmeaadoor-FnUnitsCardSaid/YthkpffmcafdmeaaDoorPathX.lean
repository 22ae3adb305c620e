/-
  The contracts of the functions over a valid path: codes, lines, tangents, the ground.
-/
import Derived.Test.YthkpffmcafdmeaaDoorPathW
import Derived.Test.YthkpffmcafdmeaaDoorScal
namespace Go.Proofs.YthkpffmcafdmeaaDoor
open Go.ChangeShapes Go.WideShapes Go.ChangeAt Go.RowKit Go.Deep
set_option linter.unusedVariables false

/-! ### The plain side -/
theorem pathOk_pts {ps : Pth} (h : pathOk ps = true) {i : Nat} (hi : i < ps.length) :
    0 ≤ dAt ps i ∧ dAt ps i ≤ 20000 ∧ 0 ≤ hAt ps i ∧ hAt ps i ≤ 9000 ∧ hAt ps i ≤ hAt ps 0 ∧ (i = 0 ∨ dAt ps (i - 1) < dAt ps i) := ptOk_iff.1 ((pathOk_iff.1 h).2.2.2 i hi)
theorem pathOk_len {ps : Pth} (h : pathOk ps = true) : 2 ≤ ps.length ∧ ps.length ≤ 24 ∧ dAt ps 0 = 0 := ⟨(pathOk_iff.1 h).1, (pathOk_iff.1 h).2.1, (pathOk_iff.1 h).2.2.1⟩
theorem path_mono {ps : Pth} (h : pathOk ps = true) {i j : Nat} (hij : i < j) (hj : j < ps.length) : dAt ps i < dAt ps j := by
  induction j with
  | zero => omega
  | succ m ih =>
    have h1 := (pathOk_pts h hj).2.2.2.2.2
    rcases h1 with h1 | h1
    · omega
    · rw [Nat.add_sub_cancel] at h1
      rcases Nat.lt_or_ge i m with h2 | h2
      · have := ih h2 (by omega); omega
      · have : i = m := by omega
        rw [this]; exact h1
def lastD (ps : Pth) : Int := dAt ps (ps.length - 1)
theorem lastD_bd {ps : Pth} (h : pathOk ps = true) : 1 ≤ lastD ps ∧ lastD ps ≤ 20000 := by
  have hl := pathOk_len h
  have h1 := pathOk_pts h (i := ps.length - 1) (by omega)
  have h2 := path_mono h (i := 0) (j := ps.length - 1) (by omega) (by omega)
  rw [hl.2.2] at h2
  unfold lastD
  omega

def lineN (x0 y0 x1 y1 x : Int) : Int := if x ≤ x0 ∨ x1 ≤ x0 then y0 else if x1 ≤ x then y1 else y0 + divN ((y1 - y0) * (x - x0)) (x1 - x0)
theorem mul_abs {a b A B : Int} (ha1 : -A ≤ a) (ha2 : a ≤ A) (hb1 : 0 ≤ b) (hb2 : b ≤ B) (hA : 0 ≤ A) : -(A * B) ≤ a * b ∧ a * b ≤ A * B := by
  have h1 : a * b ≤ A * b := Int.mul_le_mul_of_nonneg_right ha2 hb1
  have h2 : -A * b ≤ a * b := Int.mul_le_mul_of_nonneg_right ha1 hb1
  have h3 : A * b ≤ A * B := Int.mul_le_mul_of_nonneg_left hb2 hA
  rw [Int.neg_mul] at h2
  omega

set_option maxHeartbeats 800000 in
theorem blend_any (x0 y0 x1 y1 x : Int) (w : World) (h1 : -10000000000 ≤ y0 ∧ y0 ≤ 10000000000) (h2 : -10000000000 ≤ y1 ∧ y1 ≤ 10000000000) (h3 : -1000000 ≤ x0 ∧ x0 ≤ 1000000) (h4 : -1000000 ≤ x1 ∧ x1 ≤ 1000000) :
    Calls Tryd.prog 88 #[.int .i64 x0, .int .i64 y0, .int .i64 x1, .int .i64 y1, .int .i64 x] w fun e w' => e = .returned (.int .i64 (lineN x0 y0 x1 y1 x)) ∧ ∃ n, w' = w.drewN n := by
  by_cases a : x ≤ x0
  · go_enter Tryd.func88, Tryd.ntmps88
    go_wp2_with fail
    go_ret
    exact ⟨ret_int (by unfold lineN; rw [if_pos (.inl a)]), 0, rfl⟩
  · by_cases b : x1 ≤ x0
    · go_enter Tryd.func88, Tryd.ntmps88
      go_wp2_with fail
      go_ret
      exact ⟨ret_int (by unfold lineN; rw [if_pos (.inr b)]), 0, rfl⟩
    · by_cases c : x1 ≤ x
      · go_enter Tryd.func88, Tryd.ntmps88
        go_wp2_with fail
        go_ret
        exact ⟨ret_int (by unfold lineN; rw [if_neg (by omega), if_pos c]), 0, rfl⟩
      · have hm := mul_abs (a := y1 - y0) (b := x - x0) (A := 20000000000) (B := 2000000) (by omega) (by omega) (by omega) (by omega) (by omega)
        have hd := divN_bd ((y1 - y0) * (x - x0)) (x1 - x0) (by omega)
        unfold absI at hd
        have hd2 : -40000000000000001 ≤ divN ((y1 - y0) * (x - x0)) (x1 - x0) ∧ divN ((y1 - y0) * (x - x0)) (x1 - x0) ≤ 40000000000000001 := by split at hd <;> omega
        clear hd
        go_enter Tryd.func88, Tryd.ntmps88
        go_wp2_with ((go_at_call 86; refine (divRound_any _ _ _ (by omega) (by omega) (by omega) (by omega)).mono ?_; rintro e w' ⟨rfl, nd, rfl⟩))
        go_ret
        exact ⟨ret_int (by unfold lineN; rw [if_neg (by omega), if_neg (by omega)]), _, rfl⟩

/-- What a walk over a valid path wants of its point i. -/
theorem Pts.ok {w : World} {A : Option Addr} {n : Nat} {ps : Pth} (h : Pts w A n ps) (hp : pathOk ps = true) {k : Nat} (hk : k < n) :
    ∃ b off x y, A = some ⟨b, off, none⟩ ∧ Hid (dAt ps k = x ∧ hAt ps k = y) ∧ w.cell? ⟨b, off + k * 2, none⟩ = some (.int .i64 x) ∧ w.cell? ⟨b, off + k * 2 + 1, none⟩ = some (.int .i64 y) ∧
      0 ≤ x ∧ x ≤ 20000 ∧ 0 ≤ y ∧ y ≤ 9000 := by
  obtain ⟨b, off, x, y, hA, HX, hc, hd, _⟩ := h.at_ hk
  have e1 := dAt_eq HX.out
  have e2 := hAt_eq HX.out
  have := pathOk_pts hp (i := k) (by rw [h.1]; exact hk)
  rw [e1, e2] at this
  exact ⟨b, off, x, y, hA, ⟨e1, e2⟩, hc, hd, this.1, this.2.1, this.2.2.1, this.2.2.2.1⟩

def codeP (ps : Pth) (t d : Int) : Int := if pathOk ps = true then (if (inB t 1 3000 && inB d 0 (lastD ps)) = true then 0 else 2) else 1

theorem codeP_ok {ps : Pth} {t d : Int} (h : codeP ps t d = 0) : pathOk ps = true ∧ inB t 1 3000 = true ∧ inB d 0 (lastD ps) = true := by
  unfold codeP at h
  cases hp : pathOk ps
  · rw [hp] at h; simp at h
  · cases h1 : inB t 1 3000 <;> cases h2 : inB d 0 (lastD ps) <;> simp_all
theorem codeP_of {ps : Pth} {t d : Int} (h : pathOk ps = true) (h1 : inB t 1 3000 = true) (h2 : inB d 0 (lastD ps) = true) : codeP ps t d = 0 := by simp [codeP, h, h1, h2]
theorem codeP_bd (ps : Pth) (t d : Int) : 0 ≤ codeP ps t d ∧ codeP ps t d ≤ 2 := by
  unfold codeP
  split
  · split <;> omega
  · omega
def lineV (ps : Pth) (t d : Int) : Int := 1000 * hAt ps 0 - t * d
def lineA (ps : Pth) (t d : Int) : Int := if codeP ps t d = 0 then lineV ps t d else 0
theorem hid_and {p q : Prop} (h : p) (h' : q) : Hid (p ∧ q) := ⟨h, h'⟩

/-! ### Tangents -/
def tanV (ps : Pth) (k : Nat) : Int := divN (1000 * (hAt ps 0 - hAt ps k)) (dAt ps k)
def tanA (ps : Pth) (k : Int) : Int := if (pathOk ps && inB k 1 ((ps.length : Int) - 1)) = true then tanV ps k.toNat else 0
def tanC (ps : Pth) (k : Int) : Int := if pathOk ps = true then (if inB k 1 ((ps.length : Int) - 1) = true then 0 else 2) else 1
end Go.Proofs.YthkpffmcafdmeaaDoor
