/-
  The least tangent whose stop lies within a distance.
-/
import Derived.Test.YtknppcgoooaaaaaGreatDoorPathF
namespace Go.Proofs.YtknppcgoooaaaaaGreatDoor
open Go.ChangeShapes Go.WideShapes Go.ChangeAt Go.RowKit Go.Deep
set_option linter.unusedVariables false

theorem firstI_cases (p : Int → Bool) (lo hi : Int) : (∃ m, lo ≤ m ∧ m ≤ hi ∧ p m = true ∧ (∀ x, lo ≤ x → x < m → p x = false) ∧ firstI p lo hi = m) ∨ (firstI p lo hi = -1 ∧ ∀ x, lo ≤ x → x ≤ hi → p x = false) := by
  cases e : (List.range (hi + 1 - lo).toNat).find? (fun j : Nat => p (lo + (j : Int))) with
  | none =>
    refine .inr ⟨by unfold firstI; rw [e], fun x h1 h2 => ?_⟩
    rw [List.find?_eq_none] at e
    have := e (x - lo).toNat (by rw [List.mem_range]; omega)
    rw [show lo + (((x - lo).toNat : Nat) : Int) = x by omega] at this
    simpa using this
  | some j =>
    have e0 := e
    rw [List.find?_range_eq_some] at e
    obtain ⟨e1, e2, e3⟩ := e
    rw [List.mem_range] at e2
    refine .inl ⟨lo + (j : Int), by omega, by omega, e1, fun x h1 h2 => ?_, by unfold firstI; rw [e0]⟩
    have := e3 (x - lo).toNat (by omega)
    rw [show lo + (((x - lo).toNat : Nat) : Int) = x by omega] at this
    simpa using this
def tanP (ps : Pth) (d t : Int) : Bool := decide (0 ≤ stopV ps t ∧ stopV ps t ≤ d)
theorem tanP_iff {ps : Pth} {d t : Int} (hd : d ≤ lastD ps) : tanP ps d t = true ↔ ∃ x, 1 ≤ x ∧ x ≤ d ∧ stopP ps t x = true := by
  unfold tanP stopV
  rcases firstI_cases (stopP ps t) 1 (lastD ps) with ⟨m, h1, h2, h3, h4, h5⟩ | ⟨h1, h2⟩
  · rw [h5, decide_eq_true_iff]
    constructor
    · rintro ⟨a, b⟩
      exact ⟨m, h1, b, h3⟩
    · rintro ⟨x, a, b, c⟩
      refine ⟨by omega, ?_⟩
      rcases Int.lt_or_le x m with h | h
      · rw [h4 x a h] at c; cases c
      · omega
  · rw [h1, decide_eq_true_iff]
    constructor
    · rintro ⟨a, b⟩; omega
    · rintro ⟨x, a, b, c⟩
      rw [h2 x a (by omega)] at c; cases c
theorem stopP_mono {ps : Pth} {t s x : Int} (hx : 1 ≤ x) (h : t ≤ s) (hp : stopP ps t x = true) : stopP ps s x = true := by
  unfold stopP aboveV lineV at *
  rw [decide_eq_true_iff] at *
  have : t * x ≤ s * x := Int.mul_le_mul_of_nonneg_right h (by omega)
  omega
theorem tanP_mono {ps : Pth} {d t s : Int} (hd : d ≤ lastD ps) (h : t ≤ s) (hp : tanP ps d s = false) : tanP ps d t = false := by
  cases e : tanP ps d t
  · rfl
  · obtain ⟨x, h1, h2, h3⟩ := (tanP_iff hd).1 e
    have := (tanP_iff hd).2 ⟨x, h1, h2, stopP_mono h1 h h3⟩
    rw [this] at hp; cases hp
def tfV (ps : Pth) (d : Int) : Int := firstI (tanP ps d) 1 3000
def tfA (ps : Pth) (d : Int) : Int := if codeP ps 1 d = 0 then (if tfV ps d < 0 then 0 else tfV ps d) else 0
def tfC (ps : Pth) (d : Int) : Int := if codeP ps 1 d = 0 then (if tfV ps d < 0 then 3 else 0) else codeP ps 1 d
theorem in1 : inB 1 1 3000 = true := inB_iff.2 ⟨by omega, by omega⟩
end Go.Proofs.YtknppcgoooaaaaaGreatDoor
