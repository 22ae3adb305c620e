/-
  The cells from which nothing leads down, the reference's.
-/
import Derived.Test.YtknppcgoooaaaaaGridQ
import Derived.Test.YtknppcgoooaaaaaGridX
namespace Go.Proofs.Ytknppcgoooaaaaa
open Go.ChangeShapes Go.WideShapes Go.ChangeAt Go.RowKit Go.Deep
set_option linter.unusedVariables false

theorem fold_low {C S k : Int} {hs : List Int} (l : List Nat) (p : Int × Int) : (l.foldl (better C S hs k) p).1 < 0 ↔ p.1 < 0 ∧ ∀ a ∈ l, ¬ hg hs (nbAt C k a) < hg hs k := by
  induction l generalizing p with
  | nil => simp
  | cons a t ih =>
    rw [List.foldl_cons, ih]
    unfold better
    constructor
    · rintro ⟨h1, h2⟩
      by_cases hl : hg hs (nbAt C k a) < hg hs k
      · by_cases hp : p.1 < 0
        · rw [if_pos ⟨hl, .inl hp⟩] at h1
          exact absurd h1 (by show ¬ (a : Int) < 0; omega)
        · split at h1
          · exact absurd h1 (by show ¬ (a : Int) < 0; omega)
          · exact absurd h1 hp
      · rw [if_neg (fun h => hl h.1)] at h1
        exact ⟨h1, fun b hb => by
          rcases List.mem_cons.1 hb with rfl | hb
          · exact hl
          · exact h2 b hb⟩
    · rintro ⟨h1, h2⟩
      rw [if_neg (fun h => h2 a (by simp) h.1)]
      exact ⟨h1, fun b hb => h2 b (by simp [hb])⟩
theorem pit_link {R C S : Int} {hs : List Int} (k : Nat) : pitP R C hs k = decide ((steep R C S hs (k : Int)).1 < 0) := by
  have h := fold_low (C := C) (S := S) (k := k) (hs := hs) (dirs R C k) (-1, 0)
  have e : steep R C S hs (k : Int) = (dirs R C k).foldl (better C S hs k) (-1, 0) := rfl
  rw [e]
  unfold pitP
  rw [Bool.eq_iff_iff, decide_eq_true_eq, h, Bool.not_eq_true', List.any_eq_false]
  constructor
  · intro hh
    exact ⟨by omega, fun a ha hc => hh a ha (by unfold lowQ; simpa using hc)⟩
  · rintro ⟨_, hh⟩ a ha hc
    unfold lowQ at hc
    exact hh a ha (by simpa using hc)
end Go.Proofs.Ytknppcgoooaaaaa
