/-
  Grids as lists of heights: when one is valid, the cells around a cell, slopes, the steepest one. No program in sight.
-/
import Derived.Test.YtknppcgoooaaaaaAll
namespace Go.Proofs.Ytknppcgoooaaaaa
open Go.RowKit
set_option linter.unusedVariables false

def gridOk (R C S : Int) (hs : List Int) : Bool := inB R 1 8 && (inB C 1 8 && (inB S 1 100 && (decide ((hs.length : Int) = R * C) && allB hs 0 5000)))
theorem gridOk_iff {R C S : Int} {hs : List Int} : gridOk R C S hs = true ↔ (1 ≤ R ∧ R ≤ 8) ∧ (1 ≤ C ∧ C ≤ 8) ∧ (1 ≤ S ∧ S ≤ 100) ∧ (hs.length : Int) = R * C ∧ allB hs 0 5000 = true := by
  simp only [gridOk, Bool.and_eq_true, decide_eq_true_eq, inB_iff]
theorem mul64 {R C : Int} (h1 : 1 ≤ R) (h2 : R ≤ 8) (h3 : 1 ≤ C) (h4 : C ≤ 8) : 1 ≤ R * C ∧ R * C ≤ 64 := by
  have a := Int.mul_le_mul h1 h3 (by omega) (by omega)
  have b := Int.mul_le_mul h2 h4 (by omega) (by omega)
  omega
/-- The height of a cell. -/
def hg (hs : List Int) (k : Int) : Int := hs.getD k.toNat 0
theorem hg_eq {hs : List Int} {k : Nat} {x : Int} (h : hs[k]? = some x) : hg hs (k : Int) = x := by simp [hg, h]
theorem hg_bd {hs : List Int} (h : allB hs 0 5000 = true) (k : Int) : 0 ≤ hg hs k ∧ hg hs k ≤ 5000 := by
  unfold hg
  rw [List.getD_eq_getElem?_getD]
  cases hx : hs[k.toNat]? with
  | none => simp
  | some x => exact allB_iff.1 h _ _ hx

/-! ### The cells around a cell -/
def dirR (a : Nat) : Int := [-1, -1, 0, 1, 1, 1, 0, -1].getD a 0
def dirC (a : Nat) : Int := [0, 1, 1, 1, 0, -1, -1, -1].getD a 0
theorem lt8 {a : Nat} (h : a < 8) : a = 0 ∨ a = 1 ∨ a = 2 ∨ a = 3 ∨ a = 4 ∨ a = 5 ∨ a = 6 ∨ a = 7 := by omega
theorem dir_bd (a : Nat) : -1 ≤ dirR a ∧ dirR a ≤ 1 ∧ -1 ≤ dirC a ∧ dirC a ≤ 1 := by
  rcases Nat.lt_or_ge a 8 with h | h
  · rcases lt8 h with rfl | rfl | rfl | rfl | rfl | rfl | rfl | rfl <;> decide
  · simp [dirR, dirC, h]
def nbR (C k : Int) (a : Nat) : Int := k / C + dirR a
def nbC (C k : Int) (a : Nat) : Int := k % C + dirC a
def nbOk (R C k : Int) (a : Nat) : Bool := inB (nbR C k a) 0 (R - 1) && inB (nbC C k a) 0 (C - 1)
def nbAt (C k : Int) (a : Nat) : Int := nbR C k a * C + nbC C k a
theorem nb_rc {C k n : Int} {a : Nat} (hC1 : 1 ≤ C) (hk0 : 0 ≤ k) (hk : k < n) (hn : n ≤ 64) (hC8 : C ≤ 8) : -1 ≤ nbR C k a ∧ nbR C k a ≤ 64 ∧ -1 ≤ nbC C k a ∧ nbC C k a ≤ 8 := by
  have h1 := dir_bd a
  have h2 := Int.ediv_nonneg hk0 (show 0 ≤ C by omega)
  have h3 := Int.ediv_le_self C hk0
  have h4 := Int.emod_nonneg k (show C ≠ 0 by omega)
  have h5 := Int.emod_lt_of_pos k (show 0 < C by omega)
  unfold nbR nbC
  omega
theorem nb_bd {R C k : Int} {a : Nat} (h : nbOk R C k a = true) (hC : 1 ≤ C) : 0 ≤ nbAt C k a ∧ nbAt C k a < R * C := by
  unfold nbOk at h
  simp only [Bool.and_eq_true, inB_iff] at h
  obtain ⟨⟨r0, r1⟩, c0, c1⟩ := h
  unfold nbAt
  have h1 := Int.mul_nonneg r0 (show 0 ≤ C by omega)
  have h2 : nbR C k a * C ≤ (R - 1) * C := Int.mul_le_mul_of_nonneg_right r1 (by omega)
  rw [Int.sub_mul, Int.one_mul] at h2
  omega
/-- The directions that lead to cells. -/
def dirs (R C k : Int) : List Nat := (List.range 8).filter (nbOk R C k)
theorem mem_dirs {R C k : Int} {a : Nat} : a ∈ dirs R C k ↔ a < 8 ∧ nbOk R C k a = true := by simp [dirs]
theorem dirs_len (R C k : Int) : (dirs R C k).length ≤ 8 := by
  have := List.length_filter_le (nbOk R C k) (List.range 8)
  simpa [dirs] using this
/-- The first directions of those that lead to cells. -/
def dirsTo (R C k : Int) (m : Nat) : List Nat := (List.range m).filter (nbOk R C k)
theorem dirsTo_succ (R C k : Int) (m : Nat) : dirsTo R C k (m + 1) = dirsTo R C k m ++ (if nbOk R C k m = true then [m] else []) := by
  unfold dirsTo
  rw [List.range_succ, List.filter_append]
  by_cases h : nbOk R C k m = true <;> simp [h]
theorem dirsTo_yes {R C k : Int} {m : Nat} (h : nbOk R C k m = true) : dirsTo R C k (m + 1) = dirsTo R C k m ++ [m] := by rw [dirsTo_succ, if_pos h]
theorem dirsTo_no {R C k : Int} {m : Nat} (h : nbOk R C k m = false) : dirsTo R C k (m + 1) = dirsTo R C k m := by rw [dirsTo_succ, if_neg (by simp [h])]; simp

/-! ### Slopes -/
def fallAt (C S : Int) (hs : List Int) (k : Int) (a : Nat) : Int :=
  if a % 2 = 0 then divN (1000 * (hg hs k - hg hs (nbAt C k a))) S else divN (1000000 * (hg hs k - hg hs (nbAt C k a))) (1414 * S)
theorem fall_bd {C S k : Int} {hs : List Int} {a : Nat} (h : allB hs 0 5000 = true) (hS1 : 1 ≤ S) : -5000000001 ≤ fallAt C S hs k a ∧ fallAt C S hs k a ≤ 5000000001 := by
  have h1 := hg_bd h k
  have h2 := hg_bd h (nbAt C k a)
  unfold fallAt
  split
  · have := divN_bd (1000 * (hg hs k - hg hs (nbAt C k a))) S hS1
    unfold absI at this
    split at this <;> omega
  · have := divN_bd (1000000 * (hg hs k - hg hs (nbAt C k a))) (1414 * S) (by omega)
    unfold absI at this
    split at this <;> omega
/-- The better of what was found and a direction. -/
def better (C S : Int) (hs : List Int) (k : Int) (p : Int × Int) (a : Nat) : Int × Int :=
  if hg hs (nbAt C k a) < hg hs k ∧ (p.1 < 0 ∨ p.2 < fallAt C S hs k a) then ((a : Int), fallAt C S hs k a) else p
def steepTo (R C S : Int) (hs : List Int) (k : Int) (m : Nat) : Int × Int := (dirsTo R C k m).foldl (better C S hs k) (-1, 0)
/-- The direction of the steepest slope down, -1 if nothing leads down, and this slope. -/
def steep (R C S : Int) (hs : List Int) (k : Int) : Int × Int := steepTo R C S hs k 8
theorem steepTo_no {R C S k : Int} {hs : List Int} {m : Nat} (h : nbOk R C k m = false) : steepTo R C S hs k (m + 1) = steepTo R C S hs k m := by
  unfold steepTo
  rw [dirsTo_no h]
theorem steepTo_yes {R C S k : Int} {hs : List Int} {m : Nat} (h : nbOk R C k m = true) : steepTo R C S hs k (m + 1) = better C S hs k (steepTo R C S hs k m) m := by
  unfold steepTo
  rw [dirsTo_yes h, List.foldl_append]
  rfl
/-- What a fold over directions that lead to cells has found. -/
theorem fold_bd {C S k : Int} {hs : List Int} (h : allB hs 0 5000 = true) (hS1 : 1 ≤ S) (l : List Nat) (p : Int × Int) (hp : (p.1 = -1 ∧ p.2 = 0 ∨ ∃ a : Nat, a ∈ l ∧ p.1 = (a : Int) ∧ p.2 = fallAt C S hs k a ∧ hg hs (nbAt C k a) < hg hs k)) (l' : List Nat) (hl : ∀ a ∈ l', a ∈ l) :
    ((l'.foldl (better C S hs k) p).1 = -1 ∧ (l'.foldl (better C S hs k) p).2 = 0) ∨ ∃ a : Nat, a ∈ l ∧ (l'.foldl (better C S hs k) p).1 = (a : Int) ∧ (l'.foldl (better C S hs k) p).2 = fallAt C S hs k a ∧ hg hs (nbAt C k a) < hg hs k := by
  induction l' generalizing p with
  | nil => exact hp
  | cons a t ih =>
    rw [List.foldl_cons]
    refine ih _ ?_ (fun b hb => hl b (by simp [hb]))
    unfold better
    split
    · rename_i hc
      exact .inr ⟨a, hl a (by simp), rfl, rfl, hc.1⟩
    · exact hp
theorem steepL {R C S k : Int} {hs : List Int} (h : allB hs 0 5000 = true) (hS1 : 1 ≤ S) (l : List Nat) (hl : ∀ a ∈ l, a ∈ dirs R C k) :
    ((l.foldl (better C S hs k) (-1, 0)).1 = -1 ∧ (l.foldl (better C S hs k) (-1, 0)).2 = 0) ∨
    ∃ a : Nat, (a < 8 ∧ nbOk R C k a = true) ∧ (l.foldl (better C S hs k) (-1, 0)).1 = (a : Int) ∧ (l.foldl (better C S hs k) (-1, 0)).2 = fallAt C S hs k a ∧ hg hs (nbAt C k a) < hg hs k := by
  rcases fold_bd (k := k) (C := C) h hS1 (dirs R C k) (-1, 0) (.inl ⟨rfl, rfl⟩) l hl with h1 | ⟨a, h1, h2⟩
  · exact .inl h1
  · exact .inr ⟨a, mem_dirs.1 h1, h2⟩
end Go.Proofs.Ytknppcgoooaaaaa
