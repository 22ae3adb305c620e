/-
  Cells that grow: rising lists with the same members are one, neighbours are each other's. No program in sight.
-/
import Derived.Test.YtknppcgoooaaaaaGridI
namespace Go.Proofs.Ytknppcgoooaaaaa
open Go.RowKit
set_option linter.unusedVariables false

theorem pw_ext : ∀ (l l' : List Int), l.Pairwise (· < ·) → l'.Pairwise (· < ·) → (∀ z, z ∈ l ↔ z ∈ l') → l = l' := by
  intro l
  induction l with
  | nil =>
    intro l' _ _ h
    cases l' with
    | nil => rfl
    | cons y t' => exact absurd ((h y).2 (by simp)) (by simp)
  | cons x t ih =>
    intro l' hl hl' h
    cases l' with
    | nil => exact absurd ((h x).1 (by simp)) (by simp)
    | cons y t' =>
      have h1 := List.pairwise_cons.1 hl
      have h2 := List.pairwise_cons.1 hl'
      have e : x = y := by
        rcases List.mem_cons.1 ((h x).1 (by simp)) with e | e
        · exact e
        · rcases List.mem_cons.1 ((h y).2 (by simp)) with e' | e'
          · exact e'.symm
          · have := h2.1 x e
            have := h1.1 y e'
            omega
      subst e
      congr 1
      refine ih t' h1.2 h2.2 fun z => ?_
      constructor
      · intro hz
        rcases List.mem_cons.1 ((h z).1 (by simp [hz])) with e | e
        · have := h1.1 z hz; omega
        · exact e
      · intro hz
        rcases List.mem_cons.1 ((h z).2 (by simp [hz])) with e | e
        · have := h2.1 z hz; omega
        · exact e
theorem pw_put {l : List Int} {n : Int} (h : l.Pairwise (· < ·)) : (putL l n).Pairwise (· < ·) := by
  induction l with
  | nil => simp [putL]
  | cons x t ih =>
    have h1 := List.pairwise_cons.1 h
    unfold putL
    by_cases hx : n ≤ x
    · rw [if_pos hx]
      by_cases hn : n < x
      · rw [if_pos hn]
        refine List.pairwise_cons.2 ⟨fun z hz => ?_, h⟩
        rcases List.mem_cons.1 hz with rfl | hz
        · exact hn
        · have := h1.1 z hz; omega
      · rw [if_neg hn]; exact h
    · rw [if_neg hx]
      refine List.pairwise_cons.2 ⟨fun z hz => ?_, ih h1.2⟩
      rcases mem_putL.1 hz with rfl | hz
      · omega
      · exact h1.1 z hz
theorem pw_inc {xs : List Int} (h : incB xs = true) : xs.Pairwise (· < ·) := by
  rw [List.pairwise_iff_getElem]
  intro i j hi hj hij
  exact inc_lt h hij (List.getElem?_eq_getElem hi) (List.getElem?_eq_getElem hj)
theorem pw_cells (n : Nat) (p : Nat → Bool) : (cellsB n p).Pairwise (· < ·) := by
  unfold cellsB
  rw [List.pairwise_map]
  exact (List.Pairwise.filter p List.pairwise_lt_range).imp fun h => by omega
theorem mem_cellsB {n : Nat} {p : Nat → Bool} {z : Int} : z ∈ cellsB n p ↔ ∃ k : Nat, k < n ∧ p k = true ∧ z = (k : Int) := by
  unfold cellsB
  rw [List.mem_map]
  constructor
  · rintro ⟨k, hk, rfl⟩
    have := List.mem_filter.1 hk
    exact ⟨k, List.mem_range.1 this.1, this.2, rfl⟩
  · rintro ⟨k, h1, h2, rfl⟩
    exact ⟨k, List.mem_filter.2 ⟨List.mem_range.2 h1, h2⟩, rfl⟩

/-! ### The way back -/
def opp (a : Nat) : Nat := (a + 4) % 8
theorem opp_dir {a : Nat} (h : a < 8) : opp a < 8 ∧ dirR (opp a) = - dirR a ∧ dirC (opp a) = - dirC a := by
  rcases lt8 h with rfl | rfl | rfl | rfl | rfl | rfl | rfl | rfl <;> decide
theorem nb_back {R C k : Int} {a : Nat} (ha : a < 8) (hok : nbOk R C k a = true) (c1 : 1 ≤ C) (hk0 : 0 ≤ k) (hk : k < R * C) : opp a < 8 ∧ nbOk R C (nbAt C k a) (opp a) = true ∧ nbAt C (nbAt C k a) (opp a) = k := by
  obtain ⟨o1, o2, o3⟩ := opp_dir ha
  have hok' := hok
  unfold nbOk at hok'
  simp only [Bool.and_eq_true, inB_iff] at hok'
  obtain ⟨⟨q0, q1⟩, q2, q3⟩ := hok'
  have e1 : nbAt C k a / C = nbR C k a := by
    unfold nbAt
    rw [Int.add_comm, Int.add_mul_ediv_right _ _ (by omega), Int.ediv_eq_zero_of_lt q2 (by omega)]
    omega
  have e2 : nbAt C k a % C = nbC C k a := by
    unfold nbAt
    rw [Int.add_comm, Int.add_mul_emod_self_right]
    exact Int.emod_eq_of_lt q2 (by omega)
  have f1 : nbR C (nbAt C k a) (opp a) = k / C := by
    show nbAt C k a / C + dirR (opp a) = k / C
    rw [e1, o2]; unfold nbR; omega
  have f2 : nbC C (nbAt C k a) (opp a) = k % C := by
    show nbAt C k a % C + dirC (opp a) = k % C
    rw [e2, o3]; unfold nbC; omega
  have g1 := Int.ediv_nonneg hk0 (show 0 ≤ C by omega)
  have g2 := Int.emod_nonneg k (show C ≠ 0 by omega)
  have g3 := Int.emod_lt_of_pos k (show 0 < C by omega)
  have g4 : k / C < R := Int.ediv_lt_of_lt_mul (by omega) hk
  refine ⟨o1, ?_, ?_⟩
  · unfold nbOk
    rw [f1, f2]
    simp only [Bool.and_eq_true, inB_iff]
    omega
  · show nbR C (nbAt C k a) (opp a) * C + nbC C (nbAt C k a) (opp a) = k
    rw [f1, f2]
    have := Int.mul_ediv_add_emod k C
    rw [Int.mul_comm]
    exact this

/-! ### What grows -/
def nearly (hs : List Int) (most k z : Int) : Bool := decide (absI (hg hs z - hg hs k) ≤ most)
def growQ (C : Int) (hs xs : List Int) (most k : Int) (a : Nat) : Bool := hasB xs (nbAt C k a) && nearly hs most k (nbAt C k a)
def growP (R C : Int) (hs xs : List Int) (most : Int) (k : Nat) : Bool := hasB xs (k : Int) || (dirs R C (k : Int)).any (growQ C hs xs most k)
/-- One cell's growth, some of its neighbours considered. -/
def growOne (hs : List Int) (most c : Int) (l : List Int) (o : List Int) : List Int := l.foldl (fun o z => if nearly hs most c z = true then putL o z else o) o
def growTo (R C : Int) (hs : List Int) (most : Int) (l : List Int) (o : List Int) : List Int := l.foldl (fun o c => growOne hs most c (near R C c) o) o
theorem growOne_snoc {hs : List Int} {most c z : Int} {l o : List Int} {j : Nat} (h : l[j]? = some z) : growOne hs most c (l.take (j + 1)) o = if nearly hs most c z = true then putL (growOne hs most c (l.take j) o) z else growOne hs most c (l.take j) o := by
  unfold growOne
  rw [List.take_add_one, h, List.foldl_append]
  rfl
theorem growTo_snoc {R C : Int} {hs : List Int} {most c : Int} {l o : List Int} {j : Nat} (h : l[j]? = some c) : growTo R C hs most (l.take (j + 1)) o = growOne hs most c (near R C c) (growTo R C hs most (l.take j) o) := by
  unfold growTo
  rw [List.take_add_one, h, List.foldl_append]
  rfl
theorem pw_one {hs : List Int} {most c : Int} (l : List Int) {o : List Int} (h : o.Pairwise (· < ·)) : (growOne hs most c l o).Pairwise (· < ·) := by
  unfold growOne
  induction l generalizing o with
  | nil => exact h
  | cons z t ih =>
    rw [List.foldl_cons]
    split
    · exact ih (pw_put h)
    · exact ih h
theorem pw_to {R C : Int} {hs : List Int} {most : Int} (l : List Int) {o : List Int} (h : o.Pairwise (· < ·)) : (growTo R C hs most l o).Pairwise (· < ·) := by
  unfold growTo
  induction l generalizing o with
  | nil => exact h
  | cons c t ih => exact ih (pw_one _ h)
theorem mem_one {hs : List Int} {most c : Int} (l : List Int) (o : List Int) (z : Int) : z ∈ growOne hs most c l o ↔ z ∈ o ∨ (z ∈ l ∧ nearly hs most c z = true) := by
  unfold growOne
  induction l generalizing o with
  | nil => simp
  | cons y t ih =>
    rw [List.foldl_cons, ih]
    by_cases hy : nearly hs most c y = true
    · rw [if_pos hy, mem_putL, List.mem_cons]
      constructor
      · rintro ((rfl | h) | h)
        · exact .inr ⟨.inl rfl, hy⟩
        · exact .inl h
        · exact .inr ⟨.inr h.1, h.2⟩
      · rintro (h | ⟨rfl | h, h2⟩)
        · exact .inl (.inr h)
        · exact .inl (.inl rfl)
        · exact .inr ⟨h, h2⟩
    · rw [if_neg hy, List.mem_cons]
      constructor
      · rintro (h | h)
        · exact .inl h
        · exact .inr ⟨.inr h.1, h.2⟩
      · rintro (h | ⟨rfl | h, h2⟩)
        · exact .inl h
        · exact absurd h2 hy
        · exact .inr ⟨h, h2⟩
theorem mem_to {R C : Int} {hs : List Int} {most : Int} (l : List Int) (o : List Int) (z : Int) : z ∈ growTo R C hs most l o ↔ z ∈ o ∨ ∃ c ∈ l, z ∈ near R C c ∧ nearly hs most c z = true := by
  unfold growTo
  induction l generalizing o with
  | nil => simp
  | cons c t ih =>
    rw [List.foldl_cons, ih, mem_one]
    constructor
    · rintro ((h | h) | ⟨d, hd, h⟩)
      · exact .inl h
      · exact .inr ⟨c, by simp, h⟩
      · exact .inr ⟨d, by simp [hd], h⟩
    · rintro (h | ⟨d, hd, h⟩)
      · exact .inl (.inl h)
      · rcases List.mem_cons.1 hd with rfl | hd
        · exact .inl (.inr h)
        · exact .inr ⟨d, hd, h⟩
theorem nearly_comm (hs : List Int) (most k z : Int) : nearly hs most k z = nearly hs most z k := by
  unfold nearly
  congr 1
  unfold absI
  have : (if hg hs z - hg hs k < 0 then -(hg hs z - hg hs k) else hg hs z - hg hs k) = (if hg hs k - hg hs z < 0 then -(hg hs k - hg hs z) else hg hs k - hg hs z) := by split <;> split <;> omega
  rw [this]
theorem grow_link {R C : Int} {hs xs : List Int} {most : Int} {n : Nat} (c1 : 1 ≤ C) (hn : (n : Int) = R * C) (hinc : incB xs = true) (hall : allB xs 0 (R * C - 1) = true) : growTo R C hs most xs xs = cellsB n (growP R C hs xs most) := by
  refine pw_ext _ _ (pw_to _ (pw_inc hinc)) (pw_cells _ _) fun z => ?_
  rw [mem_to, mem_cellsB]
  have hmem : ∀ c, c ∈ xs → 0 ≤ c ∧ c < R * C := fun c hc => by
    obtain ⟨j, hj⟩ := List.mem_iff_getElem?.1 hc
    have := allB_iff.1 hall j c hj
    omega
  constructor
  · rintro (h | ⟨c, hc, hz, hnr⟩)
    · have := hmem z h
      refine ⟨z.toNat, by omega, ?_, by omega⟩
      unfold growP
      rw [show ((z.toNat : Nat) : Int) = z by omega, hasB_iff.2 h]
      rfl
    · obtain ⟨a, ha, rfl⟩ := mem_near.1 hz
      obtain ⟨h1, h2⟩ := mem_dirs.1 ha
      have hcb := hmem c hc
      have hzb := nb_bd h2 c1
      obtain ⟨b1, b2, b3⟩ := nb_back h1 h2 c1 hcb.1 hcb.2
      refine ⟨(nbAt C c a).toNat, by omega, ?_, by omega⟩
      unfold growP
      rw [show (((nbAt C c a).toNat : Nat) : Int) = nbAt C c a by omega, Bool.or_eq_true]
      right
      refine List.any_eq_true.2 ⟨opp a, mem_dirs.2 ⟨b1, b2⟩, ?_⟩
      unfold growQ
      rw [b3, hasB_iff.2 hc, nearly_comm, hnr]
      rfl
  · rintro ⟨k, hk, hp, rfl⟩
    unfold growP at hp
    rw [Bool.or_eq_true] at hp
    rcases hp with h | h
    · exact .inl (hasB_iff.1 h)
    · obtain ⟨a, ha, hq⟩ := List.any_eq_true.1 h
      obtain ⟨h1, h2⟩ := mem_dirs.1 ha
      unfold growQ at hq
      rw [Bool.and_eq_true] at hq
      obtain ⟨b1, b2, b3⟩ := nb_back h1 h2 c1 (by omega) (by omega : (k : Int) < R * C)
      refine .inr ⟨nbAt C k a, hasB_iff.1 hq.1, mem_near.2 ⟨opp a, mem_dirs.2 ⟨b1, b2⟩, b3.symm⟩, ?_⟩
      rw [nearly_comm]; exact hq.2
end Go.Proofs.Ytknppcgoooaaaaa
