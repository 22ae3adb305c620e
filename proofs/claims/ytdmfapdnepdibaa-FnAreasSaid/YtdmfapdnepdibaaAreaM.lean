/-
  What the law of areas asks, in plain lists: borders, growth, descents. No program in sight.
-/
import Derived.Test.YtdmfapdnepdibaaGridLw
namespace Go.Proofs.Ytdmfapdnepdibaa
open Go.RowKit
set_option linter.unusedVariables false

theorem bool_iff {a b : Bool} (h : a = true ↔ b = true) : a = b := by cases a <;> cases b <;> simp_all
theorem hasB_cells {n k : Nat} {p : Nat → Bool} (hk : k < n) : hasB (cellsB n p) (k : Int) = p k := by
  apply bool_iff
  rw [hasB_iff, mem_cellsB]
  constructor
  · rintro ⟨j, hj, hp, e⟩
    have : j = k := by omega
    rw [← this]; exact hp
  · intro h; exact ⟨k, hk, h, rfl⟩
theorem hasB_kept {p : Int → Bool} {xs : List Int} {m : Nat} {x : Int} (hm : xs.length = m) : hasB (keptTo p xs m) x = (hasB xs x && !p x) := by
  apply bool_iff
  rw [hasB_iff, Bool.and_eq_true, hasB_iff]
  unfold keptTo
  rw [List.take_of_length_le (by omega), List.mem_filter]
theorem putL_len1 {l : List Int} {n : Int} (h : n ∉ l) : (putL l n).length = l.length + 1 := by
  induction l with
  | nil => simp [putL]
  | cons y t ih =>
    have h1 : n ≠ y := fun e => h (by simp [e])
    have h2 : n ∉ t := fun e => h (by simp [e])
    unfold putL
    split
    · rw [if_pos (by omega)]; simp
    · simp only [List.length_cons, ih h2]
theorem nb_inj {R C k : Int} {a b : Nat} (ha : nbOk R C k a = true) (hb : nbOk R C k b = true) (h8 : a < 8) (h8' : b < 8) (c1 : 1 ≤ C) (e : nbAt C k a = nbAt C k b) : a = b := by
  unfold nbOk at ha hb
  simp only [Bool.and_eq_true, inB_iff] at ha hb
  obtain ⟨_, q2, q3⟩ := ha
  obtain ⟨_, t2, t3⟩ := hb
  have e1 : nbAt C k a / C = nbR C k a := by
    unfold nbAt
    rw [Int.add_comm, Int.add_mul_ediv_right _ _ (by omega), Int.ediv_eq_zero_of_lt q2 (by omega)]
    omega
  have e2 : nbAt C k b / C = nbR C k b := by
    unfold nbAt
    rw [Int.add_comm, Int.add_mul_ediv_right _ _ (by omega), Int.ediv_eq_zero_of_lt t2 (by omega)]
    omega
  have e3 : nbAt C k a % C = nbC C k a := by
    unfold nbAt
    rw [Int.add_comm, Int.add_mul_emod_self_right]
    exact Int.emod_eq_of_lt q2 (by omega)
  have e4 : nbAt C k b % C = nbC C k b := by
    unfold nbAt
    rw [Int.add_comm, Int.add_mul_emod_self_right]
    exact Int.emod_eq_of_lt t2 (by omega)
  have r : nbR C k a = nbR C k b := by rw [← e1, ← e2, e]
  have c : nbC C k a = nbC C k b := by rw [← e3, ← e4, e]
  have hr : dirR a = dirR b := by unfold nbR at r; omega
  have hc : dirC a = dirC b := by unfold nbC at c; omega
  revert hr hc
  rcases lt8 h8 with rfl | rfl | rfl | rfl | rfl | rfl | rfl | rfl <;> rcases lt8 h8' with rfl | rfl | rfl | rfl | rfl | rfl | rfl | rfl <;> decide
theorem near_len {R C k : Int} (c1 : 1 ≤ C) : (near R C k).length = (dirs R C k).length := by
  have : ∀ (l : List Nat) (o : List Int), l.Nodup → (∀ a ∈ l, a < 8 ∧ nbOk R C k a = true) → (∀ a ∈ l, nbAt C k a ∉ o) → (l.foldl (fun l a => putL l (nbAt C k a)) o).length = o.length + l.length := by
    intro l
    induction l with
    | nil => intro o _ _ _; rfl
    | cons a t ih =>
      intro o hn hl ho
      rw [List.foldl_cons, ih]
      · rw [putL_len1 (ho a (by simp))]; simp only [List.length_cons]; omega
      · exact (List.nodup_cons.1 hn).2
      · intro b hb; exact hl b (by simp [hb])
      · intro b hb
        rw [mem_putL]
        rintro (e | e)
        · have := nb_inj (hl b (by simp [hb])).2 (hl a (by simp)).2 (hl b (by simp [hb])).1 (hl a (by simp)).1 c1 e
          subst this
          exact (List.nodup_cons.1 hn).1 hb
        · exact ho b (by simp [hb]) e
  have h := this (dirs R C k) [] (List.Nodup.sublist List.filter_sublist List.nodup_range) (fun a ha => mem_dirs.1 ha) (by simp)
  simpa [near, nearTo, dirs, dirsTo] using h
def innerN (xs N : List Int) : Bool := decide (N.length = 8) && N.all (hasB xs)
theorem inner_near {R C k : Int} {xs : List Int} (c1 : 1 ≤ C) : innerB R C xs k = innerN xs (near R C k) := by
  unfold innerB innerN
  rw [near_len c1]
  congr 1
  apply bool_iff
  rw [List.all_eq_true]
  constructor
  · intro h z hz
    obtain ⟨a, ha, rfl⟩ := mem_near.1 hz
    have : (dirs R C k).any (outQ C xs k) = false := by simpa using h
    rw [List.any_eq_false] at this
    have := this a ha
    unfold outQ at this
    simpa using this
  · intro h
    have : (dirs R C k).any (outQ C xs k) = false := by
      rw [List.any_eq_false]
      intro a ha
      have := h _ (mem_near.2 ⟨a, ha, rfl⟩)
      unfold outQ
      simp [this]
    simp [this]
theorem any_near {R C k : Int} {xs : List Int} : (dirs R C k).any (fun a => hasB xs (nbAt C k a)) = (near R C k).any (hasB xs) := by
  apply bool_iff
  rw [List.any_eq_true, List.any_eq_true]
  constructor
  · rintro ⟨a, ha, h⟩; exact ⟨_, mem_near.2 ⟨a, ha, rfl⟩, h⟩
  · rintro ⟨z, hz, h⟩
    obtain ⟨a, ha, rfl⟩ := mem_near.1 hz
    exact ⟨a, ha, h⟩
theorem nearly_all {hs : List Int} (h : allB hs 0 5000 = true) (k z : Int) : nearly hs 5000 k z = true := by
  have h1 := hg_bd h k
  have h2 := hg_bd h z
  unfold nearly absI
  simp only [decide_eq_true_eq]
  split <;> omega
theorem grow_wide {R C : Int} {hs xs : List Int} (h : allB hs 0 5000 = true) (k : Nat) : growP R C hs xs 5000 k = (hasB xs (k : Int) || (near R C k).any (hasB xs)) := by
  unfold growP
  rw [← any_near]
  congr 1
  congr 1
  funext a
  unfold growQ
  rw [nearly_all h, Bool.and_true]
theorem grow_own {R C most : Int} {hs xs : List Int} {k : Nat} (h : hasB xs (k : Int) = true) : growP R C hs xs most k = true := by simp [growP, h]
theorem grow_sub {R C most : Int} {hs xs : List Int} {k : Nat} (ha : allB hs 0 5000 = true) (h : growP R C hs xs most k = true) : growP R C hs xs 5000 k = true := by
  unfold growP at h ⊢
  rw [Bool.or_eq_true] at h ⊢
  rcases h with h | h
  · exact .inl h
  · right
    rw [List.any_eq_true] at h ⊢
    obtain ⟨a, h1, h2⟩ := h
    unfold growQ at h2
    rw [Bool.and_eq_true] at h2
    exact ⟨a, h1, by unfold growQ; rw [h2.1, nearly_all ha]; rfl⟩
/-- What the law compares at a cell. -/
theorem area_law {R C : Int} {hs xs : List Int} {n m k : Nat} (hv : gridOk R C 10 hs = true) (hm : xs.length = m) (hk : k < n) :
    let I := hasB xs (k : Int); let N := innerN xs (near R C k); let T := (I || (near R C k).any (hasB xs)); let G := growP R C hs xs 2 k; let L := (descL R C 10 hs (k : Int)).any (hasB xs)
    hasB (keptTo (innerB R C xs) xs m) k = (I && !N) ∧ hasB (cellsB n (growP R C hs xs 5000)) k = T ∧ hasB (cellsB n (growP R C hs xs 2)) k = G ∧ hasB (cellsB n (aboveP R C 10 hs xs)) k = (L && !I) ∧ (I = true → G = true) ∧ (I = true → T = true) ∧ (G = true → T = true) := by
  obtain ⟨_, ⟨c1, _⟩, _, _, ha⟩ := gridOk_iff.1 hv
  refine ⟨by rw [hasB_kept hm, inner_near c1], by rw [hasB_cells hk, grow_wide ha], hasB_cells hk, by rw [hasB_cells hk]; rfl, fun h => grow_own h, fun h => by simp [h], fun h => ?_⟩
  have := grow_sub ha h
  rw [grow_wide ha] at this
  exact this
end Go.Proofs.Ytdmfapdnepdibaa
