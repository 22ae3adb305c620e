/-
  Plain facts of FnRelease: what the law asks of each part. No program in sight.
-/
import Derived.Test.YtknppcgoooaaaaaRelM
import Derived.Test.YtknppcgoooaaaaaPartL
import Derived.Test.YtknppcgoooaaaaaGridLv
import Derived.Test.YtknppcgoooaaaaaGridZ
namespace Go.Proofs.Ytknppcgoooaaaaa
open Go.RowKit
set_option linter.unusedVariables false

/-- The parts begin at rising cells, each at its own first one. -/
theorem parts_form {nr : Int → List Int} {xs : List Int} (sym : Sym nr xs) (hp : xs.Pairwise (· < ·)) :
    ∃ fs : List Int, fs.Sublist xs ∧ partsF nr xs = fs.map (spread nr xs) ∧ ∀ f ∈ fs, (spread nr xs f).head? = some f := by
  have : ∀ j, j ≤ xs.length → ∃ fs : List Int, fs.Sublist (xs.take j) ∧ (partsTo nr xs (xs.take j)).1 = fs.map (spread nr xs) ∧ ∀ f ∈ fs, (spread nr xs f).head? = some f := by
    intro j
    induction j with
    | zero => intro _; exact ⟨[], by simp, by simp [partsTo], by simp⟩
    | succ j ih =>
      intro hj
      obtain ⟨fs, h1, h2, h3⟩ := ih (by omega)
      have hc : xs[j]? = some xs[j] := List.getElem?_eq_getElem (by omega)
      obtain ⟨c, hcc⟩ : ∃ c, c = xs[j] := ⟨_, rfl⟩
      rw [← hcc] at hc
      have hm : c ∈ xs := List.mem_of_getElem? hc
      have ht : xs.take (j + 1) = xs.take j ++ [c] := by rw [List.take_add_one, hc]; rfl
      have hsub : ∀ d ∈ xs.take j, d ∈ xs := fun d hd => List.mem_of_mem_take hd
      rw [partsTo_snoc hc, ht]
      unfold partOne
      cases hh : hasB (partsTo nr xs (xs.take j)).2 c
      · rw [if_neg (by simp)]
        refine ⟨fs ++ [c], h1.append (List.Sublist.refl _), by simp [h2], fun f hf => ?_⟩
        rcases List.mem_append.1 hf with hf | hf
        · exact h3 f hf
        · simp at hf
          subst hf
          refine spread_head hm sym (partsTo_seen _ hsub) (fun h => by rw [hasB_iff.2 h] at hh; cases hh) fun z hz hlt => ?_
          refine partsTo_all _ hsub z ?_
          obtain ⟨i, hi⟩ := List.mem_iff_getElem?.1 hz
          have hil := (List.getElem?_eq_some_iff.1 hi).1
          have hjl := (List.getElem?_eq_some_iff.1 hc).1
          by_cases hij : i < j
          · exact List.mem_iff_getElem?.2 ⟨i, by rw [List.getElem?_take_of_lt hij]; exact hi⟩
          · exfalso
            have e1 := (List.getElem?_eq_some_iff.1 hi).2
            have e2 := (List.getElem?_eq_some_iff.1 hc).2
            rcases Nat.lt_or_ge j i with h | h
            · have := List.pairwise_iff_getElem.1 hp j i hjl hil h
              omega
            · obtain rfl : i = j := by omega
              omega
      · rw [if_pos rfl]
        exact ⟨fs, h1.trans (List.sublist_append_left _ _), h2, h3⟩
  obtain ⟨fs, h1, h2, h3⟩ := this xs.length (Nat.le_refl _)
  rw [List.take_length] at h1 h2
  exact ⟨fs, h1, h2, h3⟩
theorem bigF_ge (rs : Rws) : ∀ r ∈ rs, r.length ≤ (bigF rs).length := by
  have : ∀ (l : Rws) (a : List Int), a.length ≤ (l.foldl bigOne a).length ∧ ∀ r ∈ l, r.length ≤ (l.foldl bigOne a).length := by
    intro l
    induction l with
    | nil => intro a; exact ⟨Nat.le_refl _, by simp⟩
    | cons p t ih =>
      intro a
      have h := ih (bigOne a p)
      have h1 : a.length ≤ (bigOne a p).length ∧ p.length ≤ (bigOne a p).length := by
        unfold bigOne
        split <;> omega
      refine ⟨by have := h.1; simp only [List.foldl_cons]; omega, fun r hr => ?_⟩
      rcases List.mem_cons.1 hr with rfl | hr
      · have := h.1; simp only [List.foldl_cons]; omega
      · exact h.2 r hr
  exact fun r hr => (this rs []).2 r hr
theorem totR_all (rs : Rws) : totR rs rs.length = rs.flatten.length := by
  unfold totR
  rw [List.take_length, List.length_flatten]
/-- What the law asks of one part. -/
structure PartAt (R C : Int) (hs xs : List Int) (rs : Rws) (k : Nat) : Prop where
  pos : 0 < (rAt rs k).length
  le : (rAt rs k).length ≤ (bigF rs).length
  conn : connV (cellsC R C 10 hs (rAt rs k)) R C (rAt rs k) = true
  sub : ∀ y ∈ rAt rs k, hasB xs y = true
  shut : ∀ y ∈ rAt rs k, ∀ z ∈ near R C y, hasB xs z = true → hasB (rAt rs k) z = true
  head : 0 < k → (rAt rs (k - 1)).getD 0 0 < (rAt rs k).getD 0 0 ∧ 0 < (rAt rs (k - 1)).length
theorem part_at {R C : Int} {hs xs : List Int} {n : Nat} (hv : gridOk R C 10 hs = true) (hl : hs.length = n) (hp : xs.Pairwise (· < ·)) (hb : ∀ x ∈ xs, 0 ≤ x ∧ x < n) (k : Nat) (hk : k < (partsF (near R C) xs).length) : PartAt R C hs xs (partsF (near R C) xs) k := by
  obtain ⟨_, ⟨c1, _⟩, _, hn, _⟩ := gridOk_iff.1 hv
  have hx : ∀ z ∈ xs, 0 ≤ z ∧ z < R * C := fun z hz => by have := hb z hz; omega
  have sym : Sym (near R C) xs := near_sym c1 hx
  obtain ⟨fs, h1, h2, h3⟩ := parts_form sym hp
  have hfp : fs.Pairwise (· < ·) := hp.sublist h1
  have hkf : k < fs.length := by rw [h2, List.length_map] at hk; exact hk
  have hat : ∀ i (hi : i < fs.length), rAt (partsF (near R C) xs) i = spread (near R C) xs fs[i] := fun i hi => by
    rw [h2, rAt, List.getD_eq_getElem?_getD, List.getElem?_map, List.getElem?_eq_getElem hi]; rfl
  have hhead : ∀ i (hi : i < fs.length), (rAt (partsF (near R C) xs) i).head? = some fs[i] := fun i hi => by
    rw [hat i hi]; exact h3 _ (List.getElem_mem hi)
  have hget : ∀ i (hi : i < fs.length), (rAt (partsF (near R C) xs) i).getD 0 0 = fs[i] ∧ 0 < (rAt (partsF (near R C) xs) i).length := fun i hi => by
    have h := hhead i hi
    cases hh : rAt (partsF (near R C) xs) i with
    | nil => rw [hh] at h; simp at h
    | cons a t => rw [hh] at h; simp at h; simp [h]
  have hf : fs[k] ∈ xs := h1.subset (List.getElem_mem hkf)
  obtain ⟨p1, hc⟩ := spread_ok (nr := near R C) hf
  have hmem : rAt (partsF (near R C) xs) k ∈ partsF (near R C) xs := by
    rw [rAt, List.getD_eq_getElem?_getD, List.getElem?_eq_getElem hk]; exact List.getElem_mem hk
  refine ⟨(hget k hkf).2, bigF_ge _ _ hmem, ?_, fun y hy => ?_, fun y hy z hz hzx => ?_, fun h0 => ?_⟩
  · rw [hat k hkf]
    have hr : risesB (spread (near R C) xs fs[k]) 0 (R * C - 1) = true := rises_iff.2 ⟨inc_pw p1, allB_iff.2 fun j x hj => by have := hx x ((hc x).1 (List.mem_of_getElem? hj)).mem; omega⟩
    have e : cellsC R C 10 hs (spread (near R C) xs fs[k]) = 0 := by rw [cellsC, if_pos hv, if_pos hr]
    rw [e, connV, parts_self hf sym (h3 _ (List.getElem_mem hkf)) (s := [])]
    rfl
  · rw [hat k hkf] at hy
    exact hasB_iff.2 ((hc y).1 hy).mem
  · rw [hat k hkf] at hy ⊢
    exact hasB_iff.2 (spread_shut hf sym hy (hasB_iff.1 hzx) hz)
  · have q1 := hget k hkf
    have q2 := hget (k - 1) (by omega)
    refine ⟨?_, q2.2⟩
    rw [q1.1, q2.1]
    exact List.pairwise_iff_getElem.1 hfp (k - 1) k (by omega) hkf (by omega)
/-- What the law asks of the whole. -/
theorem parts_whole {R C : Int} {hs xs : List Int} {n : Nat} (hv : gridOk R C 10 hs = true) (hl : hs.length = n) (hp : xs.Pairwise (· < ·)) (hb : ∀ x ∈ xs, 0 ≤ x ∧ x < n) :
    totR (partsF (near R C) xs) (partsF (near R C) xs).length = xs.length ∧ ((partsF (near R C) xs).length = 0 ↔ xs.length = 0) := by
  obtain ⟨_, ⟨c1, _⟩, _, hn, _⟩ := gridOk_iff.1 hv
  have hx : ∀ z ∈ xs, 0 ≤ z ∧ z < R * C := fun z hz => by have := hb z hz; omega
  have sym : Sym (near R C) xs := near_sym c1 hx
  have h1 : totR (partsF (near R C) xs) (partsF (near R C) xs).length = xs.length := by
    rw [totR_all]
    exact parts_sum sym (hp.imp (by intro a b h; omega))
  refine ⟨h1, fun h => ?_, fun h => ?_⟩
  · rw [h] at h1; simpa [totR] using h1.symm
  · have := (partsF_ok (near R C) xs).1
    omega
/-- What the law asks of the slopes and of the cells where snow can start, at a cell. -/
theorem start_at {R C lo hi : Int} {hs ds : List Int} {n k : Nat} (hk : k < n) : hasB (cellsB n (startP R C 10 hs lo hi ds)) (k : Int) = startP R C 10 hs lo hi ds k := by
  cases h : startP R C 10 hs lo hi ds k
  · cases h2 : hasB (cellsB n (startP R C 10 hs lo hi ds)) (k : Int)
    · rfl
    · obtain ⟨j, hj, hp, e⟩ := mem_cellsB.1 (hasB_iff.1 h2)
      obtain rfl : j = k := by omega
      rw [h] at hp; cases hp
  · exact hasB_iff.2 (mem_cellsB.2 ⟨k, hk, h, rfl⟩)
end Go.Proofs.Ytknppcgoooaaaaa
