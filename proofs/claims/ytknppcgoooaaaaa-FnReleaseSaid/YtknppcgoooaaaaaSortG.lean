/-
  The library's sort at a slice of numbers that the call owns; sorted lists, plain.
-/
import Derived.Sort.OwnSortedInts
import Derived.Test.YtknppcgoooaaaaaSortS
import Derived.Test.YtknppcgoooaaaaaPartM
import Derived.Test.YtknppcgoooaaaaaMem
namespace Go.Proofs.Ytknppcgoooaaaaa
open Go.ChangeShapes Go.WideShapes Go.ChangeAt Go.RowKit Go.Deep
set_option linter.unusedVariables false

def sortI (zs : List Int) : List Int := zs.mergeSort fun x y => decide (x ≤ y)
theorem sortI_len (zs : List Int) : (sortI zs).length = zs.length := (List.mergeSort_perm zs _).length_eq
theorem sortI_mem {zs : List Int} {z : Int} : z ∈ sortI zs ↔ z ∈ zs := (List.mergeSort_perm zs _).mem_iff
theorem sortI_eq {zs o : List Int} (hn : zs.Nodup) (hp : o.Pairwise (· < ·)) (hm : ∀ z, z ∈ zs ↔ z ∈ o) : sortI zs = o := by
  have h1 : (sortI zs).Pairwise (· ≤ ·) := by
    have := List.pairwise_mergeSort (le := fun x y : Int => decide (x ≤ y)) (fun a b c h1 h2 => by simp at *; omega) (fun a b => by simp; omega) zs
    exact this.imp (by simp)
  have ho : o.Nodup := hp.imp (by intro a b h; omega)
  have h2 : (sortI zs).Perm o := (List.mergeSort_perm zs _).trans ((List.perm_ext_iff_of_nodup hn ho).2 hm)
  exact h2.eq_of_pairwise (fun a b _ _ h3 h4 => Int.le_antisymm h3 h4) h1 (hp.imp (by intro a b h; omega))
theorem sort_own {w : World} {B g n c : Nat} {zs : List Int} (h : w.ownsRow B 2 1 (.slice (some ⟨g, 0, none⟩) n c) n (zs.map (.int .i64))) (hn : n ≤ 1000000) :
    Calls Try.prog 38 #[.slice (some ⟨g, 0, none⟩) n c] w fun e w' => e = .returned (.tuple #[]) ∧ w'.ownsRow B 2 1 (.slice (some ⟨g, 0, none⟩) n c) n ((sortI zs).map (.int .i64)) ∧ w.grownBy w' (some g) := by
  have hl : zs.length = n := by have := h.1; simpa using this
  rcases h.2 with ⟨hv, _⟩ | ⟨g', cap, cur, hv, hb, hg, hnc, hcm, hs, ht⟩
  · simp at hv
  · simp only [Value.slice.injEq, Option.some.injEq, Addr.mk.injEq] at hv
    obtain ⟨⟨rfl, _, _⟩, _, rfl⟩ := hv
    subst hl
    have hH : Go.Sort.Holds (Value.int .i64) w g 0 zs.toArray := holds_of_blockI hg (by simpa using ht)
    refine (Try.slices_Sort_int64 g 0 c zs w hH (Array.getElem?_eq_some_iff.1 hg).1 (by omega)).mono ?_
    rintro e w' ⟨rfl, k, os, rfl⟩
    exact ⟨rfl, ownsRow_sortedI (sortI_len zs) hb hg hnc hcm hs, grownBy_sortedI _⟩
end Go.Proofs.Ytknppcgoooaaaaa
