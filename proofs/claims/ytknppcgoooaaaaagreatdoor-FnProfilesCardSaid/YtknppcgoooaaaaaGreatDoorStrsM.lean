/-
  Slices of texts in memory; a text cut at a byte: the reference's.
-/
import Derived.Test.YtknppcgoooaaaaaGreatDoorTxtB
namespace Go.Proofs.YtknppcgoooaaaaaGreatDoor
open Go.ChangeShapes Go.WideShapes Go.ChangeAt Go.RowKit Go.Deep
set_option linter.unusedVariables false

/-- A slice that reads as these texts; its block is one of texts. -/
def Strs (w : World) (A : Option Addr) (n : Nat) (xs : List ByteArray) : Prop :=
  xs.length = n ∧ n ≤ 1000000000000 ∧ (0 < n → ∃ b off cs, A = some ⟨b, off, none⟩ ∧ w.heap[b]? = some (.cells cs 9 (0, 0)) ∧ ∀ j x, xs[j]? = some x → w.cell? ⟨b, off + j, none⟩ = some (.string x))
theorem Strs.at_ {w : World} {A : Option Addr} {n : Nat} {xs : List ByteArray} (h : Strs w A n xs) {k : Nat} (hk : k < n) :
    ∃ b off x, A = some ⟨b, off, none⟩ ∧ Hid (xs[k]? = some x) ∧ w.cell? ⟨b, off + k, none⟩ = some (.string x) := by
  obtain ⟨hl, _, hc⟩ := h
  obtain ⟨b, off, _, hA, _, hcell⟩ := hc (by omega)
  have e : xs[k]? = some xs[k] := List.getElem?_eq_getElem (by omega)
  exact ⟨b, off, xs[k], hA, e, hcell k _ e⟩
theorem Strs.below {w w' : World} {A : Option Addr} {n : Nat} {xs : List ByteArray} (h : Strs w A n xs) (hb : Below w.heap.size w w') : Strs w' A n xs := by
  obtain ⟨hl, hm, hc⟩ := h
  refine ⟨hl, hm, fun h0 => ?_⟩
  obtain ⟨b, off, cs, hA, hh, hcell⟩ := hc h0
  exact ⟨b, off, cs, hA, by rw [hb.block b (Array.getElem?_eq_some_iff.1 hh).1]; exact hh, fun j x hx => cell_kept hb (hcell j x hx)⟩
theorem Strs.keep {w w' : World} {A : Option Addr} {n B e s m : Nat} {xs : List ByteArray} {v : Value} {ys : List Value} (h : Strs w A n xs) (ho : w.ownsRow B e s v m ys) (hg : w.grownBy w' v.ownBlock) (he : e ≠ 9) : Strs w' A n xs := by
  obtain ⟨hl, hm, hc⟩ := h
  refine ⟨hl, hm, fun h0 => ?_⟩
  obtain ⟨b, off, cs, hA, hh, hcell⟩ := hc h0
  have hne : v.ownBlock ≠ some b := by
    rcases ho.2 with ⟨hv, _⟩ | ⟨g1, cap, cur, hv, hb, hg1, _⟩
    · rw [hv]; simp [Value.ownBlock]
    · rw [hv]
      intro e1
      simp only [Value.ownBlock, Option.some.injEq] at e1
      subst e1
      rw [hh] at hg1
      injection hg1 with hg1
      injection hg1 with _ h2 _
      exact he h2.symm
  exact ⟨b, off, cs, hA, by rw [hg.block b (Array.getElem?_eq_some_iff.1 hh).1 (fun e => hne e.symm)]; exact hh, fun j x hx => hg.cell (hcell j x hx) (fun e => hne e.symm)⟩
theorem Strs.of_own {w : World} {base n c : Nat} {A : Option Addr} {xs : List ByteArray} (h : w.ownsRow base 9 1 (.slice A n c) n (xs.map .string)) (hl : xs.length = n) (hm : n ≤ 1000000000000) : Strs w A n xs := by
  refine ⟨hl, hm, fun h0 => ?_⟩
  obtain ⟨g, cap, cur, hv, hh⟩ : ∃ g cap cur, Value.slice A n c = .slice (some ⟨g, 0, none⟩) n cap ∧ w.heap[g]? = some (.cells cur 9 (0, 0)) := by
    rcases h.2 with ⟨_, h1⟩ | ⟨g, cap, cur, hv, _, hh, _⟩
    · omega
    · exact ⟨g, cap, cur, hv, hh⟩
  injection hv with hv1 _ hv2
  subst hv1 hv2
  refine ⟨g, 0, cur, rfl, hh, fun j x hx => ?_⟩
  have hj : j < n := by rw [← hl]; exact (List.getElem?_eq_some_iff.1 hx).1
  rw [Nat.zero_add, h.cellAt j (by omega), List.getElem?_map, hx]; rfl
theorem ext_data (s : ByteArray) (a b : Nat) : (s.extract a b).data.toList = (s.data.toList.drop a).take (b - a) := Lib.extract_data s a b
/-- The pieces that are cut so far. -/
theorem spl_hit {c : UInt8} {l : List UInt8} {P : List (List UInt8)} {f k : Nat} (h : spl c l = P ++ spl c (l.drop f)) (hf : f ≤ k) (hk : l[k]? = some c) (hn : c ∉ (l.drop f).take (k - f)) :
    spl c l = (P ++ [(l.drop f).take (k - f)]) ++ spl c (l.drop (k + 1)) := by
  have hkl : k < l.length := (List.getElem?_eq_some_iff.1 hk).1
  have e : l.drop f = (l.drop f).take (k - f) ++ c :: l.drop (k + 1) := by
    have h1 : (l.drop f).drop (k - f) = c :: l.drop (k + 1) := by
      rw [List.drop_drop, show f + (k - f) = k by omega, List.drop_eq_getElem_cons hkl]
      have := (List.getElem?_eq_some_iff.1 hk).2
      rw [this]
    conv => lhs; rw [← List.take_append_drop (k - f) (l.drop f), h1]
  rw [h, List.append_assoc]
  congr 1
  conv => lhs; rw [e]
  rw [spl_app hn]; rfl
theorem spl_miss {c d : UInt8} {l : List UInt8} {f k : Nat} (hf : f ≤ k) (hk : l[k]? = some d) (hd : d ≠ c) (hn : c ∉ (l.drop f).take (k - f)) : c ∉ (l.drop f).take (k + 1 - f) := by
  have e : k + 1 - f = (k - f) + 1 := by omega
  rw [e, List.take_add_one, List.getElem?_drop, show f + (k - f) = k by omega, hk]
  intro h
  rcases List.mem_append.1 h with h | h
  · exact hn h
  · simp at h; exact hd h.symm
theorem spl_end {c : UInt8} {l : List UInt8} {P : List (List UInt8)} {f : Nat} (h : spl c l = P ++ spl c (l.drop f)) (hn : c ∉ (l.drop f).take (l.length - f)) : spl c l = P ++ [l.drop f] := by
  rw [List.take_of_length_le (by simp)] at hn
  rw [h, spl_free hn]
def SplR (c : UInt8) (s : ByteArray) (w : World) (e : Ending) (w' : World) : Prop :=
  ∃ A cc PB, e = .returned (.slice A (spl c s.data.toList).length cc) ∧ Hid (PB.map (·.data.toList) = spl c s.data.toList) ∧ Strs w' A (spl c s.data.toList).length PB ∧ Below w.heap.size w w'
end Go.Proofs.YtknppcgoooaaaaaGreatDoor
