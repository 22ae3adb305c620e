/-
  Fixed-point texts, plain: written, stripped and read back.
-/
import Derived.Test.YthkpffmcafdmeaaDoorTxtM
import Derived.Lib.SplitLaws
import Derived.Lib.Replace
import Derived.Lib.TrimByte
namespace Go.Proofs.YthkpffmcafdmeaaDoor
set_option linter.unusedVariables false

/-- Digits, filled up with zeros to one more than the places. -/
def fxD (a p : Nat) : List UInt8 := List.replicate (p + 1 - (Lib.decDigits a).length) 48 ++ Lib.decDigits a
def fxB (a p : Nat) : List UInt8 := (fxD a p).take ((fxD a p).length - p) ++ 46 :: (fxD a p).drop ((fxD a p).length - p)
def fxT (n : Int) (p : Nat) : List UInt8 := if n < 0 then 45 :: fxB n.natAbs p else fxB n.natAbs p
theorem fxD_len (a p : Nat) : p + 1 ≤ (fxD a p).length := by
  unfold fxD; rw [List.length_append, List.length_replicate]; omega
theorem fxD_dig (a p : Nat) : digP (fxD a p) := by
  intro c hc
  rcases List.mem_append.1 hc with h | h
  · rw [(List.mem_replicate.1 h).2]; decide
  · exact (dec_can a).dig c h
theorem drop_zeros (k : Nat) (l : List UInt8) : (List.replicate k 48 ++ l).dropWhile (· == 48) = l.dropWhile (· == 48) := by
  induction k with
  | zero => rfl
  | succ k ih => rw [List.replicate_succ, List.cons_append, List.dropWhile_cons]; simp
theorem trim_D (a p : Nat) : Lib.trimLeftB (fxD a p) 48 = if a = 0 then [] else Lib.decDigits a := by
  unfold Lib.trimLeftB fxD
  rw [drop_zeros]
  by_cases h : a = 0
  · subst h
    rw [if_pos rfl, show Lib.decDigits 0 = [48] by unfold Lib.decDigits; rfl]
    rfl
  · rw [if_neg h]
    have hc := dec_can a
    cases hd : Lib.decDigits a with
    | nil => exact absurd hd hc.ne
    | cons c r =>
      rw [List.dropWhile_cons]
      have hne : (c == 48) = false := by
        rw [beq_eq_false_iff_ne]
        rintro rfl
        have hl := hc.lead (by rw [hd]; rfl)
        rw [hd] at hl
        have hr : r = [] := by cases r with
          | nil => rfl
          | cons _ _ => simp at hl
        have hv := dec_val a
        rw [hd, hr] at hv
        exact h (by rw [← hv]; rfl)
      rw [hne]; rfl
theorem fxB_free (a p : Nat) : (45 : UInt8) ∉ fxB a p := by
  intro h
  unfold fxB at h
  rcases List.mem_append.1 h with h | h
  · have := fxD_dig a p _ (List.mem_of_mem_take h); simp at this
  · rcases List.mem_cons.1 h with h | h
    · simp at h
    · have := fxD_dig a p _ (List.mem_of_mem_drop h); simp at this
theorem fxB_ne (a p : Nat) : fxB a p ≠ [] := by unfold fxB; simp
theorem fxT_ne (n : Int) (p : Nat) : fxT n p ≠ [] := by
  unfold fxT
  split
  · simp
  · exact fxB_ne _ _
theorem pre_B (a p : Nat) : Lib.hasPrefix (fxB a p) [45] = false := by
  cases hb : fxB a p with
  | nil => rfl
  | cons c r =>
    have : c ≠ 45 := fun e => fxB_free a p (by rw [hb, e]; exact List.mem_cons_self ..)
    simp [Lib.hasPrefix, List.isPrefixOf, Ne.symm this]
theorem pre_T (n : Int) (p : Nat) : Lib.hasPrefix (fxT n p) [45] = decide (n < 0) := by
  unfold fxT
  by_cases h : n < 0
  · rw [if_pos h]; simp [Lib.hasPrefix, List.isPrefixOf, h]
  · rw [if_neg h, pre_B]; simp [h]
theorem trim_T (n : Int) (p : Nat) : Lib.trimPrefix (fxT n p) [45] = fxB n.natAbs p := by
  unfold Lib.trimPrefix
  rw [pre_T]
  unfold fxT
  by_cases h : n < 0
  · simp [h]
  · simp [h]
theorem rep_B (a p : Nat) : Lib.replace (fxB a p) [46] [] 1 = fxD a p := by
  have hf : (46 : UInt8) ∉ (fxD a p).take ((fxD a p).length - p) := fun h => by
    have := fxD_dig a p _ (List.mem_of_mem_take h); simp at this
  have hi : Lib.index (fxB a p) [46] = (((fxD a p).take ((fxD a p).length - p)).length : Int) := index_at hf
  have hc : 1 ≤ Lib.count (fxB a p) [46] := by
    rw [Lib.count_one]
    exact List.count_pos_iff.2 (by unfold fxB; simp)
  have hn : Lib.replaceNum (fxB a p) [46] 1 = 1 := by
    unfold Lib.replaceNum
    rw [if_neg (by omega)]; rfl
  unfold Lib.replace
  rw [if_neg (by decide), hn, Lib.replaceK_hit [46] [] 0 (fxB a p) _ hi, Lib.replaceK]
  unfold fxB
  rw [List.take_left', List.drop_append]
  · rw [List.length_take]
    simp only [List.append_nil, List.length_singleton]
    have h1 := fxD_len a p
    rw [Nat.min_eq_left (by omega), List.drop_eq_nil_of_le (by rw [List.length_take]; omega), List.nil_append, show (fxD a p).length - p + 1 - ((fxD a p).length - p) = 0 + 1 by omega, List.drop_succ_cons, List.drop_zero, List.take_append_drop]
  · rfl
end Go.Proofs.YthkpffmcafdmeaaDoor
