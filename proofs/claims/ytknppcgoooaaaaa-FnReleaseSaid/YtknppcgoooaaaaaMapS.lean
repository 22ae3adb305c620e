/-
  A map of numbers to truth values that the call makes, used as a set.
-/
import Derived.Maps.OwnOps
import Derived.Maps.Views
import Derived.Test.YtknppcgoooaaaaaGridH
namespace Go.Proofs.Ytknppcgoooaaaaa
open Go.ChangeShapes Go.WideShapes Go.ChangeAt Go.RowKit Go.Deep Go.Maps
set_option linter.unusedVariables false

theorem lawI : Keyed Try.prog 2 := int_keyed Try.underlying2
theorem zeroB (w : World) : (zeroValue 4).run Try.prog w = .ok (.bool false) w := by kernel_rfl
theorem plainElem_bool_inv {H : Type} {P : Program} {e : TypeId} (he : P.underlying e = some .bool) {v : Value} {z : DataW H × List MemPlace} (h : plainElem P e v = some z) : ∃ x, v = .bool x ∧ z = (.lit (.bool x), []) := by
  unfold plainElem at h
  rw [he] at h
  split at h <;> simp_all
theorem keyI {x : Int} (h : -9223372036854775808 ≤ x ∧ x ≤ 9223372036854775807) : keyOf Try.prog 2 (.int .i64 x) = some (.int .i64 x) :=
  keyOf_int_mk Try.underlying2 (WalkArith.wf_i64 (by omega))
/-- Block b is a map that says true of the numbers of s and of no others. -/
def SeenM (w : World) (b : Nat) (s : List Int) : Prop :=
  ∃ (n : Nat) (D : DataW Unit), w.ownsMap Try.prog 2 (plainElem Try.prog 4) b n D ∧ n ≤ s.length ∧ IsMap D ∧ ∀ x : Int, D.atKey (.int .i64 x) (.lit (.bool false)) = .lit (.bool (hasB s x))
theorem SeenM.made (w : World) : SeenM (w.alloc (.map #[] 0)) w.heap.size [] := ⟨0, _, World.ownsMap_made w _ _ _, Nat.le_refl _, isMap_empty, fun x => by simp [DataW.atKey, hasB]⟩
theorem SeenM.lt {w : World} {b : Nat} {s : List Int} (h : SeenM w b s) : b < w.heap.size := by
  obtain ⟨n, D, h1, _⟩ := h
  exact h1.lt
theorem SeenM.kept {w w' : World} {b : Nat} {s : List Int} {row : Option Nat} (h : SeenM w b s) (hg : w.grownBy w' row) (hne : some b ≠ row) : SeenM w' b s := by
  obtain ⟨n, D, h1, h2⟩ := h
  exact ⟨n, D, h1.kept hg hne, h2⟩
theorem SeenM.below {w w' : World} {b : Nat} {s : List Int} (h : SeenM w b s) (hb : Below w.heap.size w w') : SeenM w' b s := by
  have hlt := h.lt
  obtain ⟨n, D, ⟨es, clock, h1, h2⟩, h3⟩ := h
  exact ⟨n, D, ⟨es, clock, (hb.block b hlt).trans h1, h2⟩, h3⟩
theorem SeenM.drewN {w : World} {b : Nat} {s : List Int} (h : SeenM w b s) (k : Nat) : SeenM (w.drewN k) b s := h
theorem SeenM.same {w : World} {b : Nat} {s s' : List Int} (h : SeenM w b s) (hl : s.length ≤ s'.length) (hm : ∀ x, hasB s x = hasB s' x) : SeenM w b s' := by
  obtain ⟨n, D, h1, h2, h3, h4⟩ := h
  exact ⟨n, D, h1, by omega, h3, fun x => by rw [h4, hm]⟩
/-- A number looked up. -/
theorem wp_look {w : World} {ops : Array Oper} {rest : List Oper} {o : Oper} {a : Act} {Q : Exit → Act → World → Prop} (hg : o.guard = none) (m x : Operand) (hop : o.op = Op.lookup 69 m x false)
    (b : Nat) (s : List Int) (hm : a.eval m = .map (some b)) (hs : SeenM w b s) (c : Int) (hx : a.eval x = .int .i64 c) (hc : -9223372036854775808 ≤ c ∧ c ≤ 9223372036854775807)
    (hK : wpList Try.prog ops Q rest (a.put o.dst (.bool (hasB s c))) w) : wpList Try.prog ops Q (o :: rest) a w := by
  refine wpList_plain hg fun K' hK' => ?_
  obtain ⟨n, D, h1, h2, h3, h4⟩ := hs
  obtain ⟨v, ps, hrun, hv⟩ := h1.lookup lawI Try.underlying69 (zeroB w) (plainElem_bool Try.underlying4 false) (keyI hc)
  obtain ⟨y, rfl, hy⟩ := plainElem_bool_inv Try.underlying4 hv
  simp only [Prod.mk.injEq] at hy
  have e := hy.1
  rw [h4] at e
  injection e with e
  injection e with e
  subst e
  unfold Oper.wp
  simp [execOp, hop, hm, hx, hrun, Result.andThen]
  exact hK' _ _ hK
/-- A number put in. -/
theorem wp_mark {w : World} {ops : Array Oper} {rest : List Oper} {o : Oper} {a : Act} {Q : Exit → Act → World → Prop} (hg : o.guard = none) (m x : Operand) (hop : o.op = Op.mapUpdate 69 m x (.const (.bool true)))
    (b : Nat) (s : List Int) (hm : a.eval m = .map (some b)) (hs : SeenM w b s) (hl : s.length < 100000) (c : Int) (hx : a.eval x = .int .i64 c) (hc : -9223372036854775808 ≤ c ∧ c ≤ 9223372036854775807)
    (hK : ∀ w', SeenM w' b (s ++ [c]) → w.grownBy w' (some b) → wpList Try.prog ops Q rest (a.put o.dst undef) w') : wpList Try.prog ops Q (o :: rest) a w := by
  obtain ⟨n, D, h1, h2, h3, h4⟩ := hs
  refine wpList_mapUpdate_own w hg m x _ 69 hop 2 4 lawI Try.underlying69 _ b n D hm h1 (by unfold maxLen; omega) _ _ (.int .i64 c) hx rfl (keyI hc) (.lit (.bool true)) [] (plainElem_bool Try.underlying4 true) ?_
  intro w' h5 h6
  refine hK w' ⟨n + 1, _, h5, by simp; omega, h3.put _ _, fun y => ?_⟩ h6
  by_cases e : y = c
  · subst e
    rw [atKey_put_same h3 (by exact trivial)]
    simp [hasB]
  · rw [atKey_put_other (by intro he; injection he with _ he; exact e he), h4]
    have e2 : ¬ c = y := fun h => e h.symm
    congr 2
    simp [hasB, e2]
end Go.Proofs.Ytknppcgoooaaaaa
