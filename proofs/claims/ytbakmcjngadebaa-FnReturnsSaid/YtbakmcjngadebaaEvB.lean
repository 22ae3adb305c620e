/-
  Events under way in memory: appended one by one, each with its own row of pressures.
-/
import Derived.Test.YtbakmcjngadebaaDrawW
import Derived.Test.YtbakmcjngadebaaEvW
import Derived.Test.YtbakmcjngadebaaRowsB
namespace Go.Proofs.Ytbakmcjngadebaa
open Go.ChangeShapes Go.WideShapes Go.ChangeAt Go.RowKit Go.Deep
set_option linter.unusedVariables false

def i64b (x : Int) : Prop := -9223372036854775808 ≤ x ∧ x ≤ 9223372036854775807
/-- Events under way: their cells, and each row of pressures in memory of its own kind. -/
def EvB (w : World) (B : Nat) (o : Value) (j : Nat) (es : List Ev) : Prop :=
  ∃ cs : List Value, w.ownsRow B 68 2 o j cs ∧ es.length = j ∧
    ∀ i, i < j → ∃ P m d, cs[i * 2]? = some (.int .i64 (yAt es i)) ∧ cs[i * 2 + 1]? = some (.slice P m d) ∧ i64b (yAt es i) ∧ (∀ x ∈ pAt es i, i64b x) ∧
      w.ownsRow B 2 1 (.slice P m d) m ((pAt es i).map (.int .i64))
theorem EvB.nil {w : World} {B : Nat} {o : Value} (h : w.ownsRow B 68 2 o 0 []) : EvB w B o 0 [] := ⟨[], h, rfl, fun i hi => absurd hi (by omega)⟩
theorem EvB.below {w w' : World} {B j : Nat} {o : Value} {es : List Ev} (h : EvB w B o j es) (hb : Below w.heap.size w w') : EvB w' B o j es := by
  obtain ⟨cs, h1, h2, h3⟩ := h
  refine ⟨cs, own_below h1 hb, h2, fun i hi => ?_⟩
  obtain ⟨P, m, d, a1, a2, a3, a4, a5⟩ := h3 i hi
  exact ⟨P, m, d, a1, a2, a3, a4, own_below a5 hb⟩
theorem EvB.src {w w' : World} {B j q : Nat} {o : Value} {es : List Ev} (h : EvB w B o j es) (hg : w.grownBy w' (some q)) (hq : q < B) : EvB w' B o j es := by
  obtain ⟨cs, h1, h2, h3⟩ := h
  refine ⟨cs, h1.kept hg (.inr fun e => by have := own_blk h1 _ e; omega), h2, fun i hi => ?_⟩
  obtain ⟨P, m, d, a1, a2, a3, a4, a5⟩ := h3 i hi
  exact ⟨P, m, d, a1, a2, a3, a4, a5.kept hg (.inr fun e => by have := own_blk a5 _ e; omega)⟩
/-- Rows of two kinds never share a block. -/
theorem own_ne' {w : World} {B B' e e' s s' n m : Nat} {v v' : Value} {xs ys : List Value} (h : w.ownsRow B e s v n xs) (h' : w.ownsRow B' e' s' v' m ys) (he : e ≠ e') : v'.ownBlock = none ∨ v'.ownBlock ≠ v.ownBlock := by
  rcases h'.2 with ⟨hv, _⟩ | ⟨g, cap, cur, hv, hb, hg, rest⟩
  · left; rw [hv]; rfl
  · right
    have := own_ne h (by rw [hv] at h'; exact h') he
    rw [hv]
    intro e1
    exact this e1.symm
/-- One event appended. -/
theorem EvB.app {w w2 : World} {B j m d : Nat} {o v' : Value} {es : List Ev} {cs : List Value} {y : Int} {ps : List Int} {P : Option Addr} (h1 : w.ownsRow B 68 2 o j cs) (hl : es.length = j)
    (h3 : ∀ i, i < j → ∃ P m d, cs[i * 2]? = some (.int .i64 (yAt es i)) ∧ cs[i * 2 + 1]? = some (.slice P m d) ∧ i64b (yAt es i) ∧ (∀ x ∈ pAt es i, i64b x) ∧ w.ownsRow B 2 1 (.slice P m d) m ((pAt es i).map (.int .i64)))
    (hg : w.grownBy w2 o.ownBlock) (hy : i64b y) (hp : ∀ x ∈ ps, i64b x) (hr : w.ownsRow B 2 1 (.slice P m d) m (ps.map (.int .i64)))
    (ho : w2.ownsRow B 68 2 v' (j + 1) (cs ++ [.int .i64 y, .slice P m d])) : EvB w2 B v' (j + 1) (es ++ [(y, ps)]) := by
  have hcl : cs.length = j * 2 := h1.1
  refine ⟨_, ho, by simp [hl], fun i hi => ?_⟩
  by_cases e : i = j
  · subst e
    have e1 : yAt (es ++ [(y, ps)]) i = y := by simp [yAt, ← hl]
    have e2 : pAt (es ++ [(y, ps)]) i = ps := by simp [pAt, ← hl]
    rw [e1, e2]
    exact ⟨P, m, d, by rw [List.getElem?_append_right (by omega), hcl]; simp, by rw [List.getElem?_append_right (by omega), hcl, show i * 2 + 1 - i * 2 = 1 by omega]; rfl, hy, hp, hr.kept hg (own_ne' h1 hr (by decide))⟩
  · have hij : i < es.length := by omega
    have e1 : yAt (es ++ [(y, ps)]) i = yAt es i := by simp [yAt, List.getElem?_append_left hij]
    have e2 : pAt (es ++ [(y, ps)]) i = pAt es i := by simp [pAt, List.getElem?_append_left hij]
    obtain ⟨P', m', d', a1, a2, a3, a4, a5⟩ := h3 i (by omega)
    rw [e1, e2]
    exact ⟨P', m', d', by rw [List.getElem?_append_left (by omega)]; exact a1, by rw [List.getElem?_append_left (by omega)]; exact a2, a3, a4, a5.kept hg (own_ne' h1 a5 (by decide))⟩
/-- A single event. -/
theorem EvB.single {w : World} {B m d : Nat} {o : Value} {y : Int} {ps : List Int} {P : Option Addr} (ho : w.ownsRow B 68 2 o 1 [.int .i64 y, .slice P m d]) (hy : i64b y) (hp : ∀ x ∈ ps, i64b x) (hr : w.ownsRow B 2 1 (.slice P m d) m (ps.map (.int .i64))) : EvB w B o 1 [(y, ps)] :=
  ⟨_, ho, rfl, fun i hi => by
    obtain rfl : i = 0 := by omega
    exact ⟨P, m, d, rfl, rfl, hy, hp, hr⟩⟩
theorem EvB.evs {w : World} {B n c : Nat} {A : Option Addr} {es : List Ev} (h : EvB w B (.slice A n c) n es) (hn : n ≤ 1048576) : Evs w A n es := by
  obtain ⟨cs, h1, h2, h3⟩ := h
  refine ⟨h2, by omega, fun h0 => ?_⟩
  rcases h1.2 with ⟨hv, h00⟩ | ⟨g, cap, cur, hv, hb, hg, hnc, hcm, hs, ht⟩
  · omega
  · simp only [Value.slice.injEq] at hv
    obtain ⟨rfl, _, rfl⟩ := hv
    refine ⟨g, 0, rfl, fun k hk => ?_⟩
    obtain ⟨P, m, d, a1, a2, a3, a4, a5⟩ := h3 k hk
    have hcell : ∀ i v, cs[i]? = some v → i < n * 2 → w.cell? ⟨g, i, none⟩ = some v := by
      intro i v hi hlt
      rw [cell_of_row w g i cur 68 (0, 0) hg]
      rw [← ht, List.getElem?_take, if_pos hlt] at hi
      simpa using hi
    have e0 : es.getD k (0, []) = (yAt es k, pAt es k) := rfl
    rw [e0]
    refine ⟨P, m, d, by rw [Nat.zero_add]; exact hcell _ _ a1 (by omega), by rw [Nat.zero_add]; exact hcell _ _ a2 (by omega), a3, Ints.of_own a5 a4⟩
end Go.Proofs.Ytbakmcjngadebaa
