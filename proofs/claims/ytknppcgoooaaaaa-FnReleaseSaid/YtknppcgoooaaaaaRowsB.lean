/-
  A slice of slices of numbers under way: rows appended one by one.
-/
import Derived.Test.YtknppcgoooaaaaaRowsO
namespace Go.Proofs.Ytknppcgoooaaaaa
open Go.ChangeShapes Go.WideShapes Go.ChangeAt Go.RowKit Go.Deep
set_option linter.unusedVariables false

theorem info_rows : (Try.prog.info? 24).map (fun i => (i.zero, i.size, i.bytes)) = some (some (.slice none 0 0), 1, 24) := by kernel_rfl
/-- Rows that differ in their elements' type lie in different blocks. -/
theorem own_ne {w : World} {B B' e e' s s' n m g c : Nat} {v : Value} {xs ys : List Value} (h : w.ownsRow B e s v n xs) (h' : w.ownsRow B' e' s' (.slice (some ⟨g, 0, none⟩) m c) m ys) (he : e ≠ e') : v.ownBlock ≠ some g := by
  rcases h.2 with ⟨hv, _⟩ | ⟨g1, cap, cur, hv, hb, hg, _⟩
  · rw [hv]; simp [Value.ownBlock]
  · rcases h'.2 with ⟨hv', _⟩ | ⟨g2, cap2, cur2, hv', hb2, hg2, _⟩
    · simp at hv'
    · simp only [Value.slice.injEq, Option.some.injEq, Addr.mk.injEq, and_true, true_and] at hv'
      obtain ⟨rfl, _⟩ := hv'
      rw [hv]
      intro e1
      simp only [Value.ownBlock, Option.some.injEq] at e1
      subst e1
      rw [hg] at hg2
      injection hg2 with hg2
      injection hg2 with _ e2 _
      exact he e2
def RowsB (lo : Nat) (w : World) (o : Value) (j : Nat) (rs : Rws) : Prop :=
  ∃ (cs : List Value) (f d : Nat → Nat), w.ownsRow lo 24 1 o j cs ∧ rs.length = j ∧
    ∀ i, i < j → cs[i]? = some (.slice (some ⟨f i, 0, none⟩) (rAt rs i).length (d i)) ∧ (∀ t, t < i → f t ≠ f i) ∧
      w.ownsRow lo 2 1 (.slice (some ⟨f i, 0, none⟩) (rAt rs i).length (d i)) (rAt rs i).length ((rAt rs i).map (.int .i64))
theorem RowsB.nil {lo : Nat} {w : World} {o : Value} (h : w.ownsRow lo 24 1 o 0 []) : RowsB lo w o 0 [] := ⟨[], fun _ => 0, fun _ => 0, h, rfl, fun i hi => absurd hi (by omega)⟩
theorem RowsB.below {lo : Nat} {w w' : World} {o : Value} {j : Nat} {rs : Rws} (h : RowsB lo w o j rs) (hb : Below w.heap.size w w') : RowsB lo w' o j rs := by
  obtain ⟨cs, f, d, h1, h2, h3⟩ := h
  exact ⟨cs, f, d, own_below h1 hb, h2, fun i hi => ⟨(h3 i hi).1, (h3 i hi).2.1, own_below (h3 i hi).2.2 hb⟩⟩
theorem RowsB.base {lo lo' : Nat} {w : World} {o : Value} {j : Nat} {rs : Rws} (h : RowsB lo w o j rs) (hl : lo' ≤ lo) : RowsB lo' w o j rs := by
  obtain ⟨cs, f, d, h1, h2, h3⟩ := h
  exact ⟨cs, f, d, own_base h1 hl, h2, fun i hi => ⟨(h3 i hi).1, (h3 i hi).2.1, own_base (h3 i hi).2.2 hl⟩⟩
theorem RowsB.drewN {lo : Nat} {w : World} {o : Value} {j : Nat} {rs : Rws} (h : RowsB lo w o j rs) (k : Nat) : RowsB lo (w.drewN k) o j rs := h
theorem rAt_lt {rs : Rws} {r : List Int} {i : Nat} (h : i < rs.length) : rAt (rs ++ [r]) i = rAt rs i := by
  simp [rAt, List.getElem?_append_left h]
theorem rAt_last {rs : Rws} {r : List Int} : rAt (rs ++ [r]) rs.length = r := by simp [rAt]
/-- One row appended: it lies in a new block of its own, its slice behind the others. -/
theorem RowsB.app {lo : Nat} {w w1 w2 : World} {o v' : Value} {j q c : Nat} {rs : Rws} {r : List Int} {cs : List Value} {f d : Nat → Nat} (h1 : w.ownsRow lo 24 1 o j cs) (hl : rs.length = j)
    (h3 : ∀ i, i < j → cs[i]? = some (.slice (some ⟨f i, 0, none⟩) (rAt rs i).length (d i)) ∧ (∀ t, t < i → f t ≠ f i) ∧ w.ownsRow lo 2 1 (.slice (some ⟨f i, 0, none⟩) (rAt rs i).length (d i)) (rAt rs i).length ((rAt rs i).map (.int .i64)))
    (hb : Below w.heap.size w w1) (hq : w.heap.size ≤ q) (hr : w1.ownsRow lo 2 1 (.slice (some ⟨q, 0, none⟩) r.length c) r.length (r.map (.int .i64)))
    (ho : w2.ownsRow lo 24 1 v' (j + 1) (cs ++ [.slice (some ⟨q, 0, none⟩) r.length c])) (hg : w1.grownBy w2 o.ownBlock) : RowsB lo w2 v' (j + 1) (rs ++ [r]) := by
  have hcl : cs.length = j := by have := h1.1; simpa using this
  refine ⟨_, fun i => if i = j then q else f i, fun i => if i = j then c else d i, ho, by simp [hl], fun i hi => ?_⟩
  by_cases e : i = j
  · subst e
    simp only [if_true]
    have er : rAt (rs ++ [r]) i = r := by rw [← hl]; exact rAt_last
    rw [er]
    refine ⟨by rw [List.getElem?_append_right (by omega), hcl]; simp, fun t ht => ?_, hr.kept hg (.inr (own_ne (own_below h1 hb) hr (by decide)).symm)⟩
    rw [if_neg (by omega)]
    have := own_lt (h3 t ht).2.2
    omega
  · have hij : i < j := by omega
    obtain ⟨b1, b2, b3⟩ := h3 i hij
    simp only [if_neg e]
    rw [rAt_lt (by omega)]
    refine ⟨by rw [List.getElem?_append_left (by omega)]; exact b1, fun t ht => ?_, (own_below b3 hb).kept hg (.inr (own_ne (own_below h1 hb) (own_below b3 hb) (by decide)).symm)⟩
    rw [if_neg (by omega)]
    exact b2 t ht
/-- What is handed back. -/
theorem RowsB.fin {lo hi : Nat} {w : World} {A : Option Addr} {n c : Nat} {rs : Rws} (h : RowsB lo w (.slice A n c) n rs) (hn : n ≤ 1048576) (hh : hi = w.heap.size) : RowsO lo hi w A n c rs := by
  obtain ⟨cs, f, d, h1, h2, h3⟩ := h
  subst hh
  refine ⟨h2, hn, fun h0 => ?_⟩
  rcases h1.2 with ⟨hv, h00⟩ | ⟨g, cap, cur, hv, hb, hg, hnc, hcm, hs, ht⟩
  · omega
  · simp only [Value.slice.injEq] at hv
    obtain ⟨rfl, _, rfl⟩ := hv
    obtain ⟨h', k1, k2, k3, k4, hrow, hcells⟩ := own_to_rowIs h1
    rw [Nat.mul_one] at hrow
    refine ⟨g, f, d, h', rfl, k1, hrow.lt, k2, hrow, fun i hi => ?_⟩
    obtain ⟨b1, b2, b3⟩ := h3 i hi
    have hc := hcells i (by omega)
    rw [b1] at hc
    injection hc with hc
    refine ⟨hc.symm, own_lt b3, fun e => ?_, b2, b3⟩
    have := own_ne h1 b3 (by decide)
    rw [← e] at this
    exact this rfl
/-- A result: slices of numbers in memory of the call's own, and a code. -/
def ResR (w : World) (rs : Rws) (code : Int) (e : Ending) (w' : World) : Prop :=
  ∃ A c, e = .returned (.tuple #[.slice A rs.length c, .int .i64 code]) ∧ RowsO w.heap.size w'.heap.size w' A rs.length c rs ∧ Below w.heap.size w w'
theorem ResR.nil {w w' : World} {code : Int} (hb : Below w.heap.size w w') : ResR w [] code (.returned (.tuple #[.slice none 0 0, .int .i64 code])) w' :=
  ⟨none, 0, rfl, ⟨rfl, by simp, fun h => absurd h (by simp)⟩, hb⟩
end Go.Proofs.Ytknppcgoooaaaaa
