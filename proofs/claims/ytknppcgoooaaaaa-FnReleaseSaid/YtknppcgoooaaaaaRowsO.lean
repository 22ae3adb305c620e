/-
  Slices of slices of numbers: read, owned, compared, marked, held.
-/
import Derived.Test.YtknppcgoooaaaaaSl
import Derived.Test.YtknppcgoooaaaaaEvW
namespace Go.Proofs.Ytknppcgoooaaaaa
open Go.ChangeShapes Go.WideShapes Go.ChangeAt Go.RowKit Go.Deep
set_option linter.unusedVariables false

abbrev Rws := List (List Int)
def rAt (rs : Rws) (i : Nat) : List Int := rs.getD i []
def RowsI (w : World) (A : Option Addr) (n : Nat) (rs : Rws) : Prop :=
  rs.length = n ∧ n ≤ 9223372036854775807 ∧ (0 < n → ∃ b off, A = some ⟨b, off, none⟩ ∧ ∀ k, k < n → ∃ P m d, w.cell? ⟨b, off + k, none⟩ = some (.slice P m d) ∧ Ints w P m (rAt rs k))
theorem RowsI.below {w w' : World} {A : Option Addr} {n : Nat} {rs : Rws} (h : RowsI w A n rs) (hb : Below w.heap.size w w') : RowsI w' A n rs := by
  obtain ⟨hl, hn, hc⟩ := h
  refine ⟨hl, hn, fun h0 => ?_⟩
  obtain ⟨b, off, hA, hcell⟩ := hc h0
  refine ⟨b, off, hA, fun k hk => ?_⟩
  obtain ⟨P, m, d, h1, h2⟩ := hcell k hk
  exact ⟨P, m, d, cell_kept hb h1, h2.below hb⟩
theorem RowsI.at_ {w : World} {A : Option Addr} {n : Nat} {rs : Rws} (h : RowsI w A n rs) {k : Nat} (hk : k < n) :
    ∃ b off P m d, A = some ⟨b, off, none⟩ ∧ w.cell? ⟨b, off + k, none⟩ = some (.slice P m d) ∧ Ints w P m (rAt rs k) := by
  obtain ⟨b, off, hA, hc⟩ := h.2.2 (by omega)
  obtain ⟨P, m, d, h1, h2⟩ := hc k hk
  exact ⟨b, off, P, m, d, hA, h1, h2⟩
/-- Slices of numbers in memory of the call's own, from block lo up to hi. -/
def RowsO (lo hi : Nat) (w : World) (A : Option Addr) (n c : Nat) (rs : Rws) : Prop :=
  rs.length = n ∧ n ≤ 1048576 ∧ (0 < n → ∃ (g : Nat) (f d : Nat → Nat) (h : Nat → Value), A = some ⟨g, 0, none⟩ ∧ lo ≤ g ∧ g < hi ∧ n ≤ c ∧ w.rowIs g 24 c h ∧
    ∀ i, i < n → h i = .slice (some ⟨f i, 0, none⟩) (rAt rs i).length (d i) ∧ f i < hi ∧ g ≠ f i ∧ (∀ j, j < i → f j ≠ f i) ∧
      w.ownsRow lo 2 1 (.slice (some ⟨f i, 0, none⟩) (rAt rs i).length (d i)) (rAt rs i).length ((rAt rs i).map (.int .i64)))
theorem RowsO.below {lo hi : Nat} {w w' : World} {A : Option Addr} {n c : Nat} {rs : Rws} (h : RowsO lo hi w A n c rs) (hb : Below w.heap.size w w') : RowsO lo hi w' A n c rs := by
  refine ⟨h.1, h.2.1, fun h0 => ?_⟩
  obtain ⟨g, f, d, hh, a1, a2, a3, a4, a5, a6⟩ := h.2.2 h0
  refine ⟨g, f, d, hh, a1, a2, a3, a4, a5.of_block (hb.block _ a5.lt), fun i hi => ?_⟩
  obtain ⟨b1, b2, b3, b4, b5⟩ := a6 i hi
  exact ⟨b1, b2, b3, b4, own_below b5 hb⟩
theorem RowsO.win {lo hi lo2 hi2 : Nat} {w w' : World} {A : Option Addr} {n c : Nat} {rs : Rws} (h : RowsO lo hi w A n c rs) (hw : Win lo2 hi2 w w') (hr : hi ≤ lo2 ∨ hi2 ≤ lo) : RowsO lo hi w' A n c rs := by
  refine ⟨h.1, h.2.1, fun h0 => ?_⟩
  obtain ⟨g, f, d, hh, a1, a2, a3, a4, a5, a6⟩ := h.2.2 h0
  refine ⟨g, f, d, hh, a1, a2, a3, a4, a5.of_block (hw.2.2.2.2 _ a5.lt (by omega)), fun i hi => ?_⟩
  obtain ⟨b1, b2, b3, b4, b5⟩ := a6 i hi
  have hlo : lo ≤ f i := by
    rcases b5.2 with ⟨hv, _⟩ | ⟨g', cap, cur, hv, hb, _⟩
    · simp at hv
    · simp only [Value.slice.injEq, Option.some.injEq, Addr.mk.injEq, and_true, true_and] at hv
      omega
  exact ⟨b1, b2, b3, b4, own_win b5 hw (by omega)⟩
theorem RowsO.rows {lo hi : Nat} {w : World} {A : Option Addr} {n c : Nat} {rs : Rws} (h : RowsO lo hi w A n c rs) (hb : ∀ r ∈ rs, ∀ x ∈ r, -9223372036854775808 ≤ x ∧ x ≤ 9223372036854775807) : RowsI w A n rs := by
  refine ⟨h.1, by have := h.2.1; omega, fun h0 => ?_⟩
  obtain ⟨g, f, d, hh, a1, a2, a3, a4, a5, a6⟩ := h.2.2 h0
  refine ⟨g, 0, a1, fun k hk => ?_⟩
  obtain ⟨b1, b2, b3, b4, b5⟩ := a6 k hk
  have hc := a5.cell (i := k) (by omega)
  rw [b1] at hc
  refine ⟨_, _, _, by rw [Nat.zero_add]; exact hc, Ints.of_own b5 ?_⟩
  have hk' : k < rs.length := by rw [h.1]; exact hk
  have e : rAt rs k = rs[k] := by rw [rAt, List.getD_eq_getElem?_getD, List.getElem?_eq_getElem hk']; rfl
  rw [e]
  exact hb _ (List.getElem_mem hk')
/-- How many numbers the first rows hold. -/
def totR (rs : Rws) (k : Nat) : Nat := ((rs.take k).map List.length).sum
theorem totR_succ {rs : Rws} {k : Nat} (h : k < rs.length) : totR rs (k + 1) = totR rs k + (rAt rs k).length := by
  unfold totR rAt
  rw [List.take_add_one, List.getElem?_eq_getElem h, List.map_append, List.sum_append, List.getD_eq_getElem?_getD, List.getElem?_eq_getElem h]
  simp
theorem totR_le (rs : Rws) {j k : Nat} (h : j ≤ k) : totR rs j ≤ totR rs k := by
  induction k with
  | zero => obtain rfl : j = 0 := by omega
            exact Nat.le_refl _
  | succ k ih =>
    by_cases e : j = k + 1
    · subst e; exact Nat.le_refl _
    · have h1 := ih (by omega)
      by_cases hk : k < rs.length
      · rw [totR_succ hk]; omega
      · have : totR rs (k + 1) = totR rs k := by
          unfold totR
          rw [List.take_of_length_le (by omega), List.take_of_length_le (by omega)]
        omega
/-- The rows that marks leave. -/
def markR (k : Int) (rs : Rws) : Rws := (List.range rs.length).map fun i => marks (k + (totR rs i : Nat)) (rAt rs i).length
theorem markR_len (k : Int) (rs : Rws) : (markR k rs).length = rs.length := by simp [markR]
theorem markR_at {k : Int} {rs : Rws} {i : Nat} (h : i < rs.length) : rAt (markR k rs) i = marks (k + (totR rs i : Nat)) (rAt rs i).length := by
  unfold markR
  rw [rAt, List.getD_eq_getElem?_getD, List.getElem?_map, List.getElem?_range h]
  rfl
theorem markR_rl {k : Int} {rs : Rws} {i : Nat} (h : i < rs.length) : (rAt (markR k rs) i).length = (rAt rs i).length := by rw [markR_at h, marks_length]
theorem markR_bd {k : Int} {rs : Rws} (h1 : 0 ≤ k) (h2 : k ≤ 1000000000) (h3 : totR rs rs.length ≤ 1000000000) (h4 : ∀ i, i < rs.length → (rAt rs i).length ≤ 1000000000) : ∀ r ∈ markR k rs, ∀ x ∈ r, -9223372036854775808 ≤ x ∧ x ≤ 9223372036854775807 := by
  intro r hr
  simp [markR] at hr
  obtain ⟨i, hi, rfl⟩ := hr
  have := totR_le rs (Nat.le_of_lt hi)
  have := h4 i hi
  exact marks_bd (by omega) (by omega) (by omega)
/-- Rows of which the first have been marked. -/
def RowsM (lo hi : Nat) (w : World) (g n c : Nat) (k : Int) (rs : Rws) (j : Nat) : Prop :=
  ∃ (f d : Nat → Nat) (h : Nat → Value), lo ≤ g ∧ g < hi ∧ n ≤ c ∧ w.rowIs g 24 c h ∧
    ∀ i, i < n → h i = .slice (some ⟨f i, 0, none⟩) (rAt rs i).length (d i) ∧ f i < hi ∧ g ≠ f i ∧ (∀ t, t < i → f t ≠ f i) ∧
      w.ownsRow lo 2 1 (.slice (some ⟨f i, 0, none⟩) (rAt rs i).length (d i)) (rAt rs i).length ((if i < j then marks (k + (totR rs i : Nat)) (rAt rs i).length else rAt rs i).map (.int .i64))
theorem own_base_le {w : World} {base e size n g c : Nat} {xs : List Value} (h : w.ownsRow base e size (.slice (some ⟨g, 0, none⟩) n c) n xs) : base ≤ g := by
  rcases h.2 with ⟨hv, _⟩ | ⟨g', cap, cur, hv, hb, _⟩
  · simp at hv
  · simp only [Value.slice.injEq, Option.some.injEq, Addr.mk.injEq, and_true, true_and] at hv
    omega
theorem RowsM.row {lo hi : Nat} {w : World} {g n c : Nat} {k : Int} {rs : Rws} {j : Nat} (h : RowsM lo hi w g n c k rs j) (hj : j < n) :
    ∃ q d, w.cell? ⟨g, j, none⟩ = some (.slice (some ⟨q, 0, none⟩) (rAt rs j).length d) ∧ lo ≤ q ∧ q < hi ∧ w.ownsRow lo 2 1 (.slice (some ⟨q, 0, none⟩) (rAt rs j).length d) (rAt rs j).length ((rAt rs j).map (.int .i64)) ∧
      ∀ w', w.grownBy w' (some q) → w'.ownsRow lo 2 1 (.slice (some ⟨q, 0, none⟩) (rAt rs j).length d) (rAt rs j).length ((marks (k + (totR rs j : Nat)) (rAt rs j).length).map (.int .i64)) → RowsM lo hi w' g n c k rs (j + 1) := by
  obtain ⟨f, d, h', a1, a2, a3, a4, a5⟩ := h
  obtain ⟨b1, b2, b3, b4, b5⟩ := a5 j hj
  rw [if_neg (by omega)] at b5
  have hc := a4.cell (i := j) (by omega)
  rw [b1] at hc
  refine ⟨f j, d j, hc, own_base_le b5, b2, b5, fun w' hg ho => ⟨f, d, h', a1, a2, a3, a4.of_block (hg.block g a4.lt (by simp; exact b3)), fun i hin => ?_⟩⟩
  obtain ⟨c1, c2, c3, c4, c5⟩ := a5 i hin
  refine ⟨c1, c2, c3, c4, ?_⟩
  by_cases e : i = j
  · subst e
    rw [if_pos (by omega)]
    exact ho
  · have hif : (if i < j + 1 then marks (k + (totR rs i : Nat)) (rAt rs i).length else rAt rs i) = (if i < j then marks (k + (totR rs i : Nat)) (rAt rs i).length else rAt rs i) := by
      by_cases e2 : i < j
      · rw [if_pos e2, if_pos (by omega)]
      · rw [if_neg e2, if_neg (by omega)]
    rw [hif]
    refine c5.kept hg (.inr ?_)
    have : f i ≠ f j := by
      rcases Nat.lt_or_gt_of_ne e with h | h
      · exact b4 i h
      · exact fun e => c4 j h e.symm
    simpa [Value.ownBlock] using this
end Go.Proofs.Ytknppcgoooaaaaa
