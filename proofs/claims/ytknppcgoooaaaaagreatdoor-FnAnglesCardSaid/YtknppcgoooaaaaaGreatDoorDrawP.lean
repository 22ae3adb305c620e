/-
  Draws of paths, distances, factors.
-/
import Derived.Test.YtknppcgoooaaaaaGreatDoorSrcP
import Derived.Test.YtknppcgoooaaaaaGreatDoorPathW
namespace Go.Proofs.YtknppcgoooaaaaaGreatDoor
open Go.ChangeShapes Go.WideShapes Go.ChangeAt Go.RowKit Go.Deep
set_option linter.unusedVariables false

theorem l00Max_p (a b : Int) (w : World) : Calls Tryz.prog 86 #[.int .i64 a, .int .i64 b] w fun e w' => e = .returned (.int .i64 (max a b)) ∧ w = w' := by
  by_cases h : b < a
  · go_enter Tryz.func86, Tryz.ntmps86
    go_wp2
    go_ret
    exact ⟨ret_int (by omega), rfl⟩
  · go_enter Tryz.func86, Tryz.ntmps86
    go_wp2
    all_goals go_ret
    all_goals exact ⟨ret_int (by omega), rfl⟩
theorem l00Min_p (a b : Int) (w : World) : Calls Tryz.prog 87 #[.int .i64 a, .int .i64 b] w fun e w' => e = .returned (.int .i64 (min a b)) ∧ w = w' := by
  by_cases h : a < b
  · go_enter Tryz.func87, Tryz.ntmps87
    go_wp2
    go_ret
    exact ⟨ret_int (by omega), rfl⟩
  · go_enter Tryz.func87, Tryz.ntmps87
    go_wp2
    all_goals go_ret
    all_goals exact ⟨ret_int (by omega), rfl⟩
theorem grown_newP {w wr w' : World} {r r' : Option Nat} (h : w.grownBy wr r) (h' : wr.grownBy w' r') (hr : ∀ g, r' = some g → w.heap.size ≤ g) : w.grownBy w' r :=
  ⟨h'.os.trans h.os, h'.tape.trans h.tape, h'.output.trans h.output, Nat.le_trans h.size h'.size, fun k hk hne => (h'.block k (Nat.lt_of_lt_of_le hk h.size) (fun e => by have := hr k e.symm; omega)).trans (h.block k hk hne)⟩
theorem grown_belowP {w wr w' : World} {r : Option Nat} (h : w.grownBy wr r) (hb : Below wr.heap.size wr w') : w.grownBy w' r :=
  ⟨hb.os.trans h.os, hb.tape.trans h.tape, hb.output.trans h.output, Nat.le_trans h.size hb.size, fun k hk hne => (hb.block k (Nat.lt_of_lt_of_le hk h.size)).trans (h.block k hk hne)⟩
/-- Points under way in memory made behind a source. -/
def PBag (w : World) (B j : Nat) (o : Value) (ps : Pth) : Prop :=
  w.ownsRow B 36 2 o j (ptCells ps) ∧ ps.length = j ∧ ∀ p ∈ ps, (-30000 ≤ p.1 ∧ p.1 ≤ 30000) ∧ (-30000 ≤ p.2 ∧ p.2 ≤ 30000)
theorem PBag.src {w w' : World} {B j q : Nat} {o : Value} {ps : Pth} (h : PBag w B j o ps) (hg : w.grownBy w' (some q)) (hq : q < B) : PBag w' B j o ps :=
  ⟨h.1.kept hg (.inr fun e => by have := own_blk h.1 _ e; omega), h.2⟩
theorem PBag.below {w w' : World} {B j : Nat} {o : Value} {ps : Pth} (h : PBag w B j o ps) (hb : Below w.heap.size w w') : PBag w' B j o ps := ⟨own_below h.1 hb, h.2⟩
theorem ptCells_snoc (ps : Pth) (x y : Int) : ptCells (ps ++ [(x, y)]) = ptCells ps ++ [.int .i64 x, .int .i64 y] := by
  unfold ptCells
  rw [List.length_append, show (ps.length + [(x, y)].length) * 2 = ps.length * 2 + 1 + 1 by simp; omega, List.range_succ, List.range_succ, List.map_append, List.map_append, List.append_assoc]
  congr 1
  · refine List.map_congr_left fun j hj => ?_
    have hj' : j < ps.length * 2 := List.mem_range.1 hj
    have h2 : j / 2 < ps.length := by omega
    simp [ptCell, dAt, hAt, List.getElem?_append_left h2]
  · have e1 : (ps.length * 2) % 2 = 0 := by omega
    have e2 : (ps.length * 2) / 2 = ps.length := by omega
    have e3 : (ps.length * 2 + 1) % 2 = 1 := by omega
    have e4 : (ps.length * 2 + 1) / 2 = ps.length := by omega
    simp [ptCell, dAt, hAt, e1, e2, e3, e4]
theorem pbag_step {w wr w4 : World} {q m B j : Nat} {x y : Int} {o v' : Value} {ps : Pth} (hs : SrcP wr q m) (hg : w.grownBy wr (some q)) (hbag : PBag wr B j o ps) (hx : -30000 ≤ x ∧ x ≤ 30000) (hy : -30000 ≤ y ∧ y ≤ 30000) (hq : q < B) (hB : w.heap.size ≤ B)
    (hown : w4.ownsRow B 36 2 v' (j + 1) (ptCells ps ++ [.int .i64 x, .int .i64 y])) (hgrow : wr.grownBy w4 o.ownBlock) : SrcP w4 q m ∧ w.grownBy w4 (some q) ∧ PBag w4 B (j + 1) v' (ps ++ [(x, y)]) := by
  refine ⟨hs.grow hgrow (fun g hg => by have := own_blk hbag.1 g hg; omega), grown_newP hg hgrow (fun g hg => by have := own_blk hbag.1 g hg; omega), by rw [ptCells_snoc]; exact hown, by simp [hbag.2.1], fun p hp => ?_⟩
  rw [List.mem_append] at hp
  rcases hp with hp | hp
  · exact hbag.2.2 p hp
  · simp at hp
    subst hp
    exact ⟨hx, hy⟩
/-- The cells of points under way. -/
theorem PBag.cells {w : World} {B j : Nat} {o : Value} {ps : Pth} (h : PBag w B j o ps) (h0 : 0 < j) :
    ∃ g c, o = .slice (some ⟨g, 0, none⟩) j c ∧ B ≤ g ∧ (∀ i, i < j → w.cell? ⟨g, i * 2, none⟩ = some (.int .i64 (dAt ps i)) ∧ w.cell? ⟨g, i * 2 + 1, none⟩ = some (.int .i64 (hAt ps i)) ∧ (-30000 ≤ dAt ps i ∧ dAt ps i ≤ 30000) ∧ (-30000 ≤ hAt ps i ∧ hAt ps i ≤ 30000)) ∧ (∀ k, w.frozen? ⟨g, k, none⟩ = false) := by
  obtain ⟨A, c, rfl, _⟩ := own_form h.1
  have hl := h.2.1
  have hown := h.1
  obtain ⟨g, hg⟩ : ∃ g, A = some ⟨g, 0, none⟩ := by
    rcases hown.2 with ⟨hv, h00⟩ | ⟨g, cap, cur, hv, _⟩
    · omega
    · simp only [Value.slice.injEq] at hv
      exact ⟨g, hv.1⟩
  subst hg
  obtain ⟨f, hbg, hnc, hcm, _, hrow, hf⟩ := own_to_rowIs hown
  refine ⟨g, c, rfl, hbg, fun i hi => ?_, hrow.frozen⟩
  have hle : j * 2 ≤ c * 2 := Nat.mul_le_mul_right _ hnc
  have c0 := hrow.cell (i := i * 2) (by omega)
  have c1 := hrow.cell (i := i * 2 + 1) (by omega)
  have f0 := hf (i * 2) (by omega)
  have f1 := hf (i * 2 + 1) (by omega)
  rw [ptCells_at (by omega)] at f0 f1
  injection f0 with f0
  injection f1 with f1
  rw [← f0] at c0
  rw [← f1] at c1
  have e1 : (i * 2) % 2 = 0 := by omega
  have e2 : (i * 2) / 2 = i := by omega
  have e3 : (i * 2 + 1) % 2 = 1 := by omega
  have e4 : (i * 2 + 1) / 2 = i := by omega
  simp only [ptCell, e1, e2, if_true] at c0
  simp only [ptCell, e3, e4] at c1
  have hi' : i < ps.length := by omega
  have hb := h.2.2 _ (List.getElem_mem hi')
  have d1 : dAt ps i = ps[i].1 := by simp [dAt, hi']
  have d2 : hAt ps i = ps[i].2 := by simp [hAt, hi']
  exact ⟨c0, by simpa using c1, by rw [d1]; exact hb.1, by rw [d2]; exact hb.2⟩
/-- One number of a point written over. -/
theorem PBag.set {w : World} {B j g c : Nat} {ps : Pth} (h : PBag w B j (.slice (some ⟨g, 0, none⟩) j c) ps) (k : Nat) (hk : k < j * 2) (v : Int) (hv : -30000 ≤ v ∧ v ≤ 30000) :
    ∃ ps', PBag (w.setCell ⟨g, k, none⟩ (.int .i64 v)) B j (.slice (some ⟨g, 0, none⟩) j c) ps' := by
  obtain ⟨f, hbg, hnc, hcm, _, hrow, hf⟩ := own_to_rowIs h.1
  have hl := h.2.1
  have hle : j * 2 ≤ c * 2 := Nat.mul_le_mul_right _ hnc
  refine ⟨(List.range j).map fun i => (if i * 2 = k then v else dAt ps i, if i * 2 + 1 = k then v else hAt ps i), rowIs_to_own (hrow.set k (.int .i64 v)) hbg hnc hcm (by simp [ptCells]) (fun t ht => ?_), by simp, fun p hp => ?_⟩
  · have ht2 : t / 2 < j := by omega
    rw [ptCells_at (by simp; omega)]
    have hft := hf t ht
    rw [ptCells_at (by omega)] at hft
    injection hft with hft
    by_cases e : t = k
    · subst e
      simp only [if_true, ptCell]
      by_cases h2 : t % 2 = 0
      · rw [if_pos h2]
        have : t / 2 * 2 = t := by omega
        simp [dAt, ht2, this]
      · rw [if_neg h2]
        have : t / 2 * 2 + 1 = t := by omega
        simp [hAt, ht2, this]
    · simp only [if_neg e]
      rw [← hft]
      simp only [ptCell]
      by_cases h2 : t % 2 = 0
      · rw [if_pos h2, if_pos h2]
        have : ¬ t / 2 * 2 = k := by omega
        simp [dAt, ht2, this]
      · rw [if_neg h2, if_neg h2]
        have : ¬ t / 2 * 2 + 1 = k := by omega
        simp [hAt, ht2, this]
  · simp at hp
    obtain ⟨i, hi, rfl⟩ := hp
    have hi' : i < ps.length := by omega
    have hb := h.2.2 _ (List.getElem_mem hi')
    have d1 : dAt ps i = ps[i].1 := by simp [dAt, hi']
    have d2 : hAt ps i = ps[i].2 := by simp [hAt, hi']
    rw [d1, d2]
    constructor
    · split <;> omega
    · split <;> omega
/-- The first points alone. -/
theorem PBag.cut {w : World} {B j g c k : Nat} {ps : Pth} (h : PBag w B j (.slice (some ⟨g, 0, none⟩) j c) ps) (hk : k ≤ j) : PBag w B k (.slice (some ⟨g, 0, none⟩) k c) (ps.take k) := by
  obtain ⟨f, hbg, hnc, hcm, _, hrow, hf⟩ := own_to_rowIs h.1
  have hl := h.2.1
  have hlt : (ps.take k).length = k := by simp; omega
  refine ⟨rowIs_to_own hrow hbg (by omega) hcm (by simp [ptCells]; omega) (fun t ht => ?_), hlt, fun p hp => h.2.2 p (List.mem_of_mem_take hp)⟩
  rw [ptCells_at (by rw [hlt]; exact ht)]
  have hft := hf t (by omega)
  rw [ptCells_at (by omega)] at hft
  have ht2 : t / 2 < k := by omega
  rw [← hft]
  simp [ptCell, dAt, hAt, ht2]
theorem PBag.pts {w : World} {B j : Nat} {A : Option Addr} {c : Nat} {ps : Pth} (h : PBag w B j (.slice A j c) ps) (hj : j ≤ 1048576) : Pts w A j ps :=
  Pts.of_own h.1 h.2.1.symm (by omega) (fun p hp => by have := h.2.2 p hp; omega)
end Go.Proofs.YtknppcgoooaaaaaGreatDoor
