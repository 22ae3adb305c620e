/-
  LyF LyG LyD LyT LyU LyV, one behind the other.
-/
import Derived.Test.YtknppcgoooaaaaaGreatDoorLyA
import Derived.Deep.DeepCutAuto
/-
  Layers: thickness, gradients, forms.
-/
namespace Go.Proofs.YtknppcgoooaaaaaGreatDoor
open Go.ChangeShapes Go.WideShapes Go.ChangeAt Go.RowKit Go.Deep
set_option linter.unusedVariables false

def gradN (g1 g2 t1 t2 : Int) : Int := divN (1000 * (g2 - g1)) (max ((t1 + t2) / 2) 1)
def thickL (x : Ly) : Int := divN x.ice x.dens
def gradL (a b : Ly) : Int := gradN a.deg b.deg (thickL a) (thickL b)
def gradF (ls : List Ly) (k : Nat) : Int := match ls[k]?, ls[k + 1]? with
  | some a, some b => gradL a b
  | _, _ => 0
theorem gradF_eq {ls : List Ly} {k : Nat} {a b : Ly} (h : ls[k]? = some a) (h' : ls[k + 1]? = some b) : gradF ls k = gradL a b := by simp [gradF, h, h']
theorem thick_bd {i d : Int} (hi : 1 ≤ i ∧ i ≤ 1000000) (hd : 30 ≤ d ∧ d ≤ 900) : 0 ≤ divN i d ∧ divN i d ≤ 1000001 := by
  have := divN_le i d (by omega) (by omega)
  omega
theorem gradN_bd {g1 g2 t1 t2 : Int} (h1 : -4000 ≤ g1 ∧ g1 ≤ 0) (h2 : -4000 ≤ g2 ∧ g2 ≤ 0) : -4000001 ≤ gradN g1 g2 t1 t2 ∧ gradN g1 g2 t1 t2 ≤ 4000001 := by
  have := divN_bd (1000 * (g2 - g1)) (max ((t1 + t2) / 2) 1) (by omega)
  have e : absI (1000 * (g2 - g1)) ≤ 4000000 := by unfold absI; split <;> omega
  unfold gradN
  omega
theorem divN_odd (a b : Int) (hb : 1 ≤ b) : divN (-a) b = - divN a b := by
  rcases Int.lt_trichotomy a 0 with h | h | h
  · rw [divN_neg a b h]; omega
  · subst h
    have : divN 0 b = 0 := by
      unfold divN
      rw [if_neg (by omega)]
      exact Int.ediv_eq_zero_of_lt (by omega) (by omega)
    simp [this]
  · rw [divN_neg (-a) b (by omega), Int.neg_neg]
theorem gradN_swap (g1 g2 t1 t2 : Int) : gradN g1 g2 t1 t2 = - gradN g2 g1 t2 t1 := by
  unfold gradN
  rw [show 1000 * (g2 - g1) = -(1000 * (g1 - g2)) by omega, Int.add_comm t2 t1, divN_odd _ _ (by omega)]
theorem thickness_t (f i v d g h a : Int) (w : World) (B : Lb f i v d g h a) :
    Calls Tryz.prog 62 #[Lyv f i v d g h a] w fun e w' => e = .returned (.int .i64 (divN i d)) ∧ Below w.heap.size w w' := by
  obtain ⟨_, b1, _, b3, _⟩ := B
  go_enter Tryz.func62, Tryz.ntmps62
  go_wp2_with (go_at_call 65; refine (divRound_any _ _ _ (by omega) (by omega) (by omega) (by omega)).mono ?_; rintro e w' ⟨rfl, nd, rfl⟩)
  go_ret
  exact ⟨rfl, below_drewN ((Below.refl _ _).alloc (Nat.le_refl _) _) _⟩
theorem ly_alloc (w : World) (f i v d g h a : Int) (T : TypeId) : LyAt (w.alloc (.cells #[.int .i64 f, .int .i64 i, .int .i64 v, .int .i64 d, .int .i64 g, .int .i64 h, .int .i64 a] T)) w.heap.size 0 f i v d g h a := by
  have H := blk_alloc_new w (.cells #[.int .i64 f, .int .i64 i, .int .i64 v, .int .i64 d, .int .i64 g, .int .i64 h, .int .i64 a] T)
  have c := fun n => Go.Joins.cell_of_block H n
  have c0 := c 0
  have c1 := c 1
  have c2 := c 2
  have c3 := c 3
  have c4 := c 4
  have c5 := c 5
  have c6 := c 6
  simp only [List.getElem?_toArray, List.getElem?_cons_zero, List.getElem?_cons_succ] at c0 c1 c2 c3 c4 c5 c6
  exact ⟨c0, c1, c2, c3, c4, c5, c6⟩
theorem two_call {wd w w' : World} {x y : Nat} {f i v d g h a f' i' v' d' g' h' a' : Int} (H : (w.cell? ⟨x, 0, none⟩ = some (.int .i64 f) ∧ w.cell? ⟨x, 1, none⟩ = some (.int .i64 i) ∧ w.cell? ⟨x, 2, none⟩ = some (.int .i64 v) ∧ w.cell? ⟨x, 3, none⟩ = some (.int .i64 d) ∧ w.cell? ⟨x, 4, none⟩ = some (.int .i64 g) ∧ w.cell? ⟨x, 5, none⟩ = some (.int .i64 h) ∧ w.cell? ⟨x, 6, none⟩ = some (.int .i64 a)) ∧ (w.cell? ⟨y, 0, none⟩ = some (.int .i64 f') ∧ w.cell? ⟨y, 1, none⟩ = some (.int .i64 i') ∧ w.cell? ⟨y, 2, none⟩ = some (.int .i64 v') ∧ w.cell? ⟨y, 3, none⟩ = some (.int .i64 d') ∧ w.cell? ⟨y, 4, none⟩ = some (.int .i64 g') ∧ w.cell? ⟨y, 5, none⟩ = some (.int .i64 h') ∧ w.cell? ⟨y, 6, none⟩ = some (.int .i64 a')) ∧ Below wd.heap.size wd w) (hbw : Below w.heap.size w w') : (w'.cell? ⟨x, 0, none⟩ = some (.int .i64 f) ∧ w'.cell? ⟨x, 1, none⟩ = some (.int .i64 i) ∧ w'.cell? ⟨x, 2, none⟩ = some (.int .i64 v) ∧ w'.cell? ⟨x, 3, none⟩ = some (.int .i64 d) ∧ w'.cell? ⟨x, 4, none⟩ = some (.int .i64 g) ∧ w'.cell? ⟨x, 5, none⟩ = some (.int .i64 h) ∧ w'.cell? ⟨x, 6, none⟩ = some (.int .i64 a)) ∧ (w'.cell? ⟨y, 0, none⟩ = some (.int .i64 f') ∧ w'.cell? ⟨y, 1, none⟩ = some (.int .i64 i') ∧ w'.cell? ⟨y, 2, none⟩ = some (.int .i64 v') ∧ w'.cell? ⟨y, 3, none⟩ = some (.int .i64 d') ∧ w'.cell? ⟨y, 4, none⟩ = some (.int .i64 g') ∧ w'.cell? ⟨y, 5, none⟩ = some (.int .i64 h') ∧ w'.cell? ⟨y, 6, none⟩ = some (.int .i64 a')) ∧ Below wd.heap.size wd w' := by
  obtain ⟨⟨c0, c1, c2, c3, c4, c5, c6⟩, ⟨e0, e1, e2, e3, e4, e5, e6⟩, hb⟩ := H
  exact ⟨⟨cell_kept hbw c0, cell_kept hbw c1, cell_kept hbw c2, cell_kept hbw c3, cell_kept hbw c4, cell_kept hbw c5, cell_kept hbw c6⟩, ⟨cell_kept hbw e0, cell_kept hbw e1, cell_kept hbw e2, cell_kept hbw e3, cell_kept hbw e4, cell_kept hbw e5, cell_kept hbw e6⟩, hb.trans (hbw.mono hb.size)⟩
theorem two_drew {wd w : World} {x y : Nat} {f i v d g h a f' i' v' d' g' h' a' : Int} (H : (w.cell? ⟨x, 0, none⟩ = some (.int .i64 f) ∧ w.cell? ⟨x, 1, none⟩ = some (.int .i64 i) ∧ w.cell? ⟨x, 2, none⟩ = some (.int .i64 v) ∧ w.cell? ⟨x, 3, none⟩ = some (.int .i64 d) ∧ w.cell? ⟨x, 4, none⟩ = some (.int .i64 g) ∧ w.cell? ⟨x, 5, none⟩ = some (.int .i64 h) ∧ w.cell? ⟨x, 6, none⟩ = some (.int .i64 a)) ∧ (w.cell? ⟨y, 0, none⟩ = some (.int .i64 f') ∧ w.cell? ⟨y, 1, none⟩ = some (.int .i64 i') ∧ w.cell? ⟨y, 2, none⟩ = some (.int .i64 v') ∧ w.cell? ⟨y, 3, none⟩ = some (.int .i64 d') ∧ w.cell? ⟨y, 4, none⟩ = some (.int .i64 g') ∧ w.cell? ⟨y, 5, none⟩ = some (.int .i64 h') ∧ w.cell? ⟨y, 6, none⟩ = some (.int .i64 a')) ∧ Below wd.heap.size wd w) : (w.drew.cell? ⟨x, 0, none⟩ = some (.int .i64 f) ∧ w.drew.cell? ⟨x, 1, none⟩ = some (.int .i64 i) ∧ w.drew.cell? ⟨x, 2, none⟩ = some (.int .i64 v) ∧ w.drew.cell? ⟨x, 3, none⟩ = some (.int .i64 d) ∧ w.drew.cell? ⟨x, 4, none⟩ = some (.int .i64 g) ∧ w.drew.cell? ⟨x, 5, none⟩ = some (.int .i64 h) ∧ w.drew.cell? ⟨x, 6, none⟩ = some (.int .i64 a)) ∧ (w.drew.cell? ⟨y, 0, none⟩ = some (.int .i64 f') ∧ w.drew.cell? ⟨y, 1, none⟩ = some (.int .i64 i') ∧ w.drew.cell? ⟨y, 2, none⟩ = some (.int .i64 v') ∧ w.drew.cell? ⟨y, 3, none⟩ = some (.int .i64 d') ∧ w.drew.cell? ⟨y, 4, none⟩ = some (.int .i64 g') ∧ w.drew.cell? ⟨y, 5, none⟩ = some (.int .i64 h') ∧ w.drew.cell? ⟨y, 6, none⟩ = some (.int .i64 a')) ∧ Below wd.heap.size wd w.drew := by
  obtain ⟨⟨c0, c1, c2, c3, c4, c5, c6⟩, ⟨e0, e1, e2, e3, e4, e5, e6⟩, hb⟩ := H
  exact ⟨⟨c0, c1, c2, c3, c4, c5, c6⟩, ⟨e0, e1, e2, e3, e4, e5, e6⟩, hb.drew⟩
theorem two_drewN {wd w : World} {x y : Nat} {f i v d g h a f' i' v' d' g' h' a' : Int} (H : (w.cell? ⟨x, 0, none⟩ = some (.int .i64 f) ∧ w.cell? ⟨x, 1, none⟩ = some (.int .i64 i) ∧ w.cell? ⟨x, 2, none⟩ = some (.int .i64 v) ∧ w.cell? ⟨x, 3, none⟩ = some (.int .i64 d) ∧ w.cell? ⟨x, 4, none⟩ = some (.int .i64 g) ∧ w.cell? ⟨x, 5, none⟩ = some (.int .i64 h) ∧ w.cell? ⟨x, 6, none⟩ = some (.int .i64 a)) ∧ (w.cell? ⟨y, 0, none⟩ = some (.int .i64 f') ∧ w.cell? ⟨y, 1, none⟩ = some (.int .i64 i') ∧ w.cell? ⟨y, 2, none⟩ = some (.int .i64 v') ∧ w.cell? ⟨y, 3, none⟩ = some (.int .i64 d') ∧ w.cell? ⟨y, 4, none⟩ = some (.int .i64 g') ∧ w.cell? ⟨y, 5, none⟩ = some (.int .i64 h') ∧ w.cell? ⟨y, 6, none⟩ = some (.int .i64 a')) ∧ Below wd.heap.size wd w) (n : Nat) : ((w.drewN n).cell? ⟨x, 0, none⟩ = some (.int .i64 f) ∧ (w.drewN n).cell? ⟨x, 1, none⟩ = some (.int .i64 i) ∧ (w.drewN n).cell? ⟨x, 2, none⟩ = some (.int .i64 v) ∧ (w.drewN n).cell? ⟨x, 3, none⟩ = some (.int .i64 d) ∧ (w.drewN n).cell? ⟨x, 4, none⟩ = some (.int .i64 g) ∧ (w.drewN n).cell? ⟨x, 5, none⟩ = some (.int .i64 h) ∧ (w.drewN n).cell? ⟨x, 6, none⟩ = some (.int .i64 a)) ∧ ((w.drewN n).cell? ⟨y, 0, none⟩ = some (.int .i64 f') ∧ (w.drewN n).cell? ⟨y, 1, none⟩ = some (.int .i64 i') ∧ (w.drewN n).cell? ⟨y, 2, none⟩ = some (.int .i64 v') ∧ (w.drewN n).cell? ⟨y, 3, none⟩ = some (.int .i64 d') ∧ (w.drewN n).cell? ⟨y, 4, none⟩ = some (.int .i64 g') ∧ (w.drewN n).cell? ⟨y, 5, none⟩ = some (.int .i64 h') ∧ (w.drewN n).cell? ⟨y, 6, none⟩ = some (.int .i64 a')) ∧ Below wd.heap.size wd (w.drewN n) := by
  obtain ⟨⟨c0, c1, c2, c3, c4, c5, c6⟩, ⟨e0, e1, e2, e3, e4, e5, e6⟩, hb⟩ := H
  exact ⟨⟨c0, c1, c2, c3, c4, c5, c6⟩, ⟨e0, e1, e2, e3, e4, e5, e6⟩, below_drewN hb n⟩
theorem two_chain {wd a b : World} (h1 : Below wd.drew.heap.size wd.drew a) (h2 : Below a.heap.size a b) : Below wd.heap.size wd b :=
  have h0 : Below wd.heap.size wd wd.drew := (Below.refl _ _).drew
  h0.trans (h1.trans (h2.mono h1.size))
end Go.Proofs.YtknppcgoooaaaaaGreatDoor

/-
  Layers: the forms of the next hour.
-/
namespace Go.Proofs.YtknppcgoooaaaaaGreatDoor
open Go.ChangeShapes Go.WideShapes Go.ChangeAt Go.RowKit Go.Deep
set_option linter.unusedVariables false

def nextN (f v a g : Int) : Int :=
  if 0 < v ∨ f = 6 then 6 else if 2000 ≤ g ∧ 72 ≤ a then 5 else if 1000 ≤ g ∧ 24 ≤ a then 4 else if f = 1 ∧ 48 ≤ a then 2 else if f = 2 ∧ 120 ≤ a then 3 else f
theorem nextN_bd {f v a g : Int} (hf : 1 ≤ f ∧ f ≤ 6) : 1 ≤ nextN f v a g ∧ nextN f v a g ≤ 6 := by unfold nextN; (repeat' split) <;> omega
def steepF (ls : List Ly) (k : Nat) : Int :=
  if k + 1 < ls.length then max (if 0 < k then absI (gradF ls (k - 1)) else 0) (absI (gradF ls k)) else if 0 < k then absI (gradF ls (k - 1)) else 0
def formX (ls : List Ly) (k : Nat) (x : Ly) : Ly := { x with form := nextN x.form x.water x.age (steepF ls k) }
def formsF (ls : List Ly) : List Ly := ls.mapIdx (formX ls)
theorem formsF_len (ls : List Ly) : (formsF ls).length = ls.length := by simp [formsF]
theorem formsF_at {ls : List Ly} {k : Nat} {x : Ly} (h : ls[k]? = some x) : (formsF ls)[k]? = some (formX ls k x) := by simp [formsF, h]
theorem formX_ok {ls : List Ly} {k : Nat} {x : Ly} (h : LyOk x) : LyOk (formX ls k x) := ⟨nextN_bd h.f, h.i, h.v, h.d, h.g, h.h, h.a⟩
theorem formsF_ok {ls : List Ly} (h : ∀ x ∈ ls, LyOk x) : ∀ x ∈ formsF ls, LyOk x := by
  intro x hx
  obtain ⟨j, hj⟩ := List.mem_iff_getElem?.1 hx
  have hlt : j < ls.length := by have := (List.getElem?_eq_some_iff.1 hj).1; rw [formsF_len] at this; exact this
  rw [formsF_at (List.getElem?_eq_getElem hlt)] at hj
  injection hj with hj
  subst hj
  exact formX_ok (h _ (List.getElem_mem hlt))
/-! ### New elements up to k, old ones behind -/
def mixL (new old : List Ly) (k : Nat) : List Ly := new.take k ++ old.drop k
theorem mixL_zero (new old : List Ly) : mixL new old 0 = old := by simp [mixL]
theorem mixL_all {new old : List Ly} {n : Nat} (h : new.length = n) (h' : old.length = n) : mixL new old n = new := by
  unfold mixL
  rw [List.take_of_length_le (by omega), List.drop_of_length_le (by omega), List.append_nil]
theorem mixL_len {new old : List Ly} {n k : Nat} (h : new.length = n) (h' : old.length = n) (hk : k ≤ n) : (mixL new old k).length = n := by simp [mixL, h, h']; omega
theorem mixL_at {new old : List Ly} {n k : Nat} {x : Ly} (h : new.length = n) (h' : old.length = n) (hk : k < n) (hx : old[k]? = some x) : (mixL new old k)[k]? = some x := by
  unfold mixL
  rw [List.getElem?_append_right (by simp; omega), List.length_take, List.getElem?_drop]
  rw [show k + (k - min k new.length) = k by omega]
  exact hx
theorem mixL_set {new old : List Ly} {n k : Nat} {y : Ly} (h : new.length = n) (h' : old.length = n) (hk : k < n) (hy : new[k]? = some y) : (mixL new old k).set k y = mixL new old (k + 1) := by
  apply List.ext_getElem?
  intro j
  by_cases e : j = k
  · subst e
    rw [List.getElem?_set_self (by rw [mixL_len h h' (by omega)]; exact hk)]
    unfold mixL
    rw [List.getElem?_append_left (by simp; omega), List.getElem?_take, if_pos (by omega), hy]
  · rw [List.getElem?_set_ne (fun e' => e e'.symm)]
    unfold mixL
    by_cases hj : j < k
    · rw [List.getElem?_append_left (by simp; omega), List.getElem?_append_left (by simp; omega), List.getElem?_take, List.getElem?_take, if_pos hj, if_pos (by omega)]
    · rw [List.getElem?_append_right (by simp; omega), List.getElem?_append_right (by simp; omega), List.getElem?_drop, List.getElem?_drop, List.length_take, List.length_take]
      congr 1
      omega
theorem mixL_ok {new old : List Ly} {k : Nat} (h : ∀ x ∈ new, LyOk x) (h' : ∀ x ∈ old, LyOk x) : ∀ x ∈ mixL new old k, LyOk x := by
  intro x hx
  rcases List.mem_append.1 hx with h1 | h1
  · exact h x (List.mem_of_mem_take h1)
  · exact h' x (List.mem_of_mem_drop h1)
theorem gradF_bd {ls : List Ly} (h : ∀ x ∈ ls, LyOk x) (k : Nat) : -4000001 ≤ gradF ls k ∧ gradF ls k ≤ 4000001 := by
  unfold gradF
  split
  · rename_i a b ha hb
    exact gradN_bd (h _ (List.mem_of_getElem? ha)).g (h _ (List.mem_of_getElem? hb)).g
  · omega
end Go.Proofs.YtknppcgoooaaaaaGreatDoor

/-
  Layers: draining in place; heat from above, heat lost upwards, drained profiles.
-/
namespace Go.Proofs.YtknppcgoooaaaaaGreatDoor
open Go.ChangeShapes Go.WideShapes Go.ChangeAt Go.RowKit Go.Deep
set_option linter.unusedVariables false

end Go.Proofs.YtknppcgoooaaaaaGreatDoor

/-
  Layers: loads, settling.
-/
namespace Go.Proofs.YtknppcgoooaaaaaGreatDoor
open Go.ChangeShapes Go.WideShapes Go.ChangeAt Go.RowKit Go.Deep
set_option linter.unusedVariables false

def wetL (x : Ly) : Int := x.ice + x.water
def loadF (ls : List Ly) (k : Nat) : Int := sumF wetL (ls.drop (k + 1))
def settleD (d l : Int) : Int := if d < 550 then min (d + (550 - d) * l / 10000000) 550 else d
def settleX (l : Int) (x : Ly) : Ly := { x with dens := settleD x.dens l, age := min (x.age + 1) 10000 }
theorem settleD_bd {d l : Int} (hd : 30 ≤ d ∧ d ≤ 900) (hl : 0 ≤ l) : d ≤ settleD d l ∧ settleD d l ≤ 900 := by
  unfold settleD
  split
  · have : 0 ≤ (550 - d) * l := Int.mul_nonneg (by omega) hl
    omega
  · omega
theorem settleD_mono {d l l' : Int} (hl : l ≤ l') : settleD d l ≤ settleD d l' := by
  unfold settleD
  split
  · have : (550 - d) * l ≤ (550 - d) * l' := Int.mul_le_mul_of_nonneg_left hl (by omega)
    omega
  · omega
theorem settleX_ok {l : Int} {x : Ly} (h : LyOk x) (hl : 0 ≤ l) : LyOk (settleX l x) := by
  have := settleD_bd h.d hl
  refine ⟨h.f, h.i, h.v, ⟨?_, ?_⟩, h.g, h.h, ⟨?_, ?_⟩⟩
  · have := h.d; simp only [settleX]; omega
  · simp only [settleX]; omega
  · have := h.a; simp only [settleX]; omega
  · simp only [settleX]; omega
def settledF (ls : List Ly) : List Ly := ls.mapIdx fun k x => settleX (loadF ls k) x
theorem settledF_len (ls : List Ly) : (settledF ls).length = ls.length := by simp [settledF]
theorem settledF_at {ls : List Ly} {k : Nat} {x : Ly} (h : ls[k]? = some x) : (settledF ls)[k]? = some (settleX (loadF ls k) x) := by simp [settledF, h]
theorem wet_bd {ls : List Ly} (h : ∀ x ∈ ls, LyOk x) (hl : ls.length ≤ 16) : 0 ≤ sumF wetL ls ∧ sumF wetL ls ≤ 32000000 := by
  have := sumF_bd wetL 0 2000000 ls fun x hx => by have o := h x hx; have := o.i; have := o.v; unfold wetL; omega
  omega
theorem loadF_bd {ls : List Ly} (h : ∀ x ∈ ls, LyOk x) (hl : ls.length ≤ 16) (k : Nat) : 0 ≤ loadF ls k ∧ loadF ls k ≤ 32000000 :=
  wet_bd (fun x hx => h x (List.mem_of_mem_drop hx)) (by simp; omega)
theorem settledF_ok {ls : List Ly} (h : ∀ x ∈ ls, LyOk x) (hl : ls.length ≤ 16) : ∀ x ∈ settledF ls, LyOk x := by
  intro x hx
  obtain ⟨j, hj⟩ := List.mem_iff_getElem?.1 hx
  have hlt : j < ls.length := by have := (List.getElem?_eq_some_iff.1 hj).1; rw [settledF_len] at this; exact this
  rw [settledF_at (List.getElem?_eq_getElem hlt)] at hj
  injection hj with hj
  subst hj
  exact settleX_ok (h _ (List.getElem_mem hlt)) (loadF_bd h hl j).1
/-- What a map over layers that keeps ice and water keeps. -/
theorem sumF_ext (f g : Ly → Int) : ∀ (a b : List Ly), a.length = b.length → (∀ (k : Nat) (x y : Ly), a[k]? = some x → b[k]? = some y → f x = g y) → sumF f a = sumF g b := by
  intro a
  induction a with
  | nil => intro b hl _; cases b; rfl; simp at hl
  | cons x t ih =>
    intro b hl h
    cases b with
    | nil => simp at hl
    | cons y u =>
      rw [sumF_cons, sumF_cons, h 0 x y rfl rfl, ih u (by simpa using hl) (fun k x y hx hy => h (k + 1) x y (by simpa using hx) (by simpa using hy))]
theorem settledF_sums (ls : List Ly) : sumF Ly.ice (settledF ls) = sumF Ly.ice ls ∧ sumF Ly.water (settledF ls) = sumF Ly.water ls := by
  constructor
  all_goals
    refine sumF_ext _ _ _ _ (settledF_len ls) fun k x y hx hy => ?_
    rw [settledF_at hy] at hx
    injection hx with hx
    subst hx
    rfl
theorem formsF_sums (ls : List Ly) : sumF Ly.ice (formsF ls) = sumF Ly.ice ls ∧ sumF Ly.water (formsF ls) = sumF Ly.water ls := by
  constructor
  all_goals
    refine sumF_ext _ _ _ _ (formsF_len ls) fun k x y hx hy => ?_
    rw [formsF_at hy] at hx
    injection hx with hx
    subst hx
    rfl
/-! ### Hours -/
def heatH (ls : List Ly) (j : Int) : List Ly := if 0 ≤ j then (heatF warmX ls.length (settledF ls) j).1 else (heatF coolX ls.length (settledF ls) (-j)).1
def hourF (ls : List Ly) (j : Int) : List Ly × Int := (formsF (drainF ls.length (heatH ls j) 0).1, (drainF ls.length (heatH ls j) 0).2)
def hoursTo (ls : List Ly) (js : List Int) : List Ly × Int := js.foldl (fun s j => ((hourF s.1 j).1, s.2 + (hourF s.1 j).2)) (ls, 0)
theorem hoursTo_snoc {ls : List Ly} {js : List Int} {k : Nat} {j : Int} (h : js[k]? = some j) :
    hoursTo ls (js.take (k + 1)) = ((hourF (hoursTo ls (js.take k)).1 j).1, (hoursTo ls (js.take k)).2 + (hourF (hoursTo ls (js.take k)).1 j).2) := by
  unfold hoursTo
  rw [List.take_add_one, h, List.foldl_append]
  rfl
theorem hoursTo_one (ls : List Ly) (j : Int) : hoursTo ls [j] = ((hourF ls j).1, 0 + (hourF ls j).2) := rfl
structure HourOk (ls ls' : List Ly) (r : Int) : Prop where
  len : ls'.length = ls.length
  ok : ∀ x ∈ ls', LyOk x
  mass : sumF Ly.ice ls' + sumF Ly.water ls' + r = sumF Ly.ice ls + sumF Ly.water ls
  low : 0 ≤ r
theorem heatH_ok {ls : List Ly} (h : ∀ x ∈ ls, LyOk x) (hl : ls.length ≤ 16) (j : Int) : (heatH ls j).length = ls.length ∧ (∀ x ∈ heatH ls j, LyOk x) ∧ sumF Ly.ice (heatH ls j) + sumF Ly.water (heatH ls j) = sumF Ly.ice ls + sumF Ly.water ls := by
  have hs := settledF_sums ls
  have hso := settledF_ok h hl
  have hsl := settledF_len ls
  unfold heatH
  split
  · have k := heatF_kept (fun x j hx h0 => warmX_kept hx h0) ls.length (settledF ls) j hso (by assumption)
    exact ⟨by rw [k.len, hsl], k.ok, by rw [k.mass, hs.1, hs.2]⟩
  · have k := heatF_kept (fun x j hx h0 => coolX_kept hx h0) ls.length (settledF ls) (-j) hso (by omega)
    exact ⟨by rw [k.len, hsl], k.ok, by rw [k.mass, hs.1, hs.2]⟩
theorem hourF_ok {ls : List Ly} (h : ∀ x ∈ ls, LyOk x) (hl : ls.length ≤ 16) (j : Int) : HourOk ls (hourF ls j).1 (hourF ls j).2 := by
  obtain ⟨h1, h2, h3⟩ := heatH_ok h hl j
  have d := drainF_ok ls.length (heatH ls j) 0 h2 (Int.le_refl _) (by omega)
  have f := formsF_sums (drainF ls.length (heatH ls j) 0).1
  refine ⟨by unfold hourF; rw [formsF_len, d.len, h1], formsF_ok d.ok, ?_, d.low⟩
  unfold hourF
  have := d.ice
  have := d.water
  rw [f.1, f.2]
  omega
theorem hoursTo_ok {ls : List Ly} (h : ∀ x ∈ ls, LyOk x) (hl : ls.length ≤ 16) (js : List Int) : HourOk ls (hoursTo ls js).1 (hoursTo ls js).2 := by
  have : ∀ (js : List Int) (s : List Ly × Int), HourOk ls s.1 s.2 → HourOk ls (js.foldl (fun s j => ((hourF s.1 j).1, s.2 + (hourF s.1 j).2)) s).1 (js.foldl (fun s j => ((hourF s.1 j).1, s.2 + (hourF s.1 j).2)) s).2 := by
    intro js
    induction js with
    | nil => intro s hs; exact hs
    | cons j t ih =>
      intro s hs
      refine ih _ ?_
      have k := hourF_ok hs.ok (by rw [hs.len]; exact hl) j
      exact ⟨by rw [k.len, hs.len], k.ok, by have := k.mass; have := hs.mass; simp only; omega, by have := k.low; have := hs.low; simp only; omega⟩
  exact this js (ls, 0) ⟨rfl, h, by simp, Int.le_refl _⟩
end Go.Proofs.YtknppcgoooaaaaaGreatDoor

/-
  Layers: the load above a layer, a layer and a profile an hour later.
-/
namespace Go.Proofs.YtknppcgoooaaaaaGreatDoor
open Go.ChangeShapes Go.WideShapes Go.ChangeAt Go.RowKit Go.Deep
set_option linter.unusedVariables false

theorem Lys.drop {w : World} {b off n : Nat} {ls : List Ly} (H : Lys w (some ⟨b, off, none⟩) n ls) (j : Nat) : Lys w (some ⟨b, off + j * 7, none⟩) (n - j) (ls.drop j) := by
  obtain ⟨h1, h2, h3, h4⟩ := H
  refine ⟨by simp [h1], by omega, fun x hx => h3 x (List.mem_of_mem_drop hx), fun h0 => ⟨b, off + j * 7, rfl, fun k x hk => ?_⟩⟩
  obtain ⟨b', off', e, hc⟩ := h4 (by omega)
  injection e with e
  injection e with e1 e2 _
  subst e1 e2
  rw [List.getElem?_drop] at hk
  have := hc (j + k) x hk
  rw [show off + j * 7 + k * 7 = off + (j + k) * 7 by omega]
  exact this
theorem wet_take {ls : List Ly} {k : Nat} {x : Ly} (h : ls[k]? = some x) : sumF wetL (ls.take (k + 1)) = sumF wetL (ls.take k) + (x.ice + x.water) := sumF_take wetL h
theorem wetS_bd {ls : List Ly} (h : ∀ x ∈ ls, LyOk x) (hl : ls.length ≤ 16) (k : Nat) : 0 ≤ sumF wetL (ls.take k) ∧ sumF wetL (ls.take k) ≤ 32000000 :=
  wet_bd (fun x hx => h x (List.mem_of_mem_take hx)) (by simp; omega)
set_option maxRecDepth 100000 in
set_option maxHeartbeats 1600000 in
theorem loadAbove_t (A : Option Addr) (n c : Nat) (ls : List Ly) (k : Nat) (w : World) (H : Lys w A n ls) (hk : k < n) (hnc : n ≤ c) (hcm : c ≤ maxLen) :
    Calls Tryz.prog 64 #[.slice A n c, .int .i64 (k : Int)] w fun e w' => e = .returned (.int .i64 (loadF ls k)) ∧ Below w.heap.size w w' := by
  unfold maxLen at hcm
  have hn := H.2.1
  obtain ⟨b, off, rfl, _⟩ := H.2.2.2 (by omega)
  have HD := Lib.hid (H.drop (k + 1))
  have hki : (k : Int) + 1 ≤ (n : Int) := by omega
  have hkn : ((k : Int) + 1).toNat = k + 1 := by omega
  have HS := Lib.hid (show ∀ j, 0 ≤ sumF wetL ((ls.drop (k + 1)).take j) ∧ sumF wetL ((ls.drop (k + 1)).take j) ≤ 32000000 from fun j => wetS_bd HD.out.2.2.1 (by have := HD.out.1; have := HD.out.2.1; omega) j)
  have HE := Lib.hid (show loadF ls k = sumF wetL ((ls.drop (k + 1)).take (n - (k + 1))) by unfold loadF; rw [List.take_of_length_le (by rw [HD.out.1]; omega)])
  clear H
  go_enter Tryz.func64, Tryz.ntmps64
  by_cases hcap : c = k + 1
  · go_wp2_with fail
    go_loopw [5, 7, 13] (fun pv _ iv wr => ∃ j : Nat, j ≤ n - (k + 1) ∧ iv = .int .i64 j ∧ pv = .int .i64 (sumF wetL ((ls.drop (k + 1)).take j)) ∧ Below w.heap.size w wr) (fun _ _ iv _ => (n - (k + 1)) - (intOf iv).toNat)
    case atStart => exact ⟨0, Nat.zero_le _, rfl, rfl, Below.refl _ _⟩
    case round =>
      obtain ⟨j, hj, rfl, rfl, hbl⟩ := hrel
      have hs := HS.out j
      obtain ⟨p, hp⟩ : ∃ p, p = sumF wetL ((ls.drop (k + 1)).take j) := ⟨_, rfl⟩
      rw [← hp] at hs ⊢
      have HP := Lib.hid hp
      clear hp
      obtain rfl : j = n - (k + 1) := by omega
      have HB := Lib.hid hbl
      clear hbl
      go_wp2_with fail
      go_ret
      exact ⟨ret_int (by rw [HE.out, HP.out]), HB.out⟩
  · go_wp2_with fail
    go_loopw [5, 7, 13] (fun pv _ iv wr => ∃ j : Nat, j ≤ n - (k + 1) ∧ iv = .int .i64 j ∧ pv = .int .i64 (sumF wetL ((ls.drop (k + 1)).take j)) ∧ Below w.heap.size w wr) (fun _ _ iv _ => (n - (k + 1)) - (intOf iv).toNat)
    case atStart => exact ⟨0, Nat.zero_le _, rfl, rfl, Below.refl _ _⟩
    case round =>
      obtain ⟨j, hj, rfl, rfl, hbl⟩ := hrel
      have hs := HS.out j
      obtain ⟨p, hp⟩ : ∃ p, p = sumF wetL ((ls.drop (k + 1)).take j) := ⟨_, rfl⟩
      rw [← hp] at hs ⊢
      have HP := Lib.hid hp
      clear hp
      by_cases hlt : j < n - (k + 1)
      · obtain ⟨b', off', f, i, v, d, g, h, a, hA, HX, hc, hb⟩ := (HD.out.below hbl).at_ hlt
        injection hA with hA
        injection hA with hA1 hA2 _
        subst hA1 hA2
        have hji : (j : Int) < ((n - (k + 1) : Nat) : Int) := by omega
        have HC := Lib.hid hbl
        obtain ⟨-, ⟨b1, b1'⟩, ⟨b2, b2'⟩, -⟩ := hb
        have HSN := Lib.hid (wet_take HX.out)
        obtain ⟨c0, c1, c2, c3, c4, c5, c6⟩ := hc
        clear hbl
        go_wp2_with fail
        go_roundw
        case rel => exact ⟨j + 1, by omega, by go_num, by rw [HSN.out, ← HP.out], HC.out.alloc HC.out.size _⟩
        case measure => simp [intOf]; omega
      · obtain rfl : j = n - (k + 1) := by omega
        have HB := Lib.hid hbl
        clear hbl
        go_wp2_with fail
        go_ret
        exact ⟨ret_int (by rw [HE.out, HP.out]), HB.out⟩
end Go.Proofs.YtknppcgoooaaaaaGreatDoor

/-
  Layers: a profile an hour later.
-/
namespace Go.Proofs.YtknppcgoooaaaaaGreatDoor
open Go.ChangeShapes Go.WideShapes Go.ChangeAt Go.RowKit Go.Deep
set_option linter.unusedVariables false

/-- A whole layer written over in a row. -/
theorem LRow.put {w : World} {E g cap k : Nat} {ls : List Ly} {x : Ly} (H : LRow w E g cap ls) (hk : ls[k]? = some x) (f i v d t h a : Int) :
    LRow (((((((w.setCell ⟨g, k * 7, none⟩ (.int .i64 f)).setCell ⟨g, k * 7 + 1, none⟩ (.int .i64 i)).setCell ⟨g, k * 7 + 2, none⟩ (.int .i64 v)).setCell ⟨g, k * 7 + 3, none⟩ (.int .i64 d)).setCell ⟨g, k * 7 + 4, none⟩ (.int .i64 t)).setCell ⟨g, k * 7 + 5, none⟩ (.int .i64 h)).setCell ⟨g, k * 7 + 6, none⟩ (.int .i64 a)) E g cap (ls.set k ⟨f, i, v, d, t, h, a⟩) := by
  obtain ⟨F, I, V, D, T, J, A⟩ := x
  have s0 := H.set_form hk f
  have s1 := s0.set_ice (LRow.at_set hk) i
  rw [set_set] at s1
  have s2 := s1.set_water (LRow.at_set hk) v
  rw [set_set] at s2
  have s3 := s2.set_dens (LRow.at_set hk) d
  rw [set_set] at s3
  have s4 := s3.set_deg (LRow.at_set hk) t
  rw [set_set] at s4
  have s5 := s4.set (LRow.at_set hk) 5 (by omega) h (y := ⟨f, i, v, d, t, h, A⟩) rfl (fun s hs hne => by rcases (show s = 0 ∨ s = 1 ∨ s = 2 ∨ s = 3 ∨ s = 4 ∨ s = 6 from by omega) with rfl | rfl | rfl | rfl | rfl | rfl <;> rfl)
  rw [set_set] at s5
  have s6 := s5.set_age (LRow.at_set hk) a
  rw [set_set] at s6
  exact s6
theorem put_grown {w wr : World} {g k : Nat} (h : w.grownBy wr (some g)) (a0 a1 a2 a3 a4 a5 a6 : Value) :
    w.grownBy (((((((wr.setCell ⟨g, k * 7, none⟩ a0).setCell ⟨g, k * 7 + 1, none⟩ a1).setCell ⟨g, k * 7 + 2, none⟩ a2).setCell ⟨g, k * 7 + 3, none⟩ a3).setCell ⟨g, k * 7 + 4, none⟩ a4).setCell ⟨g, k * 7 + 5, none⟩ a5).setCell ⟨g, k * 7 + 6, none⟩ a6) (some g) :=
  grown_setCell (p := ⟨g, k * 7 + 6, none⟩) (grown_setCell (p := ⟨g, k * 7 + 5, none⟩) (grown_setCell (p := ⟨g, k * 7 + 4, none⟩) (grown_setCell (p := ⟨g, k * 7 + 3, none⟩) (grown_setCell (p := ⟨g, k * 7 + 2, none⟩) (grown_setCell (p := ⟨g, k * 7 + 1, none⟩) (grown_setCell (p := ⟨g, k * 7, none⟩) h rfl _) rfl _) rfl _) rfl _) rfl _) rfl _) rfl _
end Go.Proofs.YtknppcgoooaaaaaGreatDoor
