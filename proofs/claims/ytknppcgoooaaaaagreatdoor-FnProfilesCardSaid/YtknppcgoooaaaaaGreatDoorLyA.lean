/-
  LyM LyH LyW LyI LyC LyR LyS, one behind the other.
-/
import Derived.Test.YtknppcgoooaaaaaGreatDoorMem
import Derived.Test.YtknppcgoooaaaaaGreatDoorArith
import Derived.Test.YtknppcgoooaaaaaGreatDoorSrcP
import Derived.Shelf.Abstract
/-
  Layers of snow as seven numbers, and slices of them that read as lists. No program in sight.
-/
namespace Go.Proofs.YtknppcgoooaaaaaGreatDoor
open Go.ChangeShapes Go.WideShapes Go.ChangeAt Go.RowKit Go.Deep
set_option linter.unusedVariables false

structure Ly where
  form : Int
  ice : Int
  water : Int
  dens : Int
  deg : Int
  hard : Int
  age : Int
def Ly.fld (x : Ly) (t : Nat) : Int :=
  match t with
  | 0 => x.form
  | 1 => x.ice
  | 2 => x.water
  | 3 => x.dens
  | 4 => x.deg
  | 5 => x.hard
  | _ => x.age
structure LyOk (x : Ly) : Prop where
  f : 1 ≤ x.form ∧ x.form ≤ 6
  i : 1 ≤ x.ice ∧ x.ice ≤ 1000000
  v : 0 ≤ x.water ∧ x.water ≤ 1000000
  d : 30 ≤ x.dens ∧ x.dens ≤ 900
  g : -4000 ≤ x.deg ∧ x.deg ≤ 0
  h : 1 ≤ x.hard ∧ x.hard ≤ 6
  a : 0 ≤ x.age ∧ x.age ≤ 10000
abbrev Lyv (f i v d g h a : Int) : Value := .agg #[.int .i64 f, .int .i64 i, .int .i64 v, .int .i64 d, .int .i64 g, .int .i64 h, .int .i64 a]
/-- Seven cells of a block that hold a layer. -/
def LyAt (w : World) (b o : Nat) (f i v d g h a : Int) : Prop :=
  w.cell? ⟨b, o, none⟩ = some (.int .i64 f) ∧ w.cell? ⟨b, o + 1, none⟩ = some (.int .i64 i) ∧ w.cell? ⟨b, o + 2, none⟩ = some (.int .i64 v) ∧ w.cell? ⟨b, o + 3, none⟩ = some (.int .i64 d) ∧
  w.cell? ⟨b, o + 4, none⟩ = some (.int .i64 g) ∧ w.cell? ⟨b, o + 5, none⟩ = some (.int .i64 h) ∧ w.cell? ⟨b, o + 6, none⟩ = some (.int .i64 a)
def Lb (f i v d g h a : Int) : Prop :=
  (1 ≤ f ∧ f ≤ 6) ∧ (1 ≤ i ∧ i ≤ 1000000) ∧ (0 ≤ v ∧ v ≤ 1000000) ∧ (30 ≤ d ∧ d ≤ 900) ∧ (-4000 ≤ g ∧ g ≤ 0) ∧ (1 ≤ h ∧ h ≤ 6) ∧ (0 ≤ a ∧ a ≤ 10000)
theorem LyAt.below {w w' : World} {b o : Nat} {f i v d g h a : Int} (H : LyAt w b o f i v d g h a) (hb : Below w.heap.size w w') : LyAt w' b o f i v d g h a := by
  obtain ⟨c0, c1, c2, c3, c4, c5, c6⟩ := H
  exact ⟨cell_kept hb c0, cell_kept hb c1, cell_kept hb c2, cell_kept hb c3, cell_kept hb c4, cell_kept hb c5, cell_kept hb c6⟩

/-- A slice that reads as valid layers, at most sixteen. -/
def Lys (w : World) (A : Option Addr) (n : Nat) (ls : List Ly) : Prop :=
  ls.length = n ∧ n ≤ 16 ∧ (∀ x ∈ ls, LyOk x) ∧
  (0 < n → ∃ b off, A = some ⟨b, off, none⟩ ∧ ∀ k x, ls[k]? = some x → LyAt w b (off + k * 7) x.form x.ice x.water x.dens x.deg x.hard x.age)
theorem Lys.nil (w : World) (A : Option Addr) : Lys w A 0 [] := ⟨rfl, by omega, by simp, fun h => absurd h (by omega)⟩
theorem Lys.at_ {w : World} {A : Option Addr} {n : Nat} {ls : List Ly} (H : Lys w A n ls) {k : Nat} (hk : k < n) :
    ∃ b off f i v d g h a, A = some ⟨b, off, none⟩ ∧ Hid (ls[k]? = some ⟨f, i, v, d, g, h, a⟩) ∧ LyAt w b (off + k * 7) f i v d g h a ∧ Lb f i v d g h a := by
  obtain ⟨hl, _, hok, hc⟩ := H
  obtain ⟨b, off, hA, hcell⟩ := hc (by omega)
  have hk' : k < ls.length := by omega
  have e : ls[k]? = some ls[k] := List.getElem?_eq_getElem hk'
  have o := hok _ (List.getElem_mem hk')
  exact ⟨b, off, _, _, _, _, _, _, _, hA, e, hcell k _ e, o.f, o.i, o.v, o.d, o.g, o.h, o.a⟩
theorem Lys.below {w w' : World} {A : Option Addr} {n : Nat} {ls : List Ly} (H : Lys w A n ls) (hb : Below w.heap.size w w') : Lys w' A n ls := by
  obtain ⟨hl, hn, hx, hc⟩ := H
  refine ⟨hl, hn, hx, fun h0 => ?_⟩
  obtain ⟨b, off, hA, hcell⟩ := hc h0
  exact ⟨b, off, hA, fun k x hk => (hcell k x hk).below hb⟩
theorem Lys.drewN {w : World} {A : Option Addr} {n : Nat} {ls : List Ly} (H : Lys w A n ls) (k : Nat) : Lys (w.drewN k) A n ls := H

/-! ### Layers in a row of the call's own -/
def LRow (w : World) (E g cap : Nat) (ls : List Ly) : Prop :=
  ls.length ≤ cap ∧ cap ≤ maxLen ∧ ∃ f, w.rowIs g E (cap * 7) f ∧ ∀ k x, ls[k]? = some x → ∀ t, t < 7 → f (k * 7 + t) = .int .i64 (x.fld t)
theorem LRow.lyAt {w : World} {E g cap k : Nat} {ls : List Ly} {x : Ly} (H : LRow w E g cap ls) (hk : ls[k]? = some x) : LyAt w g (k * 7) x.form x.ice x.water x.dens x.deg x.hard x.age := by
  obtain ⟨hl, _, f, hr, hf⟩ := H
  have hlt := (List.getElem?_eq_some_iff.1 hk).1
  have c := fun t (ht : t < 7) => (hr.cell (i := k * 7 + t) (by omega)).trans (by rw [hf k x hk t ht])
  exact ⟨c 0 (by omega), c 1 (by omega), c 2 (by omega), c 3 (by omega), c 4 (by omega), c 5 (by omega), c 6 (by omega)⟩
theorem LRow.free {w : World} {E g cap : Nat} {ls : List Ly} (H : LRow w E g cap ls) (o : Nat) : w.frozen? ⟨g, o, none⟩ = false := by
  obtain ⟨_, _, f, hr, _⟩ := H
  exact hr.frozen o
theorem LRow.lt {w : World} {E g cap : Nat} {ls : List Ly} (H : LRow w E g cap ls) : g < w.heap.size := by
  obtain ⟨_, _, f, hr, _⟩ := H
  exact hr.lt
theorem LRow.of_block {w w' : World} {E g cap : Nat} {ls : List Ly} (H : LRow w E g cap ls) (e : w'.heap[g]? = w.heap[g]?) : LRow w' E g cap ls := by
  obtain ⟨h1, h2, f, hr, hf⟩ := H
  exact ⟨h1, h2, f, hr.of_block e, hf⟩
theorem LRow.below {w w' : World} {E g cap : Nat} {ls : List Ly} (H : LRow w E g cap ls) (hb : Below w.heap.size w w') : LRow w' E g cap ls := H.of_block (hb.block g H.lt)
theorem LRow.drewN {w : World} {E g cap : Nat} {ls : List Ly} (H : LRow w E g cap ls) (k : Nat) : LRow (w.drewN k) E g cap ls := H
/-- One number of a layer written over. -/
theorem LRow.set {w : World} {E g cap k : Nat} {ls : List Ly} {x y : Ly} (H : LRow w E g cap ls) (hk : ls[k]? = some x) (t : Nat) (ht : t < 7) (v : Int)
    (hv : y.fld t = v) (hs : ∀ s, s < 7 → s ≠ t → y.fld s = x.fld s) : LRow (w.setCell ⟨g, k * 7 + t, none⟩ (.int .i64 v)) E g cap (ls.set k y) := by
  obtain ⟨h1, h2, f, hr, hf⟩ := H
  refine ⟨by simpa using h1, h2, _, hr.set (k * 7 + t) _, fun j z hj s hs7 => ?_⟩
  have hlt := (List.getElem?_eq_some_iff.1 hk).1
  by_cases e : j = k
  · subst e
    have : z = y := by simpa [hlt] using hj.symm
    subst this
    by_cases e2 : s = t
    · subst e2
      simp [hv]
    · have : ¬ j * 7 + s = j * 7 + t := by omega
      simp only [this, if_false]
      rw [hf j x hk s hs7, hs s hs7 e2]
  · have : ¬ j * 7 + s = k * 7 + t := by omega
    simp only [this, if_false]
    rw [List.getElem?_set_ne (by omega)] at hj
    exact hf j z hj s hs7
theorem LRow.set_form {w : World} {E g cap k : Nat} {ls : List Ly} {f i v d t h a : Int} (H : LRow w E g cap ls) (hk : ls[k]? = some ⟨f, i, v, d, t, h, a⟩) (z : Int) :
    LRow (w.setCell ⟨g, k * 7, none⟩ (.int .i64 z)) E g cap (ls.set k ⟨z, i, v, d, t, h, a⟩) :=
  H.set hk 0 (by omega) z rfl (fun s hs hne => by rcases (show s = 1 ∨ s = 2 ∨ s = 3 ∨ s = 4 ∨ s = 5 ∨ s = 6 from by omega) with rfl | rfl | rfl | rfl | rfl | rfl <;> rfl)
theorem LRow.set_ice {w : World} {E g cap k : Nat} {ls : List Ly} {f i v d t h a : Int} (H : LRow w E g cap ls) (hk : ls[k]? = some ⟨f, i, v, d, t, h, a⟩) (z : Int) :
    LRow (w.setCell ⟨g, k * 7 + 1, none⟩ (.int .i64 z)) E g cap (ls.set k ⟨f, z, v, d, t, h, a⟩) :=
  H.set hk 1 (by omega) z rfl (fun s hs hne => by rcases (show s = 0 ∨ s = 2 ∨ s = 3 ∨ s = 4 ∨ s = 5 ∨ s = 6 from by omega) with rfl | rfl | rfl | rfl | rfl | rfl <;> rfl)
theorem LRow.set_water {w : World} {E g cap k : Nat} {ls : List Ly} {f i v d t h a : Int} (H : LRow w E g cap ls) (hk : ls[k]? = some ⟨f, i, v, d, t, h, a⟩) (z : Int) :
    LRow (w.setCell ⟨g, k * 7 + 2, none⟩ (.int .i64 z)) E g cap (ls.set k ⟨f, i, z, d, t, h, a⟩) :=
  H.set hk 2 (by omega) z rfl (fun s hs hne => by rcases (show s = 0 ∨ s = 1 ∨ s = 3 ∨ s = 4 ∨ s = 5 ∨ s = 6 from by omega) with rfl | rfl | rfl | rfl | rfl | rfl <;> rfl)
theorem LRow.set_dens {w : World} {E g cap k : Nat} {ls : List Ly} {f i v d t h a : Int} (H : LRow w E g cap ls) (hk : ls[k]? = some ⟨f, i, v, d, t, h, a⟩) (z : Int) :
    LRow (w.setCell ⟨g, k * 7 + 3, none⟩ (.int .i64 z)) E g cap (ls.set k ⟨f, i, v, z, t, h, a⟩) :=
  H.set hk 3 (by omega) z rfl (fun s hs hne => by rcases (show s = 0 ∨ s = 1 ∨ s = 2 ∨ s = 4 ∨ s = 5 ∨ s = 6 from by omega) with rfl | rfl | rfl | rfl | rfl | rfl <;> rfl)
theorem LRow.set_deg {w : World} {E g cap k : Nat} {ls : List Ly} {f i v d t h a : Int} (H : LRow w E g cap ls) (hk : ls[k]? = some ⟨f, i, v, d, t, h, a⟩) (z : Int) :
    LRow (w.setCell ⟨g, k * 7 + 4, none⟩ (.int .i64 z)) E g cap (ls.set k ⟨f, i, v, d, z, h, a⟩) :=
  H.set hk 4 (by omega) z rfl (fun s hs hne => by rcases (show s = 0 ∨ s = 1 ∨ s = 2 ∨ s = 3 ∨ s = 5 ∨ s = 6 from by omega) with rfl | rfl | rfl | rfl | rfl | rfl <;> rfl)
theorem LRow.set_age {w : World} {E g cap k : Nat} {ls : List Ly} {f i v d t h a : Int} (H : LRow w E g cap ls) (hk : ls[k]? = some ⟨f, i, v, d, t, h, a⟩) (z : Int) :
    LRow (w.setCell ⟨g, k * 7 + 6, none⟩ (.int .i64 z)) E g cap (ls.set k ⟨f, i, v, d, t, h, z⟩) :=
  H.set hk 6 (by omega) z rfl (fun s hs hne => by rcases (show s = 0 ∨ s = 1 ∨ s = 2 ∨ s = 3 ∨ s = 4 ∨ s = 5 from by omega) with rfl | rfl | rfl | rfl | rfl | rfl <;> rfl)
theorem LRow.at_set {ls : List Ly} {k : Nat} {x y : Ly} (h : ls[k]? = some x) : (ls.set k y)[k]? = some y := by
  have := (List.getElem?_eq_some_iff.1 h).1
  simp [this]
theorem set_set (ls : List Ly) (k : Nat) (x y : Ly) : (ls.set k x).set k y = ls.set k y := by simp
/-- A slice of layers in memory of the call's own. -/
def LBag (w : World) (E base : Nat) (A : Option Addr) (n c : Nat) (ls : List Ly) : Prop :=
  ls.length = n ∧ n ≤ 16 ∧ (∀ x ∈ ls, LyOk x) ∧ (0 < n → ∃ g, A = some ⟨g, 0, none⟩ ∧ base ≤ g ∧ LRow w E g c ls)
theorem LBag.lys {w : World} {E base : Nat} {A : Option Addr} {n c : Nat} {ls : List Ly} (H : LBag w E base A n c ls) : Lys w A n ls := by
  obtain ⟨h1, h2, h3, h4⟩ := H
  refine ⟨h1, h2, h3, fun h0 => ?_⟩
  obtain ⟨g, hA, _, hr⟩ := h4 h0
  exact ⟨g, 0, hA, fun k x hk => by rw [Nat.zero_add]; exact hr.lyAt hk⟩
theorem LBag.below {w w' : World} {E base : Nat} {A : Option Addr} {n c : Nat} {ls : List Ly} (H : LBag w E base A n c ls) (hb : Below w.heap.size w w') : LBag w' E base A n c ls := by
  obtain ⟨h1, h2, h3, h4⟩ := H
  refine ⟨h1, h2, h3, fun h0 => ?_⟩
  obtain ⟨g, hA, hg, hr⟩ := h4 h0
  exact ⟨g, hA, hg, hr.below hb⟩
theorem LBag.base {w : World} {E base base' : Nat} {A : Option Addr} {n c : Nat} {ls : List Ly} (H : LBag w E base A n c ls) (hb : base' ≤ base) : LBag w E base' A n c ls := by
  obtain ⟨h1, h2, h3, h4⟩ := H
  refine ⟨h1, h2, h3, fun h0 => ?_⟩
  obtain ⟨g, hA, hg, hr⟩ := h4 h0
  exact ⟨g, hA, by omega, hr⟩
def lyCell (ls : List Ly) (j : Nat) : Value := .int .i64 ((ls.getD (j / 7) ⟨0, 0, 0, 0, 0, 0, 0⟩).fld (j % 7))
def lyCells (ls : List Ly) : List Value := (List.range (ls.length * 7)).map (lyCell ls)
theorem lyCells_length (ls : List Ly) : (lyCells ls).length = ls.length * 7 := by simp [lyCells]
theorem lyCells_at {ls : List Ly} {k t : Nat} {x : Ly} (hk : ls[k]? = some x) (ht : t < 7) : (lyCells ls)[k * 7 + t]? = some (.int .i64 (x.fld t)) := by
  have hlt := (List.getElem?_eq_some_iff.1 hk).1
  have e1 : (k * 7 + t) / 7 = k := by omega
  have e2 : (k * 7 + t) % 7 = t := by omega
  have e3 : k * 7 + t < ls.length * 7 := by omega
  simp only [lyCells, List.getElem?_map, List.getElem?_range e3, Option.map_some, lyCell, e1, e2, List.getD_eq_getElem?_getD, hk, Option.getD_some]
theorem lyCells_snoc (ls : List Ly) (x : Ly) : lyCells (ls ++ [x]) = lyCells ls ++ [.int .i64 x.form, .int .i64 x.ice, .int .i64 x.water, .int .i64 x.dens, .int .i64 x.deg, .int .i64 x.hard, .int .i64 x.age] := by
  apply List.ext_getElem?
  intro j
  by_cases hj : j < ls.length * 7
  · have h7 : j / 7 < ls.length := by omega
    have e : j = j / 7 * 7 + j % 7 := by omega
    rw [List.getElem?_append_left (by rw [lyCells_length]; exact hj), e,
      lyCells_at (List.getElem?_eq_getElem h7) (by omega), lyCells_at (x := ls[j / 7]) (by rw [List.getElem?_append_left h7]; exact List.getElem?_eq_getElem h7) (by omega)]
  · rw [List.getElem?_append_right (by rw [lyCells_length]; omega), lyCells_length]
    by_cases hj2 : j < ls.length * 7 + 7
    · obtain ⟨t, rfl⟩ : ∃ t, j = ls.length * 7 + t := ⟨j - ls.length * 7, by omega⟩
      have ht : t < 7 := by omega
      rw [lyCells_at (x := x) (by simp) ht, show ls.length * 7 + t - ls.length * 7 = t by omega]
      match t, ht with
      | 0, _ => rfl
      | 1, _ => rfl
      | 2, _ => rfl
      | 3, _ => rfl
      | 4, _ => rfl
      | 5, _ => rfl
      | 6, _ => rfl
    · rw [List.getElem?_eq_none (by rw [lyCells_length]; simp; omega), List.getElem?_eq_none (by simp; omega)]
theorem LBag.of_own {w : World} {E base : Nat} {A : Option Addr} {n c : Nat} {ls : List Ly} (h : w.ownsRow base E 7 (.slice A n c) n (lyCells ls)) (hn : ls.length = n) (h16 : n ≤ 16) (hok : ∀ x ∈ ls, LyOk x) : LBag w E base A n c ls := by
  refine ⟨hn, h16, hok, fun h0 => ?_⟩
  obtain ⟨g, rfl⟩ : ∃ g, A = some ⟨g, 0, none⟩ := by
    rcases h.2 with ⟨hv, h00⟩ | ⟨g, cap, cur, hv, _⟩
    · omega
    · simp only [Value.slice.injEq] at hv
      exact ⟨g, hv.1⟩
  obtain ⟨f, hbg, hnc, hcm, hxl, hrow, hf⟩ := own_to_rowIs h
  refine ⟨g, rfl, hbg, by omega, hcm, f, hrow, fun k x hk t ht => ?_⟩
  have hlt := (List.getElem?_eq_some_iff.1 hk).1
  have h1 := hf (k * 7 + t) (by omega)
  rw [lyCells_at hk ht] at h1
  injection h1 with h1
  exact h1.symm
/-- The cells of a slice of layers, one after another. -/
theorem Lys.cells {w : World} {a : Addr} {n : Nat} {ls : List Ly} (H : Lys w (some a) n ls) : ∀ j u, (lyCells ls)[j]? = some u → w.cell? (a.add j) = some u := by
  intro j u hj
  have hjl : j < ls.length * 7 := by rw [← lyCells_length]; exact (List.getElem?_eq_some_iff.1 hj).1
  have h7 : j / 7 < ls.length := by omega
  obtain ⟨hl, _, _, hc⟩ := H
  obtain ⟨b, off, hA, hcell⟩ := hc (by omega)
  injection hA with hA
  subst hA
  have hx : ls[j / 7]? = some ls[j / 7] := List.getElem?_eq_getElem h7
  obtain ⟨c0, c1, c2, c3, c4, c5, c6⟩ := hcell (j / 7) _ hx
  have e : j = j / 7 * 7 + j % 7 := by omega
  have ht : j % 7 < 7 := by omega
  rw [e, lyCells_at hx ht] at hj
  injection hj with hj
  have ea : off + j = off + j / 7 * 7 + j % 7 := by omega
  rw [← hj, Go.Addr.add_lit, ea]
  generalize j % 7 = t at ht ⊢
  generalize ls[j / 7] = x at c0 c1 c2 c3 c4 c5 c6 ⊢
  match t, ht with
  | 0, _ => exact c0
  | 1, _ => exact c1
  | 2, _ => exact c2
  | 3, _ => exact c3
  | 4, _ => exact c4
  | 5, _ => exact c5
  | 6, _ => exact c6
theorem lyCells_one (ls : List Ly) : ∀ u ∈ lyCells ls, u.oneCell' = true := by
  intro u hu
  simp [lyCells] at hu
  obtain ⟨x, _, rfl⟩ := hu
  rfl
end Go.Proofs.YtknppcgoooaaaaaGreatDoor

/-
  Layers: heat from above, draining, as plain functions, and what they keep. No program in sight.
-/
namespace Go.Proofs.YtknppcgoooaaaaaGreatDoor
set_option linter.unusedVariables false

def sumF (f : Ly → Int) (ls : List Ly) : Int := (ls.map f).sum
theorem sumF_nil (f : Ly → Int) : sumF f [] = 0 := rfl
theorem sumF_cons (f : Ly → Int) (x : Ly) (ls : List Ly) : sumF f (x :: ls) = f x + sumF f ls := by simp [sumF]
theorem sumF_append (f : Ly → Int) (a b : List Ly) : sumF f (a ++ b) = sumF f a + sumF f b := by simp [sumF]
theorem sumF_set (f : Ly → Int) {ls : List Ly} {k : Nat} {x : Ly} (h : ls[k]? = some x) (y : Ly) : sumF f (ls.set k y) = sumF f ls - f x + f y := by
  induction ls generalizing k with
  | nil => simp at h
  | cons a t ih =>
    cases k with
    | zero =>
      simp at h
      subst h
      simp only [List.set_cons_zero, sumF_cons]
      omega
    | succ k =>
      simp at h
      simp only [List.set_cons_succ, sumF_cons, ih h]
      omega
theorem sumF_take (f : Ly → Int) {ls : List Ly} {k : Nat} {x : Ly} (h : ls[k]? = some x) : sumF f (ls.take (k + 1)) = sumF f (ls.take k) + f x := by
  obtain ⟨hlt, rfl⟩ := List.getElem?_eq_some_iff.1 h
  rw [List.take_succ_eq_append_getElem hlt, sumF_append, sumF_cons, sumF_nil]
  omega
theorem sumF_bd (f : Ly → Int) (lo hi : Int) (ls : List Ly) (h : ∀ x ∈ ls, lo ≤ f x ∧ f x ≤ hi) : lo * ls.length ≤ sumF f ls ∧ sumF f ls ≤ hi * ls.length := by
  induction ls with
  | nil => simp [sumF]
  | cons a t ih =>
    have h1 := h a (by simp)
    have h2 := ih fun x hx => h x (by simp [hx])
    rw [sumF_cons, List.length_cons, show ((t.length + 1 : Nat) : Int) = (t.length : Int) + 1 by omega, Int.mul_add, Int.mul_add]
    omega

def coldN (i g : Int) : Int := (i * 21 * (-g) + 999) / 1000
def coldL (x : Ly) : Int := coldN x.ice x.deg
theorem coldN_bd {i g : Int} (hi : 1 ≤ i ∧ i ≤ 1000000) (hg : -4000 ≤ g ∧ g ≤ 0) : 0 ≤ i * 21 * (-g) ∧ i * 21 * (-g) ≤ 84000000000 ∧ 0 ≤ coldN i g ∧ coldN i g ≤ 84000000 := by
  have h1 : 0 ≤ i * 21 * (-g) := Int.mul_nonneg (by omega) (by omega)
  have h2 : i * 21 * (-g) ≤ 21000000 * 4000 := Int.mul_le_mul (by omega) (by omega) (by omega) (by omega)
  unfold coldN
  omega
theorem coldN_mono {i g i' g' : Int} (hi : 0 ≤ i') (hii : i' ≤ i) (hg' : g' ≤ 0) (hgg : g ≤ g') : coldN i' g' ≤ coldN i g := by
  have h1 : i' * 21 * (-g') ≤ i * 21 * (-g) := Int.mul_le_mul (by omega) (by omega) (by omega) (by omega)
  unfold coldN
  omega
def warmX (x : Ly) (j : Int) : Ly × Int × Bool :=
  if j < coldL x then ({ x with deg := min (x.deg + j * 1000 / (21 * x.ice)) 0 }, 0, false)
  else
    let g := min (min ((j - coldL x) / 334) (x.ice - 1)) (1000000 - x.water)
    ({ x with ice := x.ice - g, water := x.water + g, deg := 0 }, j - coldL x - g * 334, decide (334 ≤ j - coldL x - g * 334))
def coolX (x : Ly) (j : Int) : Ly × Int × Bool :=
  let g := min (min (j / 334) x.water) (1000000 - x.ice)
  let i := x.ice + g
  let r := j - g * 334
  if 0 < x.water - g then ({ x with ice := i, water := x.water - g }, r, false)
  else
    let d := min (r * 1000 / (21 * i)) (x.deg + 4000)
    ({ x with ice := i, water := x.water - g, deg := x.deg - d }, r - min ((d * 21 * i + 999) / 1000) r, decide (x.deg - d = -4000))
/-- What a change of a layer by heat keeps. -/
structure Kept (D C : Ly → Int) (x y : Ly) (j r : Int) : Prop where
  ok : LyOk y
  mass : y.ice + y.water = x.ice + x.water
  low : 0 ≤ r
  up : r ≤ j
  pay : (D x - D y) * 334 ≤ j - r
  less : D y ≤ D x
  cold : C y ≤ C x
theorem warmX_kept {x : Ly} {j : Int} (hx : LyOk x) (h0 : 0 ≤ j) : Kept Ly.ice coldL x (warmX x j).1 j (warmX x j).2.1 := by
  have hc := coldN_bd hx.i hx.g
  have e : coldL x = coldN x.ice x.deg := rfl
  obtain ⟨f, i, v, d, g, h, a⟩ := hx
  unfold warmX
  split
  · have h1 : 0 ≤ j * 1000 / (21 * x.ice) := Int.ediv_nonneg (by omega) (by omega)
    refine ⟨⟨f, i, v, d, ⟨?_, ?_⟩, h, a⟩, rfl, (by first | (simp only; omega) | omega | simp), (by first | (simp only; omega) | omega | simp), (by first | (simp only; omega) | omega | simp), (by first | (simp only; omega) | omega | simp), ?_⟩
    · simp only
      omega
    · simp only
      omega
    · exact coldN_mono (by simp only; omega) (by simp) (by simp only; omega) (by simp only; omega)
  · simp only
    generalize hgq : min (min ((j - coldL x) / 334) (x.ice - 1)) (1000000 - x.water) = q
    have hq : 0 ≤ q ∧ q ≤ x.ice - 1 ∧ q ≤ 1000000 - x.water ∧ q * 334 ≤ j - coldL x := by omega
    refine ⟨⟨f, ⟨by simp only; omega, by simp only; omega⟩, ⟨by simp only; omega, by simp only; omega⟩, d, ⟨by simp, by simp⟩, h, a⟩, (by first | (simp only; omega) | omega | simp), (by first | (simp only; omega) | omega | simp), (by first | (simp only; omega) | omega | simp), (by first | (simp only; omega) | omega | simp), (by first | (simp only; omega) | omega | simp), ?_⟩
    exact coldN_mono (by simp only; omega) (by simp only; omega) (by simp) (by simp only; omega)
theorem coolX_kept {x : Ly} {j : Int} (hx : LyOk x) (h0 : 0 ≤ j) : Kept (fun x => -x.ice) (fun _ => 0) x (coolX x j).1 j (coolX x j).2.1 := by
  obtain ⟨f, i, v, d, g, h, a⟩ := hx
  unfold coolX
  simp only
  generalize hgq : min (min (j / 334) x.water) (1000000 - x.ice) = q
  have hq : 0 ≤ q ∧ q ≤ x.water ∧ q ≤ 1000000 - x.ice ∧ q * 334 ≤ j := by omega
  split
  · exact ⟨⟨f, ⟨by simp only; omega, by simp only; omega⟩, ⟨by simp only; omega, by simp only; omega⟩, d, g, h, a⟩, by simp only; omega, by simp only; omega, by simp only; omega, by simp only; omega, by simp only; omega, by simp⟩
  · have h1 : 0 ≤ (j - q * 334) * 1000 / (21 * (x.ice + q)) := Int.ediv_nonneg (by omega) (by omega)
    generalize (j - q * 334) * 1000 / (21 * (x.ice + q)) = s at h1
    have h2 : 0 ≤ min s (x.deg + 4000) * 21 * (x.ice + q) := Int.mul_nonneg (by omega) (by omega)
    generalize min s (x.deg + 4000) * 21 * (x.ice + q) = p at h2
    exact ⟨⟨f, ⟨by simp only; omega, by simp only; omega⟩, ⟨by simp only; omega, by simp only; omega⟩, d, ⟨by simp only; omega, by simp only; omega⟩, h, a⟩, by simp only; omega, by simp only; omega, by simp only; omega, by simp only; omega, by simp only; omega, by simp⟩

/-- Heat from the top down, through the first m layers. -/
def heatF (ch : Ly → Int → Ly × Int × Bool) : Nat → List Ly → Int → List Ly × Int
  | 0, ls, j => (ls, j)
  | m + 1, ls, j =>
    match ls[m]? with
    | none => (ls, j)
    | some x => if (ch x j).2.2 then heatF ch m (ls.set m (ch x j).1) (ch x j).2.1 else (ls.set m (ch x j).1, (ch x j).2.1)
theorem heatF_go {ch : Ly → Int → Ly × Int × Bool} {m : Nat} {ls : List Ly} {j : Int} {x : Ly} (h : ls[m]? = some x) (hm : (ch x j).2.2 = true) :
    heatF ch (m + 1) ls j = heatF ch m (ls.set m (ch x j).1) (ch x j).2.1 := by simp [heatF, h, hm]
theorem heatF_end {ch : Ly → Int → Ly × Int × Bool} {m : Nat} {ls : List Ly} {j : Int} {x : Ly} (h : ls[m]? = some x) (hm : (ch x j).2.2 = false) :
    heatF ch (m + 1) ls j = (ls.set m (ch x j).1, (ch x j).2.1) := by simp [heatF, h, hm]
theorem mem_set_ok {ls : List Ly} {m : Nat} {y : Ly} (h : ∀ x ∈ ls, LyOk x) (hy : LyOk y) : ∀ x ∈ ls.set m y, LyOk x := by
  intro x hx
  rcases List.mem_or_eq_of_mem_set hx with h1 | h1
  · exact h x h1
  · subst h1; exact hy
structure KeptAll (D C : Ly → Int) (ls ls' : List Ly) (j r : Int) : Prop where
  len : ls'.length = ls.length
  ok : ∀ x ∈ ls', LyOk x
  mass : sumF Ly.ice ls' + sumF Ly.water ls' = sumF Ly.ice ls + sumF Ly.water ls
  low : 0 ≤ r
  up : r ≤ j
  pay : (sumF D ls - sumF D ls') * 334 ≤ j - r
  less : sumF D ls' ≤ sumF D ls
  cold : sumF C ls' ≤ sumF C ls
theorem Kept.all {D C : Ly → Int} {ls : List Ly} {m : Nat} {x y : Ly} {j r : Int} (h : Kept D C x y j r) (hm : ls[m]? = some x) (hok : ∀ x ∈ ls, LyOk x) : KeptAll D C ls (ls.set m y) j r := by
  have e1 := sumF_set Ly.ice hm y
  have e2 := sumF_set Ly.water hm y
  have e3 := sumF_set D hm y
  have e4 := sumF_set C hm y
  obtain ⟨a, b, c, d, e, f, g⟩ := h
  exact ⟨by simp, mem_set_ok hok a, by omega, c, d, by omega, by omega, by omega⟩
theorem KeptAll.trans {D C : Ly → Int} {a b c : List Ly} {j r s : Int} (h : KeptAll D C a b j r) (h' : KeptAll D C b c r s) : KeptAll D C a c j s := by
  obtain ⟨a1, a2, a3, a4, a5, a6, a7, a8⟩ := h
  obtain ⟨b1, b2, b3, b4, b5, b6, b7, b8⟩ := h'
  exact ⟨by omega, b2, by omega, b4, by omega, by omega, by omega, by omega⟩
theorem heatF_kept {D C : Ly → Int} {ch : Ly → Int → Ly × Int × Bool} (hch : ∀ x j, LyOk x → 0 ≤ j → Kept D C x (ch x j).1 j (ch x j).2.1) (m : Nat) (ls : List Ly) (j : Int) (hok : ∀ x ∈ ls, LyOk x) (h0 : 0 ≤ j) :
    KeptAll D C ls (heatF ch m ls j).1 j (heatF ch m ls j).2 := by
  induction m generalizing ls j with
  | zero => exact ⟨rfl, hok, rfl, h0, Int.le_refl _, by simp [heatF], Int.le_refl _, Int.le_refl _⟩
  | succ m ih =>
    cases hx : ls[m]? with
    | none =>
      have : heatF ch (m + 1) ls j = (ls, j) := by simp [heatF, hx]
      rw [this]
      exact ⟨rfl, hok, rfl, h0, Int.le_refl _, by simp, Int.le_refl _, Int.le_refl _⟩
    | some x =>
      have hk := (hch x j (hok x (List.mem_of_getElem? hx)) h0).all hx hok
      cases hm : (ch x j).2.2
      · rw [heatF_end hx hm]; exact hk
      · rw [heatF_go hx hm]; exact hk.trans (ih _ _ hk.ok hk.low)

/-- Water that runs down through the first m layers. -/
def holdN (i v : Int) : Int := min v (i * 60 / 1000)
def drainF : Nat → List Ly → Int → List Ly × Int
  | 0, ls, v => (ls, v)
  | m + 1, ls, v =>
    match ls[m]? with
    | none => (ls, v)
    | some x => drainF m (ls.set m { x with water := holdN x.ice (x.water + v) }) (x.water + v - holdN x.ice (x.water + v))
theorem drainF_go {m : Nat} {ls : List Ly} {v : Int} {x : Ly} (h : ls[m]? = some x) :
    drainF (m + 1) ls v = drainF m (ls.set m { x with water := holdN x.ice (x.water + v) }) (x.water + v - holdN x.ice (x.water + v)) := by simp [drainF, h]
theorem holdN_bd {i v : Int} (hi : 1 ≤ i ∧ i ≤ 1000000) (hv : 0 ≤ v) : 0 ≤ holdN i v ∧ holdN i v ≤ 60000 ∧ holdN i v ≤ v ∧ 1000 * holdN i v ≤ i * 60 := by
  unfold holdN
  omega
structure Drained (ls ls' : List Ly) (v r : Int) (m : Nat) : Prop where
  len : ls'.length = ls.length
  ok : ∀ x ∈ ls', LyOk x
  ice : sumF Ly.ice ls' = sumF Ly.ice ls
  water : sumF Ly.water ls' + r = sumF Ly.water ls + v
  low : 0 ≤ r
  dry : ∀ k x, k < m → ls'[k]? = some x → 1000 * x.water ≤ x.ice * 60
  rest : ∀ k, m ≤ k → ls'[k]? = ls[k]?
theorem drainF_ok (m : Nat) (ls : List Ly) (v : Int) (hok : ∀ x ∈ ls, LyOk x) (h0 : 0 ≤ v) (hml : m ≤ ls.length) : Drained ls (drainF m ls v).1 v (drainF m ls v).2 m := by
  induction m generalizing ls v with
  | zero => exact ⟨rfl, hok, rfl, rfl, h0, fun k x hk => absurd hk (by omega), fun k _ => rfl⟩
  | succ m ih =>
    cases hx : ls[m]? with
    | none =>
      have hlen : ls.length ≤ m := by simpa using hx
      omega
    | some x =>
      have hxo := hok x (List.mem_of_getElem? hx)
      obtain ⟨b1, b2, b3, b4⟩ := holdN_bd (v := x.water + v) hxo.i (by have := hxo.v; omega)
      generalize hh : holdN x.ice (x.water + v) = q at b1 b2 b3 b4
      have hy : LyOk { x with water := q } := ⟨hxo.f, hxo.i, ⟨b1, by simp only; omega⟩, hxo.d, hxo.g, hxo.h, hxo.a⟩
      have e1 := sumF_set Ly.ice hx { x with water := q }
      have e2 := sumF_set Ly.water hx { x with water := q }
      have r := ih (ls.set m { x with water := q }) (x.water + v - q) (mem_set_ok hok hy) (by omega) (by simp; omega)
      rw [drainF_go hx, hh]
      simp only at e1 e2
      refine ⟨by rw [r.len]; simp, r.ok, by rw [r.ice, e1]; omega, by have := r.water; omega, r.low, fun k z hk hz => ?_, fun k hk => ?_⟩
      · by_cases e : k < m
        · exact r.dry k z e hz
        · obtain rfl : k = m := by omega
          have h2 := r.rest k (Nat.le_refl _)
          have hlt := (List.getElem?_eq_some_iff.1 hx).1
          rw [hz] at h2
          simp [hlt] at h2
          subst h2
          exact b4
      · rw [r.rest k (by omega), List.getElem?_set_ne (by omega)]
end Go.Proofs.YtknppcgoooaaaaaGreatDoor

/-
  Layers: what the program and the reference ask of valid ones, and the sums over them.
-/
namespace Go.Proofs.YtknppcgoooaaaaaGreatDoor
open Go.ChangeShapes Go.WideShapes Go.ChangeAt Go.RowKit Go.Deep
set_option linter.unusedVariables false

theorem within_t (n lo hi : Int) (w : World) (h1 : lo ≤ n) (h2 : n ≤ hi) : Calls Tryz.prog 49 #[.int .i64 n, .int .i64 lo, .int .i64 hi] w fun e w' => e = .returned (.bool true) ∧ w = w' :=
  (within_any n lo hi w).mono fun e w' ⟨he, hw⟩ => ⟨by rw [he, inB_iff.2 ⟨h1, h2⟩], hw⟩
theorem l00In_t (n lo hi : Int) (w : World) (h1 : lo ≤ n) (h2 : n ≤ hi) : Calls Tryz.prog 108 #[.int .i64 n, .int .i64 lo, .int .i64 hi] w fun e w' => e = .returned (.bool true) ∧ w = w' :=
  (l00In_any n lo hi w).mono fun e w' ⟨he, hw⟩ => ⟨by rw [he, inB_iff.2 ⟨h1, h2⟩], hw⟩
set_option maxRecDepth 100000 in
theorem l03One_t (b o : Nat) (f i v d g h a : Int) (w : World) (H : LyAt w b o f i v d g h a) (B : Lb f i v d g h a) :
    Calls Tryz.prog 93 #[.pointer (some ⟨b, o, none⟩)] w fun e w' => e = .returned (.bool true) ∧ w = w' := by
  obtain ⟨c0, c1, c2, c3, c4, c5, c6⟩ := H
  obtain ⟨⟨b0, b0'⟩, ⟨b1, b1'⟩, ⟨b2, b2'⟩, ⟨b3, b3'⟩, ⟨b4, b4'⟩, ⟨b5, b5'⟩, b6, b6'⟩ := B
  go_enter Tryz.func93, Tryz.ntmps93
  go_wp2_with (go_at_call 108; refine (l00In_t _ _ _ _ (by omega) (by omega)).mono ?_; rintro e w' ⟨rfl, rfl⟩)
  go_ret
  exact ⟨rfl, rfl⟩
set_option maxRecDepth 100000 in
theorem l03Ok_t (A : Option Addr) (n c : Nat) (ls : List Ly) (w : World) (H : Lys w A n ls) :
    Calls Tryz.prog 67 #[.slice A n c] w fun e w' => e = .returned (.bool true) ∧ w = w' := by
  have hn := H.2.1
  go_enter Tryz.func67, Tryz.ntmps67
  go_wp2_with fail
  go_loop [3] (fun i => ∃ k : Nat, k ≤ n ∧ i = .int .i64 k) (fun i => n - (intOf i).toNat)
  case atStart => exact ⟨0, Nat.zero_le _, rfl⟩
  case round =>
    obtain ⟨k, hk, rfl⟩ := hrel
    by_cases hlt : k < n
    · obtain ⟨b, off, f, i, v, d, g, h, a, rfl, HX, hc, hb⟩ := H.at_ hlt
      have hki : (k : Int) < (n : Int) := by omega
      have HC := Lib.hid (And.intro hc hb)
      clear H hc hb
      go_wp2_with (go_at_call 93; refine (l03One_t _ _ _ _ _ _ _ _ _ _ HC.out.1 HC.out.2).mono ?_; rintro e w' ⟨rfl, rfl⟩)
      go_round
      case rel => exact ⟨k + 1, by omega, by go_num⟩
      case measure => simp [intOf]; omega
    · obtain rfl : k = n := by omega
      clear H
      go_wp2_with fail
      go_ret
      exact ⟨ret_bool (by simp; omega), rfl⟩
theorem iceS_bd {w : World} {A : Option Addr} {n : Nat} {ls : List Ly} (H : Lys w A n ls) (k : Nat) : 0 ≤ sumF Ly.ice (ls.take k) ∧ sumF Ly.ice (ls.take k) ≤ 16000000 ∧ 0 ≤ sumF Ly.water (ls.take k) ∧ sumF Ly.water (ls.take k) ≤ 16000000 := by
  have hl : (ls.take k).length ≤ 16 := by have := H.1; have := H.2.1; simp; omega
  have h1 := sumF_bd Ly.ice 0 1000000 (ls.take k) fun x hx => by have := (H.2.2.1 x (List.mem_of_mem_take hx)).i; omega
  have h2 := sumF_bd Ly.water 0 1000000 (ls.take k) fun x hx => by have := (H.2.2.1 x (List.mem_of_mem_take hx)).v; omega
  omega
theorem coldS_bd {w : World} {A : Option Addr} {n : Nat} {ls : List Ly} (H : Lys w A n ls) (k : Nat) : 0 ≤ sumF coldL (ls.take k) ∧ sumF coldL (ls.take k) ≤ 1344000000 := by
  have hl : (ls.take k).length ≤ 16 := by have := H.1; have := H.2.1; simp; omega
  have h1 := sumF_bd coldL 0 84000000 (ls.take k) fun x hx => by
    have o := H.2.2.1 x (List.mem_of_mem_take hx)
    have := coldN_bd o.i o.g
    have e : coldL x = coldN x.ice x.deg := rfl
    omega
  omega
set_option maxRecDepth 100000 in
theorem l03Mass_t (A : Option Addr) (n c : Nat) (ls : List Ly) (w : World) (H : Lys w A n ls) :
    Calls Tryz.prog 68 #[.slice A n c] w fun e w' => e = .returned (.tuple #[.int .i64 (sumF Ly.ice ls), .int .i64 (sumF Ly.water ls)]) ∧ w = w' := by
  have hn := H.2.1
  have HL := Lib.hid H.1
  go_enter Tryz.func68, Tryz.ntmps68
  go_wp2_with fail
  go_loop [4, 5, 6] (fun p q i => ∃ k : Nat, k ≤ n ∧ i = .int .i64 k ∧ p = .int .i64 (sumF Ly.ice (ls.take k)) ∧ q = .int .i64 (sumF Ly.water (ls.take k))) (fun _ _ i => n - (intOf i).toNat)
  case atStart => exact ⟨0, Nat.zero_le _, rfl, rfl, rfl⟩
  case round =>
    obtain ⟨k, hk, rfl, rfl, rfl⟩ := hrel
    have hs := iceS_bd H k
    obtain ⟨p, hp⟩ : ∃ p, p = sumF Ly.ice (ls.take k) := ⟨_, rfl⟩
    obtain ⟨q, hq⟩ : ∃ q, q = sumF Ly.water (ls.take k) := ⟨_, rfl⟩
    rw [← hp, ← hq] at hs ⊢
    have HP := Lib.hid (And.intro hp hq)
    clear hp hq
    by_cases hlt : k < n
    · obtain ⟨b, off, f, i, v, d, g, h, a, rfl, HX, hc, hb⟩ := H.at_ hlt
      have hki : (k : Int) < (n : Int) := by omega
      obtain ⟨_, c1, c2, _⟩ := hc
      obtain ⟨_, b1, b2, _⟩ := hb
      have HS := Lib.hid (And.intro (sumF_take Ly.ice HX.out) (sumF_take Ly.water HX.out))
      clear H
      go_wp2_with fail
      go_round
      case rel => exact ⟨k + 1, by omega, by go_num, by rw [HS.out.1, ← HP.out.1], by rw [HS.out.2, ← HP.out.2]⟩
      case measure => simp [intOf]; omega
    · obtain rfl : k = n := by omega
      clear H
      go_wp2_with fail
      go_ret2
      exact ⟨ret_int2 (by rw [HP.out.1, List.take_of_length_le (by rw [HL.out]; omega)]) (by rw [HP.out.2, List.take_of_length_le (by rw [HL.out]; omega)]), rfl⟩
theorem MassOf_t (A : Option Addr) (n c : Nat) (ls : List Ly) (w : World) (H : Lys w A n ls) :
    Calls Tryz.prog 31 #[.slice A n c] w fun e w' => e = .returned (.tuple #[.int .i64 (sumF Ly.ice ls), .int .i64 (sumF Ly.water ls), .int .i64 0]) ∧ w = w' := by
  go_enter Tryz.func31, Tryz.ntmps31
  go_wp2_with (first | (go_at_call 67; refine (l03Ok_t _ _ _ ls _ H).mono ?_; rintro e w' ⟨rfl, rfl⟩) | (go_at_call 68; refine (l03Mass_t _ _ _ ls _ H).mono ?_; rintro e w' ⟨rfl, rfl⟩))
  go_ret3
  exact ⟨rfl, rfl⟩
end Go.Proofs.YtknppcgoooaaaaaGreatDoor

/-
  Layers: the program's own questions, the heat a layer wants, copies; heat and draining in place.
-/
namespace Go.Proofs.YtknppcgoooaaaaaGreatDoor
open Go.ChangeShapes Go.WideShapes Go.ChangeAt Go.RowKit Go.Deep
set_option linter.unusedVariables false

theorem info_ly : (Tryz.prog.info? 44).map (fun i => (i.zero, i.size, i.bytes)) = some (some (.agg #[.int .i64 0, .int .i64 0, .int .i64 0, .int .i64 0, .int .i64 0, .int .i64 0, .int .i64 0]), 7, 56) := by kernel_rfl
set_option maxRecDepth 100000 in
theorem ValidLayer_t (f i v d g h a : Int) (w : World) (B : Lb f i v d g h a) :
    Calls Tryz.prog 58 #[Lyv f i v d g h a] w fun e w' => e = .returned (.bool true) ∧ Below w.heap.size w w' := by
  obtain ⟨⟨b0, b0'⟩, ⟨b1, b1'⟩, ⟨b2, b2'⟩, ⟨b3, b3'⟩, ⟨b4, b4'⟩, ⟨b5, b5'⟩, b6, b6'⟩ := B
  go_enter Tryz.func58, Tryz.ntmps58
  go_wp2_with (go_at_call 49; refine (within_t _ _ _ _ (by omega) (by omega)).mono ?_; rintro e w' ⟨rfl, rfl⟩)
  go_ret
  exact ⟨rfl, (Below.refl _ _).alloc (Nat.le_refl _) _⟩
theorem vp1_t (f i v d g h a : Int) (w : World) (B : Lb f i v d g h a) :
    Calls Tryz.prog 89 #[Lyv f i v d g h a] w fun e w' => e = .returned (.bool false) ∧ Below w.heap.size w w' := by
  have HB := Lib.hid B
  clear B
  go_enter Tryz.func89, Tryz.ntmps89
  go_wp2_with fail
  refine (ValidLayer_t _ _ _ _ _ _ _ _ HB.out).mono ?_
  rintro e w1 ⟨rfl, hb⟩
  have HF := Lib.hid (((Below.refl w.heap.size w).alloc (Nat.le_refl _) _).trans (hb.mono (by simp)))
  clear hb
  go_wp2_with fail
  go_ret
  exact ⟨rfl, HF.out⟩
set_option maxRecDepth 100000 in
theorem indexLy_t (A : Option Addr) (n c : Nat) (ls : List Ly) (w : World) (H : Lys w A n ls) :
    Calls Tryz.prog 107 #[.slice A n c, .func (.func 89) #[] #[]] w fun e w' => e = .returned (.int .i64 (-1)) ∧ Below w.heap.size w w' := by
  have hn := H.2.1
  go_enter Tryz.func107, Tryz.ntmps107
  go_wp2_with fail
  go_loopw [5, 8] (fun _ i wr => ∃ j : Nat, j ≤ n ∧ i = .int .i64 j ∧ Below w.heap.size w wr) (fun _ i _ => n - (intOf i).toNat)
  case atStart => exact ⟨0, Nat.zero_le _, rfl, Below.refl _ _⟩
  case round =>
    obtain ⟨k, hk, rfl, hbl⟩ := hrel
    by_cases hlt : k < n
    · obtain ⟨b, off, f, i, v, d, g, h, a, rfl, HX, hc, hb⟩ := (H.below hbl).at_ hlt
      have hki : (k : Int) < (n : Int) := by omega
      have HC := Lib.hid (And.intro hb hbl)
      obtain ⟨c0, c1, c2, c3, c4, c5, c6⟩ := hc
      clear H hb hbl
      go_wp2_with fail
      refine (vp1_t _ _ _ _ _ _ _ _ HC.out.1).mono ?_
      rintro e w2 ⟨rfl, hb2⟩
      have HB2 := Lib.hid (HC.out.2.trans (hb2.mono HC.out.2.size))
      clear hb2 c0 c1 c2 c3 c4 c5 c6
      go_wp2_with fail
      go_roundw
      case rel => exact ⟨k + 1, by omega, by go_num, HB2.out⟩
      case measure => simp [intOf]; omega
    · obtain rfl : k = n := by omega
      have HB := Lib.hid hbl
      clear H hbl
      go_wp2_with fail
      go_ret
      exact ⟨rfl, HB.out⟩
theorem containsLy_t (A : Option Addr) (n c : Nat) (ls : List Ly) (w : World) (H : Lys w A n ls) :
    Calls Tryz.prog 88 #[.slice A n c, .func (.func 89) #[] #[]] w fun e w' => e = .returned (.bool false) ∧ Below w.heap.size w w' := by
  go_enter Tryz.func88, Tryz.ntmps88
  go_wp2_with fail
  refine (indexLy_t A n _ ls _ H).mono ?_
  rintro e w1 ⟨rfl, hb⟩
  have HB := Lib.hid hb
  clear hb H
  go_wp2_with fail
  go_ret
  exact ⟨rfl, HB.out⟩
theorem ValidProfile_t (A : Option Addr) (n c : Nat) (ls : List Ly) (w : World) (H : Lys w A n ls) :
    Calls Tryz.prog 54 #[.slice A n c] w fun e w' => e = .returned (.bool true) ∧ Below w.heap.size w w' := by
  have hn := H.2.1
  have hni : (n : Int) ≤ 16 := by omega
  have hnd : decide ((n : Int) ≤ 16) = true := by simp; omega
  go_enter Tryz.func54, Tryz.ntmps54
  go_wp2_with fail
  refine (containsLy_t A n _ ls _ H).mono ?_
  rintro e w1 ⟨rfl, hb⟩
  have HB := Lib.hid hb
  clear hb H
  go_wp2_with fail
  go_ret
  exact ⟨rfl, HB.out⟩
theorem abs_neg (n : Int) (w : World) (h1 : -4000 ≤ n) (h2 : n ≤ 0) : Calls Tryz.prog 91 #[.int .i64 n] w fun e w' => e = .returned (.int .i64 (-n)) ∧ w = w' :=
  (abs_any n w (by omega) (by omega)).mono fun e w' ⟨he, hw⟩ => ⟨by rw [he]; exact ret_int (by unfold absI; split <;> omega), hw⟩
end Go.Proofs.YtknppcgoooaaaaaGreatDoor

/-
  Layers: copies, heat and draining in place.
-/
namespace Go.Proofs.YtknppcgoooaaaaaGreatDoor
open Go.ChangeShapes Go.WideShapes Go.ChangeAt Go.RowKit Go.Deep
set_option linter.unusedVariables false

set_option maxRecDepth 100000 in
set_option maxHeartbeats 400000 in
theorem cloneLy_t (A : Option Addr) (n c : Nat) (ls : List Ly) (w : World) (H : Lys w A n ls) :
    Calls Tryz.prog 59 #[.slice A n c] w fun e w' => ∃ A' c', e = .returned (.slice A' n c') ∧ LBag w' 44 w.heap.size A' n c' ls ∧ Below w.heap.size w w' := by
  have hn := H.2.1
  cases A with
  | none =>
    obtain rfl : n = 0 := by
      rcases Nat.eq_zero_or_pos n with h | h
      · exact h
      · obtain ⟨b, off, e, _⟩ := H.2.2.2 h
        cases e
    have HL := Lib.hid H
    have hnil := fun W => Lib.run_eql_slice_nil (P := Tryz.prog) W 41 44 none 0 c 0 0 Tryz.underlying41
    clear H
    go_enter Tryz.func59, Tryz.ntmps59
    go_wp2_with fail
    go_ret
    exact ⟨none, 0, rfl, ⟨HL.out.1, hn, HL.out.2.2.1, fun h => absurd h (by omega)⟩, Below.refl _ _⟩
  | some a =>
    have HL := Lib.hid H.1
    have HK := Lib.hid H.2.2.1
    have HC := Lib.hid (H.below ((Below.refl _ _).alloc (Nat.le_refl _) (.cells #[] 44))).cells
    have hown := World.ownsRow_lit (base := w.heap.size) (e := 44) (size := 7) w #[] 0 (Nat.le_refl _) (by simp) rfl
    have hnil := fun W => Lib.run_eql_slice_nil (P := Tryz.prog) W 41 44 (some a) n c 0 0 Tryz.underlying41
    obtain ⟨i0, hi, hz0, hz1, hz2⟩ := info_parts info_ly
    have HO := Lib.hid hown
    clear hown H
    go_enter Tryz.func59, Tryz.ntmps59
    go_wp2_with (at_builtin; refine wpList_append_own _ rfl _ _ 41 rfl w.heap.size 44 i0 (.agg #[.int .i64 0, .int .i64 0, .int .i64 0, .int .i64 0, .int .i64 0, .int .i64 0, .int .i64 0]) 7 56 Tryz.underlying41 hi hz0 hz1 hz2 rfl (by decide) _ 0 [] rfl HO.out a n c (lyCells ls) rfl (by rw [lyCells_length, HL.out]) HC.out (lyCells_one _) (by unfold maxLen; omega) (by omega) (by simp) ?_; intro v' w1 hown1 hgrow1 hv1)
    go_ret
    obtain ⟨A', c', rfl, _⟩ := own_form hown1
    rw [Nat.zero_add, List.nil_append] at hown1
    exact ⟨A', c', by rw [Nat.zero_add]; rfl, LBag.of_own hown1 HL.out hn HK.out, ((Below.refl _ _).alloc (Nat.le_refl _) _).grown hgrow1 (by simp) (fun k hk => (HO.out.lt k hk).1)⟩
theorem below_grownBy {w w' : World} (h : Below w.heap.size w w') (r : Option Nat) : w.grownBy w' r := ⟨h.os, h.tape, h.output, h.size, fun k hk _ => h.block k hk⟩
/-- What a change of a layer by heat is to do. -/
def HeatAt (F : Nat) (ch : Ly → Int → Ly × Int × Bool) : Prop :=
  ∀ (E g cap k : Nat) (ls : List Ly) (x : Ly) (j : Int) (w : World), LRow w E g cap ls → ls[k]? = some x → LyOk x → 0 ≤ j → j ≤ 100000000 →
    Calls Tryz.prog F #[.pointer (some ⟨g, k * 7, none⟩), .int .i64 j] w fun e w' => e = .returned (.tuple #[.int .i64 (ch x j).2.1, .bool (ch x j).2.2]) ∧ LRow w' E g cap (ls.set k (ch x j).1) ∧ w.grownBy w' (some g)
end Go.Proofs.YtknppcgoooaaaaaGreatDoor

/-
  Draws of layers and profiles: whatever is drawn is valid.
-/
namespace Go.Proofs.YtknppcgoooaaaaaGreatDoor
open Go.ChangeShapes Go.WideShapes Go.ChangeAt Go.RowKit Go.Deep
set_option linter.unusedVariables false

abbrev lyArr (f i v d t h a : Int) : Array Value := #[.int .i64 f, .int .i64 i, .int .i64 v, .int .i64 d, .int .i64 t, .int .i64 h, .int .i64 a]
/-- A layer under way in a block of its own, beside the source and the place of the result. -/
structure DS (w wr : World) (q m rb xb : Nat) (f i v d t h a : Int) : Prop where
  src : SrcP wr q m
  grow : w.grownBy wr (some q)
  blk : wr.heap[xb]? = some (.cells (lyArr f i v d t h a) 44 (0, 0))
  res : wr.heap[rb]? = some (.cells (lyArr 0 0 0 0 0 0 0) 44 (0, 0))
  hq : q < rb
  hr : rb < xb
theorem DS.call {w wr w2 : World} {q m m' rb xb : Nat} {f i v d t h a : Int} (H : DS w wr q m rb xb f i v d t h a) (hs : SrcP w2 q m') (hg : wr.grownBy w2 (some q)) : DS w w2 q m' rb xb f i v d t h a := by
  have h1 := (Array.getElem?_eq_some_iff.1 H.blk).1
  have h2 := (Array.getElem?_eq_some_iff.1 H.res).1
  have hq := H.hq
  have hr := H.hr
  exact ⟨hs, H.grow.trans hg, (hg.block xb h1 (fun e => by injection e; omega)).trans H.blk, (hg.block rb h2 (fun e => by injection e; omega)).trans H.res, hq, hr⟩
theorem DS.set {w wr : World} {q m rb xb : Nat} {f i v d t h a f' i' v' d' t' h' a' : Int} (H : DS w wr q m rb xb f i v d t h a) (hB : w.heap.size ≤ xb) (n : Nat) (z : Int)
    (e : (lyArr f i v d t h a).setIfInBounds n (.int .i64 z) = lyArr f' i' v' d' t' h' a') : DS w (wr.setCell ⟨xb, n, none⟩ (.int .i64 z)) q m rb xb f' i' v' d' t' h' a' := by
  have hgs : wr.grownBy (wr.setCell ⟨xb, n, none⟩ (.int .i64 z)) (some xb) := grown_setCell (World.grownBy.refl wr (some xb)) rfl _
  have hq := H.hq
  have hr := H.hr
  refine ⟨H.src.grow hgs (fun g e => by injection e; omega), ?_, ?_, ?_, hq, hr⟩
  · exact ⟨hgs.os.trans H.grow.os, hgs.tape.trans H.grow.tape, hgs.output.trans H.grow.output, Nat.le_trans H.grow.size hgs.size, fun k hk hne => (hgs.block k (Nat.lt_of_lt_of_le hk H.grow.size) (fun e => by injection e; omega)).trans (H.grow.block k hk hne)⟩
  · rw [← e]; exact Go.Joins.block_setCell (i := n) H.blk (.int .i64 z)
  · exact (hgs.block rb (Array.getElem?_eq_some_iff.1 H.res).1 (fun e => by injection e; omega)).trans H.res
theorem DS.cell {w wr : World} {q m rb xb : Nat} {f i v d t h a : Int} (H : DS w wr q m rb xb f i v d t h a) (n : Nat) : wr.cell? ⟨xb, n, none⟩ = (lyArr f i v d t h a)[n]? := by
  have := Go.Joins.cell_of_block H.blk n
  simpa using this
theorem DS.free {w wr : World} {q m rb xb : Nat} {f i v d t h a : Int} (H : DS w wr q m rb xb f i v d t h a) (n : Nat) : wr.frozen? ⟨xb, n, none⟩ = false := Go.Joins.unfrozen_of_block H.blk n
theorem grown_belowL {w wr w' : World} {r : Option Nat} (h : w.grownBy wr r) (hb : Below wr.heap.size wr w') : w.grownBy w' r :=
  ⟨hb.os.trans h.os, hb.tape.trans h.tape, hb.output.trans h.output, Nat.le_trans h.size hb.size, fun k hk hne => (hb.block k (Nat.lt_of_lt_of_le hk h.size)).trans (h.block k hk hne)⟩
theorem rb_keep {w wr : World} {q m rb : Nat} (hs : SrcP wr q m) (hg : w.grownBy wr (some q)) (hq : q < rb) (hB : w.heap.size ≤ rb) (a0 a1 a2 a3 a4 a5 a6 : Value) :
    SrcP (((((((wr.setCell ⟨rb, 0, none⟩ a0).setCell ⟨rb, 1, none⟩ a1).setCell ⟨rb, 2, none⟩ a2).setCell ⟨rb, 3, none⟩ a3).setCell ⟨rb, 4, none⟩ a4).setCell ⟨rb, 5, none⟩ a5).setCell ⟨rb, 6, none⟩ a6) q m ∧ w.grownBy (((((((wr.setCell ⟨rb, 0, none⟩ a0).setCell ⟨rb, 1, none⟩ a1).setCell ⟨rb, 2, none⟩ a2).setCell ⟨rb, 3, none⟩ a3).setCell ⟨rb, 4, none⟩ a4).setCell ⟨rb, 5, none⟩ a5).setCell ⟨rb, 6, none⟩ a6) (some q) := by
  have hgs : wr.grownBy (((((((wr.setCell ⟨rb, 0, none⟩ a0).setCell ⟨rb, 1, none⟩ a1).setCell ⟨rb, 2, none⟩ a2).setCell ⟨rb, 3, none⟩ a3).setCell ⟨rb, 4, none⟩ a4).setCell ⟨rb, 5, none⟩ a5).setCell ⟨rb, 6, none⟩ a6) (some rb) := grown_setCell (p := ⟨rb, 6, none⟩) (grown_setCell (p := ⟨rb, 5, none⟩) (grown_setCell (p := ⟨rb, 4, none⟩) (grown_setCell (p := ⟨rb, 3, none⟩) (grown_setCell (p := ⟨rb, 2, none⟩) (grown_setCell (p := ⟨rb, 1, none⟩) (grown_setCell (p := ⟨rb, 0, none⟩) (World.grownBy.refl wr (some rb)) rfl a0) rfl a1) rfl a2) rfl a3) rfl a4) rfl a5) rfl a6
  refine ⟨hs.grow hgs (fun g e => by injection e; omega), ?_⟩
  exact ⟨hgs.os.trans hg.os, hgs.tape.trans hg.tape, hgs.output.trans hg.output, Nat.le_trans hg.size hgs.size, fun k hk hne => (hgs.block k (Nat.lt_of_lt_of_le hk hg.size) (fun e => by injection e; omega)).trans (hg.block k hk hne)⟩
theorem lt_of_pick {x k : Int} (h0 : 0 ≤ x) (h : x < k ∨ x = 0) (hk : 0 < k) : x < k := by omega
set_option maxRecDepth 100000 in
set_option maxHeartbeats 2000000 in
theorem l03DrawOne_d (q m : Nat) (w : World) (H : SrcP w q m) (hm : m ≤ 10000000000) :
    Calls Tryz.prog 53 #[.pointer (some ⟨q, 0, none⟩)] w fun e w' => (∃ f i v d t h a, e = .returned (Lyv f i v d t h a) ∧ Lb f i v d t h a) ∧ SrcP w' q (m + 20) ∧ w.grownBy w' (some q) := by
  have hq := H.lt
  have hb0 : Below w.heap.size w (w.alloc (.cells (lyArr 0 0 0 0 0 0 0) 44)) := (Below.refl _ _).alloc (Nat.le_refl _) _
  have H0 := Lib.hid (And.intro (H.below hb0) hb0)
  clear H hb0
  go_enter Tryz.func53, Tryz.ntmps53
  go_wp2_with fail
  refine (pick_p _ _ 6 _ H0.out.1 (by omega) (by omega)).mono ?_
  rintro e w1 ⟨⟨x1, rfl, hx1, hx1'⟩, hs1, hg1⟩
  replace hx1' := lt_of_pick hx1 hx1' (by omega)
  have hz1 : w.heap.size < w1.heap.size := by have := hg1.size; simp at this; omega
  have hba : Below w1.heap.size w1 (w1.alloc (.cells (lyArr (1 + x1) 0 0 0 0 0 0) 44)) := (Below.refl _ _).alloc (Nat.le_refl _) _
  have H1 := Lib.hid (show DS w (w1.alloc (.cells (lyArr (1 + x1) 0 0 0 0 0 0) 44)) q (m + 2) w.heap.size w1.heap.size (1 + x1) 0 0 0 0 0 0 from
    ⟨hs1.below hba, grown_belowL (grown_alloc hg1) hba, blk_alloc_new _ _, (hba.block _ hz1).trans ((hg1.block _ (by simp) (fun e => by injection e; omega)).trans (blk_alloc_new _ _)), hq, hz1⟩)
  clear hs1 hg1 hba
  go_wp2_with fail
  refine (pick_p _ _ 120 _ H1.out.src (by omega) (by omega)).mono ?_
  rintro e w2 ⟨⟨x2, rfl, hx2, hx2'⟩, hs2, hg2⟩
  replace hx2' := lt_of_pick hx2 hx2' (by omega)
  have HA2 := Lib.hid (H1.out.call hs2 hg2)
  have c2 := HA2.out.cell 1
  simp only [List.getElem?_toArray, List.getElem?_cons_zero, List.getElem?_cons_succ] at c2
  have u2 := HA2.out.free 1
  have HB2 := Lib.hid (HA2.out.set (by omega) 1 (1000 + 500 * x2) rfl)
  clear hs2 hg2
  go_wp2_with fail
  rw [show w2.heap.size = (w2.setCell ⟨w1.heap.size, 1, none⟩ (.int .i64 (1000 + 500 * x2))).heap.size by simp [World.setCell]]
  refine (among_lit _ _ [0, 0, 0, 100, 700, 3000] _ _ _ _ _ HB2.out.src (by omega) rfl rfl (by decide) (by decide) (by decide)).mono ?_
  rintro e w3 ⟨⟨x3, hx3, rfl⟩, hs3, hg3⟩
  replace hx3 : 0 ≤ x3 ∧ x3 ≤ 3000 := by
    simp only [List.mem_cons, List.not_mem_nil, or_false] at hx3
    omega
  have HA3 := Lib.hid (HB2.out.call hs3 hg3)
  have c3 := HA3.out.cell 2
  simp only [List.getElem?_toArray, List.getElem?_cons_zero, List.getElem?_cons_succ] at c3
  have u3 := HA3.out.free 2
  have HB3 := Lib.hid (HA3.out.set (by omega) 2 (x3) rfl)
  clear hs3 hg3
  clear c2 u2
  go_wp2_with fail
  refine (pick_p _ _ 40 _ HB3.out.src (by omega) (by omega)).mono ?_
  rintro e w4 ⟨⟨x4, rfl, hx4, hx4'⟩, hs4, hg4⟩
  replace hx4' := lt_of_pick hx4 hx4' (by omega)
  have HA4 := Lib.hid (HB3.out.call hs4 hg4)
  have c4 := HA4.out.cell 3
  simp only [List.getElem?_toArray, List.getElem?_cons_zero, List.getElem?_cons_succ] at c4
  have u4 := HA4.out.free 3
  have HB4 := Lib.hid (HA4.out.set (by omega) 3 (60 + 10 * x4) rfl)
  clear hs4 hg4
  clear c3 u3
  go_wp2_with fail
  refine (pick_p _ _ 30 _ HB4.out.src (by omega) (by omega)).mono ?_
  rintro e w5 ⟨⟨x5, rfl, hx5, hx5'⟩, hs5, hg5⟩
  replace hx5' := lt_of_pick hx5 hx5' (by omega)
  have HA5 := Lib.hid (HB4.out.call hs5 hg5)
  have c5 := HA5.out.cell 4
  simp only [List.getElem?_toArray, List.getElem?_cons_zero, List.getElem?_cons_succ] at c5
  have u5 := HA5.out.free 4
  have HB5 := Lib.hid (HA5.out.set (by omega) 4 (-50 * x5) rfl)
  clear hs5 hg5
  clear c4 u4
  have cw := HA5.out.cell 2
  simp only [List.getElem?_toArray, List.getElem?_cons_zero, List.getElem?_cons_succ] at cw
  have hz5 : w.heap.size < w1.heap.size := hz1
  by_cases hw : 0 < x3
  · have HC := Lib.hid (HB5.out.set (by omega) 4 0 rfl)
    go_wp2_with fail
    refine (pick_p _ _ 6 _ HC.out.src (by omega) (by omega)).mono ?_
    rintro e w6 ⟨⟨x6, rfl, hx6, hx6'⟩, hs6, hg6⟩
    replace hx6' := lt_of_pick hx6 hx6' (by omega)
    have HA6 := Lib.hid (HC.out.call hs6 hg6)
    have c6 := HA6.out.cell 5
    simp only [List.getElem?_toArray, List.getElem?_cons_zero, List.getElem?_cons_succ] at c6
    have u6 := HA6.out.free 5
    have HB6 := Lib.hid (HA6.out.set (by omega) 5 (1 + x6) rfl)
    clear hs6 hg6
    go_wp2_with fail
    refine (pick_p _ _ 400 _ HB6.out.src (by omega) (by omega)).mono ?_
    rintro e w7 ⟨⟨x7, rfl, hx7, hx7'⟩, hs7, hg7⟩
    replace hx7' := lt_of_pick hx7 hx7' (by omega)
    have HA7 := Lib.hid (HB6.out.call hs7 hg7)
    have c7 := HA7.out.cell 6
    simp only [List.getElem?_toArray, List.getElem?_cons_zero, List.getElem?_cons_succ] at c7
    have u7 := HA7.out.free 6
    have HB7 := Lib.hid (HA7.out.set (by omega) 6 (x7) rfl)
    clear hs7 hg7
    clear c6 u6 c7
    have d0 := HA7.out.cell 0
    have d1 := HA7.out.cell 1
    have d2 := HA7.out.cell 2
    have d3 := HA7.out.cell 3
    have d4 := HA7.out.cell 4
    have d5 := HA7.out.cell 5
    have d6 := HA7.out.cell 6
    simp only [List.getElem?_toArray, List.getElem?_cons_zero, List.getElem?_cons_succ] at d0 d1 d2 d3 d4 d5 d6
    have r0 := Go.Joins.unfrozen_of_block HA7.out.res 0
    have r1 := Go.Joins.unfrozen_of_block HA7.out.res 1
    have r2 := Go.Joins.unfrozen_of_block HA7.out.res 2
    have r3 := Go.Joins.unfrozen_of_block HA7.out.res 3
    have r4 := Go.Joins.unfrozen_of_block HA7.out.res 4
    have r5 := Go.Joins.unfrozen_of_block HA7.out.res 5
    have r6 := Go.Joins.unfrozen_of_block HA7.out.res 6
    have k0 := Go.Joins.cell_of_block HA7.out.res 0
    have k1 := Go.Joins.cell_of_block HA7.out.res 1
    have k2 := Go.Joins.cell_of_block HA7.out.res 2
    have k3 := Go.Joins.cell_of_block HA7.out.res 3
    have k4 := Go.Joins.cell_of_block HA7.out.res 4
    have k5 := Go.Joins.cell_of_block HA7.out.res 5
    have k6 := Go.Joins.cell_of_block HA7.out.res 6
    simp only [List.getElem?_toArray, List.getElem?_cons_zero, List.getElem?_cons_succ] at k0 k1 k2 k3 k4 k5 k6
    have hne : w.heap.size ≠ w1.heap.size := by omega
    have HE := Lib.hid (rb_keep (rb := w.heap.size) HB7.out.src HB7.out.grow hq (Nat.le_refl _) (.int .i64 (1 + x1)) (.int .i64 (1000 + 500 * x2)) (.int .i64 x3) (.int .i64 (60 + 10 * x4)) (.int .i64 (0)) (.int .i64 (1 + x6)) (.int .i64 x7))
    go_wp2_with fail
    exact bodyPost_ret (v := Lyv (1 + x1) (1000 + 500 * x2) x3 (60 + 10 * x4) (0) (1 + x6) x7) (by simp [results, Tryz.results53, go_sem, *]) rfl ⟨⟨_, _, _, _, _, _, _, rfl, by omega, by omega, by omega, by omega, by omega, by omega, by omega⟩, HE.out.1.mono (by omega), HE.out.2⟩
  · go_wp2_with fail
    refine (pick_p _ _ 6 _ HB5.out.src (by omega) (by omega)).mono ?_
    rintro e w6 ⟨⟨x6, rfl, hx6, hx6'⟩, hs6, hg6⟩
    replace hx6' := lt_of_pick hx6 hx6' (by omega)
    have HA6 := Lib.hid (HB5.out.call hs6 hg6)
    have c6 := HA6.out.cell 5
    simp only [List.getElem?_toArray, List.getElem?_cons_zero, List.getElem?_cons_succ] at c6
    have u6 := HA6.out.free 5
    have HB6 := Lib.hid (HA6.out.set (by omega) 5 (1 + x6) rfl)
    clear hs6 hg6
    go_wp2_with fail
    refine (pick_p _ _ 400 _ HB6.out.src (by omega) (by omega)).mono ?_
    rintro e w7 ⟨⟨x7, rfl, hx7, hx7'⟩, hs7, hg7⟩
    replace hx7' := lt_of_pick hx7 hx7' (by omega)
    have HA7 := Lib.hid (HB6.out.call hs7 hg7)
    have c7 := HA7.out.cell 6
    simp only [List.getElem?_toArray, List.getElem?_cons_zero, List.getElem?_cons_succ] at c7
    have u7 := HA7.out.free 6
    have HB7 := Lib.hid (HA7.out.set (by omega) 6 (x7) rfl)
    clear hs7 hg7
    clear c6 u6 c7
    have d0 := HA7.out.cell 0
    have d1 := HA7.out.cell 1
    have d2 := HA7.out.cell 2
    have d3 := HA7.out.cell 3
    have d4 := HA7.out.cell 4
    have d5 := HA7.out.cell 5
    have d6 := HA7.out.cell 6
    simp only [List.getElem?_toArray, List.getElem?_cons_zero, List.getElem?_cons_succ] at d0 d1 d2 d3 d4 d5 d6
    have r0 := Go.Joins.unfrozen_of_block HA7.out.res 0
    have r1 := Go.Joins.unfrozen_of_block HA7.out.res 1
    have r2 := Go.Joins.unfrozen_of_block HA7.out.res 2
    have r3 := Go.Joins.unfrozen_of_block HA7.out.res 3
    have r4 := Go.Joins.unfrozen_of_block HA7.out.res 4
    have r5 := Go.Joins.unfrozen_of_block HA7.out.res 5
    have r6 := Go.Joins.unfrozen_of_block HA7.out.res 6
    have k0 := Go.Joins.cell_of_block HA7.out.res 0
    have k1 := Go.Joins.cell_of_block HA7.out.res 1
    have k2 := Go.Joins.cell_of_block HA7.out.res 2
    have k3 := Go.Joins.cell_of_block HA7.out.res 3
    have k4 := Go.Joins.cell_of_block HA7.out.res 4
    have k5 := Go.Joins.cell_of_block HA7.out.res 5
    have k6 := Go.Joins.cell_of_block HA7.out.res 6
    simp only [List.getElem?_toArray, List.getElem?_cons_zero, List.getElem?_cons_succ] at k0 k1 k2 k3 k4 k5 k6
    have hne : w.heap.size ≠ w1.heap.size := by omega
    have HE := Lib.hid (rb_keep (rb := w.heap.size) HB7.out.src HB7.out.grow hq (Nat.le_refl _) (.int .i64 (1 + x1)) (.int .i64 (1000 + 500 * x2)) (.int .i64 x3) (.int .i64 (60 + 10 * x4)) (.int .i64 (-50 * x5)) (.int .i64 (1 + x6)) (.int .i64 x7))
    go_wp2_with fail
    exact bodyPost_ret (v := Lyv (1 + x1) (1000 + 500 * x2) x3 (60 + 10 * x4) (-50 * x5) (1 + x6) x7) (by simp [results, Tryz.results53, go_sem, *]) rfl ⟨⟨_, _, _, _, _, _, _, rfl, by omega, by omega, by omega, by omega, by omega, by omega, by omega⟩, HE.out.1.mono (by omega), HE.out.2⟩
end Go.Proofs.YtknppcgoooaaaaaGreatDoor

/-
  Draws of profiles; the law's own small numbers.
-/
namespace Go.Proofs.YtknppcgoooaaaaaGreatDoor
open Go.ChangeShapes Go.WideShapes Go.ChangeAt Go.RowKit Go.Deep
set_option linter.unusedVariables false

theorem grown_newL {w wr w' : World} {r r' : Option Nat} (h : w.grownBy wr r) (h' : wr.grownBy w' r') (hr : ∀ g, r' = some g → w.heap.size ≤ g) : w.grownBy w' r :=
  ⟨h'.os.trans h.os, h'.tape.trans h.tape, h'.output.trans h.output, Nat.le_trans h.size h'.size, fun k hk hne => (h'.block k (Nat.lt_of_lt_of_le hk h.size) (fun e => by have := hr k e.symm; omega)).trans (h.block k hk hne)⟩
theorem ly_ok {f i v d t h a : Int} (B : Lb f i v d t h a) : LyOk ⟨f, i, v, d, t, h, a⟩ := ⟨B.1, B.2.1, B.2.2.1, B.2.2.2.1, B.2.2.2.2.1, B.2.2.2.2.2.1, B.2.2.2.2.2.2⟩
/-- Layers under way in memory made behind a source. -/
def LWay (w : World) (B j : Nat) (o : Value) (ls : List Ly) : Prop := w.ownsRow B 44 7 o j (lyCells ls) ∧ ls.length = j ∧ ∀ x ∈ ls, LyOk x
theorem LWay.src {w w' : World} {B j q : Nat} {o : Value} {ls : List Ly} (h : LWay w B j o ls) (hg : w.grownBy w' (some q)) (hq : q < B) : LWay w' B j o ls :=
  ⟨h.1.kept hg (.inr fun e => by have := own_blk h.1 _ e; omega), h.2⟩
theorem lway_step {w wr w4 : World} {q m B j : Nat} {f i v d t h a : Int} {o v' : Value} {ls : List Ly} (hs : SrcP wr q m) (hg : w.grownBy wr (some q)) (hbag : LWay wr B j o ls) (hb : Lb f i v d t h a) (hq : q < B) (hB : w.heap.size ≤ B)
    (hown : w4.ownsRow B 44 7 v' (j + 1) (lyCells ls ++ [.int .i64 f, .int .i64 i, .int .i64 v, .int .i64 d, .int .i64 t, .int .i64 h, .int .i64 a])) (hgrow : wr.grownBy w4 o.ownBlock) : SrcP w4 q m ∧ w.grownBy w4 (some q) ∧ LWay w4 B (j + 1) v' (ls ++ [⟨f, i, v, d, t, h, a⟩]) := by
  refine ⟨hs.grow hgrow (fun g hg => by have := own_blk hbag.1 g hg; omega), grown_newL hg hgrow (fun g hg => by have := own_blk hbag.1 g hg; omega), by rw [lyCells_snoc]; exact hown, by simp [hbag.2.1], fun p hp => ?_⟩
  rw [List.mem_append] at hp
  rcases hp with hp | hp
  · exact hbag.2.2 p hp
  · simp at hp
    subst hp
    exact ly_ok hb
set_option maxRecDepth 100000 in
set_option maxHeartbeats 1600000 in
theorem l03Draw_d (q m : Nat) (w : World) (h : SrcP w q m) (hm : m ≤ 1000000000) :
    Calls Tryz.prog 52 #[.pointer (some ⟨q, 0, none⟩)] w fun e w' => (∃ A n c ls, e = .returned (.slice A n c) ∧ LWay w' w.heap.size n (.slice A n c) ls ∧ n ≤ 5) ∧ SrcP w' q (m + 200) ∧ w.grownBy w' (some q) := by
  have hq := h.lt
  have HH := Lib.hid h
  clear h
  have hown0 := World.ownsRow_lit (base := w.heap.size) (e := 44) (size := 7) w #[] 0 (Nat.le_refl _) (by simp) rfl
  have hba : Below w.heap.size w (w.alloc (.cells #[] 44)) := (Below.refl _ _).alloc (Nat.le_refl _) _
  have H0 := Lib.hid (And.intro (HH.out.below hba) (And.intro (grown_belowL (World.grownBy.refl w (some q)) hba) (show LWay (w.alloc (.cells #[] 44)) w.heap.size 0 (.slice (some ⟨w.heap.size, 0, none⟩) 0 0) [] from ⟨hown0, rfl, by simp⟩)))
  clear hown0 hba
  go_enter Tryz.func52, Tryz.ntmps52
  go_wp2_with fail
  refine (pick_p _ _ 6 _ H0.out.1 (by omega) (by omega)).mono ?_
  rintro e w1 ⟨⟨x, rfl, hx1, hx2⟩, hs1, hg1⟩
  replace hx2 := lt_of_pick hx1 hx2 (by omega)
  have H1 := Lib.hid (And.intro hs1 (And.intro (H0.out.2.1.trans hg1) (H0.out.2.2.src hg1 hq)))
  clear hs1 hg1
  go_wp2_with fail
  go_loopw [3, 4] (fun o kv wr => ∃ (k j : Nat) (ls : List Ly), k + j ≤ 5 ∧ kv = .int .i64 k ∧ SrcP wr q (m + 2 + 20 * j) ∧ w.grownBy wr (some q) ∧ LWay wr w.heap.size j o ls) (fun _ kv _ => (intOf kv).toNat)
  case atStart =>
    obtain ⟨k, rfl⟩ : ∃ k : Nat, x = (k : Int) := ⟨x.toNat, by omega⟩
    exact ⟨k, 0, [], by omega, rfl, H1.out.1, H1.out.2.1, H1.out.2.2⟩
  case round =>
    clear H1 H0 hx1 hx2
    obtain ⟨k, j, ls, hkj, rfl, hs, hgr, hbag⟩ := hrel
    have hz := hgr.size
    have HR := Lib.hid (And.intro hs (And.intro hgr hbag))
    clear hs hgr hbag
    by_cases hk : 0 < k
    · have hki : (0 : Int) < (k : Int) := by omega
      go_wp2_with fail
      refine (l03DrawOne_d _ _ _ HR.out.1 (by omega)).mono ?_
      rintro e w2 ⟨⟨f, i, v, d, t, hh, a, rfl, hb⟩, hs2, hg2⟩
      have hz2 := hg2.size
      have H2 := Lib.hid (And.intro hs2 (And.intro (HR.out.2.1.trans hg2) (And.intro (HR.out.2.2.src hg2 hq) hb)))
      clear hs2 hg2 hb
      go_wp2_with (at_builtin; refine wp_app rfl (.tmp 12) (.tmp 15) 41 rfl w.heap.size 44 (.agg #[.int .i64 0, .int .i64 0, .int .i64 0, .int .i64 0, .int .i64 0, .int .i64 0, .int .i64 0]) 7 56 Tryz.underlying41 info_ly rfl (by omega) _ j (lyCells ls) rfl H2.out.2.2.1.1 [.int .i64 f, .int .i64 i, .int .i64 v, .int .i64 d, .int .i64 t, .int .i64 hh, .int .i64 a] rfl (by rfl) (by intro u hu; simp at hu; rcases hu with rfl | rfl | rfl | rfl | rfl | rfl | rfl <;> rfl) (by unfold maxLen; omega) (by omega) (by omega) ?_; intro v' w5 hown5 hgrow5 hv5)
      have HF := Lib.hid (lway_step H2.out.1 H2.out.2.1 H2.out.2.2.1 H2.out.2.2.2 hq (Nat.le_refl _) hown5 hgrow5)
      clear hown5 hgrow5
      go_roundw
      case rel => exact ⟨k - 1, j + 1, _, by omega, by rw [show ((k - 1 : Nat) : Int) = (k : Int) - 1 by omega], HF.out.1.mono (by omega), HF.out.2.1, HF.out.2.2⟩
      case measure => simp [intOf]; omega
    · obtain rfl : k = 0 := by omega
      obtain ⟨A', c', rfl, _⟩ := own_form HR.out.2.2.1
      go_wp2_with fail
      go_ret
      exact ⟨⟨_, _, _, _, rfl, HR.out.2.2, by omega⟩, HR.out.1.mono (by omega), HR.out.2.1⟩
theorem R8Profile_d (A : Option Addr) (n c : Nat) (w : World) (h : Byts w A n) :
    Calls Tryz.prog 18 #[.slice A n c] w fun e w' => (∃ A' n' c' ls, e = .returned (.slice A' n' c') ∧ Lys w' A' n' ls ∧ n' ≤ 5) ∧ Below w.heap.size w w' := by
  have HH := Lib.hid h
  clear h
  go_enter Tryz.func18, Tryz.ntmps18
  go_wp2_with fail
  refine (from_p _ _ _ _ HH.out).mono ?_
  rintro e w1 ⟨rfl, hs1, hb1⟩
  have H1 := Lib.hid (And.intro hs1 hb1)
  clear hs1 hb1
  go_wp2_with fail
  refine (l03Draw_d _ _ _ H1.out.1 (by omega)).mono ?_
  rintro e w2 ⟨⟨A', n', c', ls, rfl, hbag, hn5⟩, hs2, hg2⟩
  have H2 := Lib.hid (And.intro (show Lys w2 A' n' ls from (LBag.of_own hbag.1 hbag.2.1 (by omega) hbag.2.2).lys) (below_grown H1.out.2 hg2 H1.out.2.size (Nat.le_refl _)))
  clear hs2 hg2 hbag
  go_wp2_with fail
  go_ret
  exact ⟨⟨_, _, _, _, rfl, H2.out.1, hn5⟩, H2.out.2⟩
end Go.Proofs.YtknppcgoooaaaaaGreatDoor
