/-
  Layers of snow as seven numbers, and slices of them that read as lists. No program in sight.
-/
import Derived.Test.YtlfjjdglffiinaaMem
namespace Go.Proofs.Ytlfjjdglffiinaa
open Go.ChangeShapes Go.WideShapes Go.ChangeAt Go.RowKit Go.Deep
set_option linter.unusedVariables false

structure Ly where
  form : Int
  ice : Int
  water : Int
  dens : Int
  deg : Int
  hard : Int
  age : Int
def Ly.fld (x : Ly) (t : Nat) : Int :=
  match t with
  | 0 => x.form
  | 1 => x.ice
  | 2 => x.water
  | 3 => x.dens
  | 4 => x.deg
  | 5 => x.hard
  | _ => x.age
structure LyOk (x : Ly) : Prop where
  f : 1 ≤ x.form ∧ x.form ≤ 6
  i : 1 ≤ x.ice ∧ x.ice ≤ 1000000
  v : 0 ≤ x.water ∧ x.water ≤ 1000000
  d : 30 ≤ x.dens ∧ x.dens ≤ 900
  g : -4000 ≤ x.deg ∧ x.deg ≤ 0
  h : 1 ≤ x.hard ∧ x.hard ≤ 6
  a : 0 ≤ x.age ∧ x.age ≤ 10000
abbrev Lyv (f i v d g h a : Int) : Value := .agg #[.int .i64 f, .int .i64 i, .int .i64 v, .int .i64 d, .int .i64 g, .int .i64 h, .int .i64 a]
/-- Seven cells of a block that hold a layer. -/
def LyAt (w : World) (b o : Nat) (f i v d g h a : Int) : Prop :=
  w.cell? ⟨b, o, none⟩ = some (.int .i64 f) ∧ w.cell? ⟨b, o + 1, none⟩ = some (.int .i64 i) ∧ w.cell? ⟨b, o + 2, none⟩ = some (.int .i64 v) ∧ w.cell? ⟨b, o + 3, none⟩ = some (.int .i64 d) ∧
  w.cell? ⟨b, o + 4, none⟩ = some (.int .i64 g) ∧ w.cell? ⟨b, o + 5, none⟩ = some (.int .i64 h) ∧ w.cell? ⟨b, o + 6, none⟩ = some (.int .i64 a)
def Lb (f i v d g h a : Int) : Prop :=
  (1 ≤ f ∧ f ≤ 6) ∧ (1 ≤ i ∧ i ≤ 1000000) ∧ (0 ≤ v ∧ v ≤ 1000000) ∧ (30 ≤ d ∧ d ≤ 900) ∧ (-4000 ≤ g ∧ g ≤ 0) ∧ (1 ≤ h ∧ h ≤ 6) ∧ (0 ≤ a ∧ a ≤ 10000)
theorem LyAt.below {w w' : World} {b o : Nat} {f i v d g h a : Int} (H : LyAt w b o f i v d g h a) (hb : Below w.heap.size w w') : LyAt w' b o f i v d g h a := by
  obtain ⟨c0, c1, c2, c3, c4, c5, c6⟩ := H
  exact ⟨cell_kept hb c0, cell_kept hb c1, cell_kept hb c2, cell_kept hb c3, cell_kept hb c4, cell_kept hb c5, cell_kept hb c6⟩

/-- A slice that reads as valid layers, at most sixteen. -/
def Lys (w : World) (A : Option Addr) (n : Nat) (ls : List Ly) : Prop :=
  ls.length = n ∧ n ≤ 16 ∧ (∀ x ∈ ls, LyOk x) ∧
  (0 < n → ∃ b off, A = some ⟨b, off, none⟩ ∧ ∀ k x, ls[k]? = some x → LyAt w b (off + k * 7) x.form x.ice x.water x.dens x.deg x.hard x.age)
theorem Lys.nil (w : World) (A : Option Addr) : Lys w A 0 [] := ⟨rfl, by omega, by simp, fun h => absurd h (by omega)⟩
theorem Lys.at_ {w : World} {A : Option Addr} {n : Nat} {ls : List Ly} (H : Lys w A n ls) {k : Nat} (hk : k < n) :
    ∃ b off f i v d g h a, A = some ⟨b, off, none⟩ ∧ Hid (ls[k]? = some ⟨f, i, v, d, g, h, a⟩) ∧ LyAt w b (off + k * 7) f i v d g h a ∧ Lb f i v d g h a := by
  obtain ⟨hl, _, hok, hc⟩ := H
  obtain ⟨b, off, hA, hcell⟩ := hc (by omega)
  have hk' : k < ls.length := by omega
  have e : ls[k]? = some ls[k] := List.getElem?_eq_getElem hk'
  have o := hok _ (List.getElem_mem hk')
  exact ⟨b, off, _, _, _, _, _, _, _, hA, e, hcell k _ e, o.f, o.i, o.v, o.d, o.g, o.h, o.a⟩
theorem Lys.below {w w' : World} {A : Option Addr} {n : Nat} {ls : List Ly} (H : Lys w A n ls) (hb : Below w.heap.size w w') : Lys w' A n ls := by
  obtain ⟨hl, hn, hx, hc⟩ := H
  refine ⟨hl, hn, hx, fun h0 => ?_⟩
  obtain ⟨b, off, hA, hcell⟩ := hc h0
  exact ⟨b, off, hA, fun k x hk => (hcell k x hk).below hb⟩
theorem Lys.drewN {w : World} {A : Option Addr} {n : Nat} {ls : List Ly} (H : Lys w A n ls) (k : Nat) : Lys (w.drewN k) A n ls := H

/-! ### Layers in a row of the call's own -/
def LRow (w : World) (E g cap : Nat) (ls : List Ly) : Prop :=
  ls.length ≤ cap ∧ cap ≤ maxLen ∧ ∃ f, w.rowIs g E (cap * 7) f ∧ ∀ k x, ls[k]? = some x → ∀ t, t < 7 → f (k * 7 + t) = .int .i64 (x.fld t)
theorem LRow.lyAt {w : World} {E g cap k : Nat} {ls : List Ly} {x : Ly} (H : LRow w E g cap ls) (hk : ls[k]? = some x) : LyAt w g (k * 7) x.form x.ice x.water x.dens x.deg x.hard x.age := by
  obtain ⟨hl, _, f, hr, hf⟩ := H
  have hlt := (List.getElem?_eq_some_iff.1 hk).1
  have c := fun t (ht : t < 7) => (hr.cell (i := k * 7 + t) (by omega)).trans (by rw [hf k x hk t ht])
  exact ⟨c 0 (by omega), c 1 (by omega), c 2 (by omega), c 3 (by omega), c 4 (by omega), c 5 (by omega), c 6 (by omega)⟩
theorem LRow.free {w : World} {E g cap : Nat} {ls : List Ly} (H : LRow w E g cap ls) (o : Nat) : w.frozen? ⟨g, o, none⟩ = false := by
  obtain ⟨_, _, f, hr, _⟩ := H
  exact hr.frozen o
theorem LRow.lt {w : World} {E g cap : Nat} {ls : List Ly} (H : LRow w E g cap ls) : g < w.heap.size := by
  obtain ⟨_, _, f, hr, _⟩ := H
  exact hr.lt
theorem LRow.of_block {w w' : World} {E g cap : Nat} {ls : List Ly} (H : LRow w E g cap ls) (e : w'.heap[g]? = w.heap[g]?) : LRow w' E g cap ls := by
  obtain ⟨h1, h2, f, hr, hf⟩ := H
  exact ⟨h1, h2, f, hr.of_block e, hf⟩
theorem LRow.below {w w' : World} {E g cap : Nat} {ls : List Ly} (H : LRow w E g cap ls) (hb : Below w.heap.size w w') : LRow w' E g cap ls := H.of_block (hb.block g H.lt)
theorem LRow.drewN {w : World} {E g cap : Nat} {ls : List Ly} (H : LRow w E g cap ls) (k : Nat) : LRow (w.drewN k) E g cap ls := H
/-- One number of a layer written over. -/
theorem LRow.set {w : World} {E g cap k : Nat} {ls : List Ly} {x y : Ly} (H : LRow w E g cap ls) (hk : ls[k]? = some x) (t : Nat) (ht : t < 7) (v : Int)
    (hv : y.fld t = v) (hs : ∀ s, s < 7 → s ≠ t → y.fld s = x.fld s) : LRow (w.setCell ⟨g, k * 7 + t, none⟩ (.int .i64 v)) E g cap (ls.set k y) := by
  obtain ⟨h1, h2, f, hr, hf⟩ := H
  refine ⟨by simpa using h1, h2, _, hr.set (k * 7 + t) _, fun j z hj s hs7 => ?_⟩
  have hlt := (List.getElem?_eq_some_iff.1 hk).1
  by_cases e : j = k
  · subst e
    have : z = y := by simpa [hlt] using hj.symm
    subst this
    by_cases e2 : s = t
    · subst e2
      simp [hv]
    · have : ¬ j * 7 + s = j * 7 + t := by omega
      simp only [this, if_false]
      rw [hf j x hk s hs7, hs s hs7 e2]
  · have : ¬ j * 7 + s = k * 7 + t := by omega
    simp only [this, if_false]
    rw [List.getElem?_set_ne (by omega)] at hj
    exact hf j z hj s hs7
theorem LRow.set_form {w : World} {E g cap k : Nat} {ls : List Ly} {f i v d t h a : Int} (H : LRow w E g cap ls) (hk : ls[k]? = some ⟨f, i, v, d, t, h, a⟩) (z : Int) :
    LRow (w.setCell ⟨g, k * 7, none⟩ (.int .i64 z)) E g cap (ls.set k ⟨z, i, v, d, t, h, a⟩) :=
  H.set hk 0 (by omega) z rfl (fun s hs hne => by rcases (show s = 1 ∨ s = 2 ∨ s = 3 ∨ s = 4 ∨ s = 5 ∨ s = 6 from by omega) with rfl | rfl | rfl | rfl | rfl | rfl <;> rfl)
theorem LRow.set_ice {w : World} {E g cap k : Nat} {ls : List Ly} {f i v d t h a : Int} (H : LRow w E g cap ls) (hk : ls[k]? = some ⟨f, i, v, d, t, h, a⟩) (z : Int) :
    LRow (w.setCell ⟨g, k * 7 + 1, none⟩ (.int .i64 z)) E g cap (ls.set k ⟨f, z, v, d, t, h, a⟩) :=
  H.set hk 1 (by omega) z rfl (fun s hs hne => by rcases (show s = 0 ∨ s = 2 ∨ s = 3 ∨ s = 4 ∨ s = 5 ∨ s = 6 from by omega) with rfl | rfl | rfl | rfl | rfl | rfl <;> rfl)
theorem LRow.set_water {w : World} {E g cap k : Nat} {ls : List Ly} {f i v d t h a : Int} (H : LRow w E g cap ls) (hk : ls[k]? = some ⟨f, i, v, d, t, h, a⟩) (z : Int) :
    LRow (w.setCell ⟨g, k * 7 + 2, none⟩ (.int .i64 z)) E g cap (ls.set k ⟨f, i, z, d, t, h, a⟩) :=
  H.set hk 2 (by omega) z rfl (fun s hs hne => by rcases (show s = 0 ∨ s = 1 ∨ s = 3 ∨ s = 4 ∨ s = 5 ∨ s = 6 from by omega) with rfl | rfl | rfl | rfl | rfl | rfl <;> rfl)
theorem LRow.set_dens {w : World} {E g cap k : Nat} {ls : List Ly} {f i v d t h a : Int} (H : LRow w E g cap ls) (hk : ls[k]? = some ⟨f, i, v, d, t, h, a⟩) (z : Int) :
    LRow (w.setCell ⟨g, k * 7 + 3, none⟩ (.int .i64 z)) E g cap (ls.set k ⟨f, i, v, z, t, h, a⟩) :=
  H.set hk 3 (by omega) z rfl (fun s hs hne => by rcases (show s = 0 ∨ s = 1 ∨ s = 2 ∨ s = 4 ∨ s = 5 ∨ s = 6 from by omega) with rfl | rfl | rfl | rfl | rfl | rfl <;> rfl)
theorem LRow.set_deg {w : World} {E g cap k : Nat} {ls : List Ly} {f i v d t h a : Int} (H : LRow w E g cap ls) (hk : ls[k]? = some ⟨f, i, v, d, t, h, a⟩) (z : Int) :
    LRow (w.setCell ⟨g, k * 7 + 4, none⟩ (.int .i64 z)) E g cap (ls.set k ⟨f, i, v, d, z, h, a⟩) :=
  H.set hk 4 (by omega) z rfl (fun s hs hne => by rcases (show s = 0 ∨ s = 1 ∨ s = 2 ∨ s = 3 ∨ s = 5 ∨ s = 6 from by omega) with rfl | rfl | rfl | rfl | rfl | rfl <;> rfl)
theorem LRow.set_age {w : World} {E g cap k : Nat} {ls : List Ly} {f i v d t h a : Int} (H : LRow w E g cap ls) (hk : ls[k]? = some ⟨f, i, v, d, t, h, a⟩) (z : Int) :
    LRow (w.setCell ⟨g, k * 7 + 6, none⟩ (.int .i64 z)) E g cap (ls.set k ⟨f, i, v, d, t, h, z⟩) :=
  H.set hk 6 (by omega) z rfl (fun s hs hne => by rcases (show s = 0 ∨ s = 1 ∨ s = 2 ∨ s = 3 ∨ s = 4 ∨ s = 5 from by omega) with rfl | rfl | rfl | rfl | rfl | rfl <;> rfl)
theorem LRow.at_set {ls : List Ly} {k : Nat} {x y : Ly} (h : ls[k]? = some x) : (ls.set k y)[k]? = some y := by
  have := (List.getElem?_eq_some_iff.1 h).1
  simp [this]
theorem set_set (ls : List Ly) (k : Nat) (x y : Ly) : (ls.set k x).set k y = ls.set k y := by simp
/-- A slice of layers in memory of the call's own. -/
def LBag (w : World) (E base : Nat) (A : Option Addr) (n c : Nat) (ls : List Ly) : Prop :=
  ls.length = n ∧ n ≤ 16 ∧ (∀ x ∈ ls, LyOk x) ∧ (0 < n → ∃ g, A = some ⟨g, 0, none⟩ ∧ base ≤ g ∧ LRow w E g c ls)
theorem LBag.lys {w : World} {E base : Nat} {A : Option Addr} {n c : Nat} {ls : List Ly} (H : LBag w E base A n c ls) : Lys w A n ls := by
  obtain ⟨h1, h2, h3, h4⟩ := H
  refine ⟨h1, h2, h3, fun h0 => ?_⟩
  obtain ⟨g, hA, _, hr⟩ := h4 h0
  exact ⟨g, 0, hA, fun k x hk => by rw [Nat.zero_add]; exact hr.lyAt hk⟩
theorem LBag.below {w w' : World} {E base : Nat} {A : Option Addr} {n c : Nat} {ls : List Ly} (H : LBag w E base A n c ls) (hb : Below w.heap.size w w') : LBag w' E base A n c ls := by
  obtain ⟨h1, h2, h3, h4⟩ := H
  refine ⟨h1, h2, h3, fun h0 => ?_⟩
  obtain ⟨g, hA, hg, hr⟩ := h4 h0
  exact ⟨g, hA, hg, hr.below hb⟩
theorem LBag.base {w : World} {E base base' : Nat} {A : Option Addr} {n c : Nat} {ls : List Ly} (H : LBag w E base A n c ls) (hb : base' ≤ base) : LBag w E base' A n c ls := by
  obtain ⟨h1, h2, h3, h4⟩ := H
  refine ⟨h1, h2, h3, fun h0 => ?_⟩
  obtain ⟨g, hA, hg, hr⟩ := h4 h0
  exact ⟨g, hA, by omega, hr⟩
def lyCell (ls : List Ly) (j : Nat) : Value := .int .i64 ((ls.getD (j / 7) ⟨0, 0, 0, 0, 0, 0, 0⟩).fld (j % 7))
def lyCells (ls : List Ly) : List Value := (List.range (ls.length * 7)).map (lyCell ls)
theorem lyCells_length (ls : List Ly) : (lyCells ls).length = ls.length * 7 := by simp [lyCells]
theorem lyCells_at {ls : List Ly} {k t : Nat} {x : Ly} (hk : ls[k]? = some x) (ht : t < 7) : (lyCells ls)[k * 7 + t]? = some (.int .i64 (x.fld t)) := by
  have hlt := (List.getElem?_eq_some_iff.1 hk).1
  have e1 : (k * 7 + t) / 7 = k := by omega
  have e2 : (k * 7 + t) % 7 = t := by omega
  have e3 : k * 7 + t < ls.length * 7 := by omega
  simp only [lyCells, List.getElem?_map, List.getElem?_range e3, Option.map_some, lyCell, e1, e2, List.getD_eq_getElem?_getD, hk, Option.getD_some]
theorem lyCells_snoc (ls : List Ly) (x : Ly) : lyCells (ls ++ [x]) = lyCells ls ++ [.int .i64 x.form, .int .i64 x.ice, .int .i64 x.water, .int .i64 x.dens, .int .i64 x.deg, .int .i64 x.hard, .int .i64 x.age] := by
  apply List.ext_getElem?
  intro j
  by_cases hj : j < ls.length * 7
  · have h7 : j / 7 < ls.length := by omega
    have e : j = j / 7 * 7 + j % 7 := by omega
    rw [List.getElem?_append_left (by rw [lyCells_length]; exact hj), e,
      lyCells_at (List.getElem?_eq_getElem h7) (by omega), lyCells_at (x := ls[j / 7]) (by rw [List.getElem?_append_left h7]; exact List.getElem?_eq_getElem h7) (by omega)]
  · rw [List.getElem?_append_right (by rw [lyCells_length]; omega), lyCells_length]
    by_cases hj2 : j < ls.length * 7 + 7
    · obtain ⟨t, rfl⟩ : ∃ t, j = ls.length * 7 + t := ⟨j - ls.length * 7, by omega⟩
      have ht : t < 7 := by omega
      rw [lyCells_at (x := x) (by simp) ht, show ls.length * 7 + t - ls.length * 7 = t by omega]
      match t, ht with
      | 0, _ => rfl
      | 1, _ => rfl
      | 2, _ => rfl
      | 3, _ => rfl
      | 4, _ => rfl
      | 5, _ => rfl
      | 6, _ => rfl
    · rw [List.getElem?_eq_none (by rw [lyCells_length]; simp; omega), List.getElem?_eq_none (by simp; omega)]
theorem LBag.of_own {w : World} {E base : Nat} {A : Option Addr} {n c : Nat} {ls : List Ly} (h : w.ownsRow base E 7 (.slice A n c) n (lyCells ls)) (hn : ls.length = n) (h16 : n ≤ 16) (hok : ∀ x ∈ ls, LyOk x) : LBag w E base A n c ls := by
  refine ⟨hn, h16, hok, fun h0 => ?_⟩
  obtain ⟨g, rfl⟩ : ∃ g, A = some ⟨g, 0, none⟩ := by
    rcases h.2 with ⟨hv, h00⟩ | ⟨g, cap, cur, hv, _⟩
    · omega
    · simp only [Value.slice.injEq] at hv
      exact ⟨g, hv.1⟩
  obtain ⟨f, hbg, hnc, hcm, hxl, hrow, hf⟩ := own_to_rowIs h
  refine ⟨g, rfl, hbg, by omega, hcm, f, hrow, fun k x hk t ht => ?_⟩
  have hlt := (List.getElem?_eq_some_iff.1 hk).1
  have h1 := hf (k * 7 + t) (by omega)
  rw [lyCells_at hk ht] at h1
  injection h1 with h1
  exact h1.symm
/-- The cells of a slice of layers, one after another. -/
theorem Lys.cells {w : World} {a : Addr} {n : Nat} {ls : List Ly} (H : Lys w (some a) n ls) : ∀ j u, (lyCells ls)[j]? = some u → w.cell? (a.add j) = some u := by
  intro j u hj
  have hjl : j < ls.length * 7 := by rw [← lyCells_length]; exact (List.getElem?_eq_some_iff.1 hj).1
  have h7 : j / 7 < ls.length := by omega
  obtain ⟨hl, _, _, hc⟩ := H
  obtain ⟨b, off, hA, hcell⟩ := hc (by omega)
  injection hA with hA
  subst hA
  have hx : ls[j / 7]? = some ls[j / 7] := List.getElem?_eq_getElem h7
  obtain ⟨c0, c1, c2, c3, c4, c5, c6⟩ := hcell (j / 7) _ hx
  have e : j = j / 7 * 7 + j % 7 := by omega
  have ht : j % 7 < 7 := by omega
  rw [e, lyCells_at hx ht] at hj
  injection hj with hj
  have ea : off + j = off + j / 7 * 7 + j % 7 := by omega
  rw [← hj, Go.Addr.add_lit, ea]
  generalize j % 7 = t at ht ⊢
  generalize ls[j / 7] = x at c0 c1 c2 c3 c4 c5 c6 ⊢
  match t, ht with
  | 0, _ => exact c0
  | 1, _ => exact c1
  | 2, _ => exact c2
  | 3, _ => exact c3
  | 4, _ => exact c4
  | 5, _ => exact c5
  | 6, _ => exact c6
theorem lyCells_one (ls : List Ly) : ∀ u ∈ lyCells ls, u.oneCell' = true := by
  intro u hu
  simp [lyCells] at hu
  obtain ⟨x, _, rfl⟩ := hu
  rfl
end Go.Proofs.Ytlfjjdglffiinaa
