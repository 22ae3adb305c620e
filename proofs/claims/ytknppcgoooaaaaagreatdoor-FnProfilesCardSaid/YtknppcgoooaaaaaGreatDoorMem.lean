/-
  What memory holds, for walks: a slice of numbers that reads as a list; draws and new blocks leave it as it is; an argument opened to it.
-/
import Derived.Test.YtknppcgoooaaaaaGreatDoorBase
import Derived.ProofKit
import Derived.OpenShut
import Derived.ShutString
import Derived.ChangeOld
import Derived.Below
import Derived.Carry
import Derived.Deep.Slices
import Derived.Deep.Fields
import Derived.ChangeSame
import Derived.Lib.SmallJoins
import Derived.Laws.OwnMore
import Derived.Laws.MakeOwn
import Derived.Deep.Draws
import Derived.Deep.OwnRows
import Derived.Deep.RegionHeld3
import Derived.Deep.AppendLies
namespace Go.Proofs.YtknppcgoooaaaaaGreatDoor
open Go.ChangeShapes Go.WideShapes Go.ChangeAt Go.RowKit Go.Deep

/-! ### Worlds -/
theorem below_drewN {B : Nat} {a w : World} (h : Below B a w) (n : Nat) : Below B a (w.drewN n) := ⟨h.os, h.tape, h.output, h.size, h.block⟩
theorem cell_lt {w : World} {b o : Nat} {v : Value} (h : w.cell? ⟨b, o, none⟩ = some v) : b < w.heap.size := World.block_lt_of_cell? w _ h
/-- All cells of old blocks read as they did; for a walk. -/
theorem bcell {W w1 : World} (hb : Below W.heap.size W w1) : (∀ b o, b < W.heap.size → w1.cell? ⟨b, o, none⟩ = W.cell? ⟨b, o, none⟩) ∧ (∀ b o, b < W.heap.size → w1.frozen? ⟨b, o, none⟩ = W.frozen? ⟨b, o, none⟩) :=
  ⟨fun b o h => hb.cell (p := ⟨b, o, none⟩) h, fun b o h => hb.frozen (p := ⟨b, o, none⟩) h⟩

/-! ### A slice of numbers that reads as a list -/
def Ints (w : World) (A : Option Addr) (n : Nat) (xs : List Int) : Prop :=
  xs.length = n ∧ n ≤ 9223372036854775807 ∧ (∀ x ∈ xs, -9223372036854775808 ≤ x ∧ x ≤ 9223372036854775807) ∧
  (0 < n → ∃ b off, A = some ⟨b, off, none⟩ ∧ ∀ k, k < n → w.cell? ⟨b, off + k, none⟩ = some (.int .i64 (xs.getD k 0)))

theorem Ints.nil (w : World) (A : Option Addr) : Ints w A 0 [] := ⟨rfl, by omega, by simp, fun h => absurd h (by omega)⟩
theorem Ints.at_ {w : World} {A : Option Addr} {n : Nat} {xs : List Int} (h : Ints w A n xs) {k : Nat} (hk : k < n) :
    ∃ b off x, A = some ⟨b, off, none⟩ ∧ Hid (xs[k]? = some x) ∧ w.cell? ⟨b, off + k, none⟩ = some (.int .i64 x) ∧ -9223372036854775808 ≤ x ∧ x ≤ 9223372036854775807 := by
  obtain ⟨hl, _, hb, hc⟩ := h
  obtain ⟨b, off, hA, hcell⟩ := hc (by omega)
  have hk' : k < xs.length := by omega
  refine ⟨b, off, xs[k], hA, List.getElem?_eq_getElem hk', ?_, hb _ (List.getElem_mem hk')⟩
  rw [hcell k hk, List.getD_eq_getElem?_getD, List.getElem?_eq_getElem hk']
  rfl
theorem Ints.below {w w' : World} {A : Option Addr} {n : Nat} {xs : List Int} (h : Ints w A n xs) (hb : Below w.heap.size w w') : Ints w' A n xs := by
  obtain ⟨hl, hn, hx, hc⟩ := h
  refine ⟨hl, hn, hx, fun h0 => ?_⟩
  obtain ⟨b, off, hA, hcell⟩ := hc h0
  refine ⟨b, off, hA, fun k hk => ?_⟩
  have := hcell k hk
  rw [hb.cell (p := ⟨b, off + k, none⟩) (cell_lt this)]
  exact this
/-- A slice is kept by whatever leaves its own block alone. -/
theorem Ints.keep {w w' : World} {A : Option Addr} {n : Nat} {xs : List Int} (h : Ints w A n xs) {row : Option Nat} (hg : w.grownBy w' row) (hne : ∀ b off, A = some ⟨b, off, none⟩ → some b ≠ row) : Ints w' A n xs := by
  obtain ⟨hl, hn, hx, hc⟩ := h
  refine ⟨hl, hn, hx, fun h0 => ?_⟩
  obtain ⟨b, off, hA, hcell⟩ := hc h0
  exact ⟨b, off, hA, fun k hk => hg.cell (hcell k hk) (hne b off hA)⟩
theorem Ints.drewN {w : World} {A : Option Addr} {n : Nat} {xs : List Int} (h : Ints w A n xs) (k : Nat) : Ints (w.drewN k) A n xs := h
theorem Ints.of_own {w : World} {base e : Nat} {A : Option Addr} {n c : Nat} {xs : List Int} (h : w.ownsRow base e 1 (.slice A n c) n (xs.map (.int .i64))) (hx : ∀ x ∈ xs, -9223372036854775808 ≤ x ∧ x ≤ 9223372036854775807) : Ints w A n xs := by
  have hl : xs.length = n := by have := h.1; simpa using this
  rcases h.2 with ⟨hv, h0⟩ | ⟨g, cap, cur, hv, hg, hh, hnc, hcm, hs, ht⟩
  · subst h0
    exact ⟨hl, by omega, hx, fun h => absurd h (by omega)⟩
  · simp only [Value.slice.injEq] at hv
    obtain ⟨rfl, _, rfl⟩ := hv
    refine ⟨hl, by unfold maxLen at hcm; omega, hx, fun _ => ⟨g, 0, rfl, fun k hk => ?_⟩⟩
    have hk' : k < xs.length := by omega
    rw [cell_of_row w g (0 + k) cur e (0, 0) hh, Nat.zero_add]
    have h1 : (cur.toList.take (n * 1))[k]? = some (.int .i64 xs[k]) := by rw [ht]; simp [hk']
    rw [List.getElem?_take, if_pos (by omega)] at h1
    rw [List.getD_eq_getElem?_getD, List.getElem?_eq_getElem hk']
    simpa using h1

/-- An argument that is a slice of numbers. -/
theorem ints_open {H : Type} {enc : TypeId × Value → H} {P : Program} {w : World} {t e : TypeId} {A : Option Addr} {n c : Nat} {d : DataW H} {p : List MemPlace} {held : Bool}
    (ht : P.underlying t = some (.slice e)) (he : P.underlying e = some (.int .i64)) (hc : P.cellsOf e = 1) (h : DataW.Trod enc P w 0 (fun _ => true) held t (.slice A n c) d p) :
    ∃ xs, Ints w A n xs := by
  obtain ⟨fuel, hf⟩ := h
  rcases open_ints ht he hc hf with ⟨hcs, _⟩ | ⟨x, l, c', zs, hcs, _, hl, hm, hz, _, hcell, hwz⟩
  · simp [Value.cells] at hcs
    obtain ⟨rfl, rfl, rfl⟩ := hcs
    exact ⟨[], Ints.nil _ _⟩
  · simp [Value.cells] at hcs
    obtain ⟨rfl, rfl, rfl⟩ := hcs
    have hz' : zs.length = c := by simpa using hz
    refine ⟨zs.take n, by rw [List.length_take]; omega, by unfold maxLen at hm; omega, fun y hy => ?_, fun h0 => ?_⟩
    · have h1 := hwz y (List.mem_of_mem_take hy)
      simpa [Lit.wf, IntKind.min, IntKind.max, IntKind.signed, IntKind.bits] using h1
    · obtain ⟨b, off, spot⟩ := x
      have hc0 := hcell 0 (by omega)
      have hspot : spot = none := by simpa [Addr.add] using World.cell?_spot hc0
      subst hspot
      refine ⟨b, off, rfl, fun k hk => ?_⟩
      have h1 := hcell k (by omega)
      rw [Go.Addr.add_lit] at h1
      rw [h1, List.getD_eq_getElem?_getD, List.getD_eq_getElem?_getD, List.getElem?_take, if_pos hk]

/-! ### Rows of the call's own, by the index -/
theorem own_to_rowIs {w : World} {base e size g n cap : Nat} {xs : List Value} (h : w.ownsRow base e size (.slice (some ⟨g, 0, none⟩) n cap) n xs) :
    ∃ f, base ≤ g ∧ n ≤ cap ∧ cap ≤ maxLen ∧ xs.length = n * size ∧ w.rowIs g e (cap * size) f ∧ ∀ j, j < n * size → xs[j]? = some (f j) := by
  rcases h.2 with ⟨hv, _⟩ | ⟨g', cap', cur, hv, hb, hg, hnc, hcm, hs, ht⟩
  · simp at hv
  · simp only [Value.slice.injEq, Option.some.injEq, Addr.mk.injEq, and_true, true_and] at hv
    obtain ⟨rfl, rfl⟩ := hv
    refine ⟨fun j => cur.getD j undef, hb, hnc, hcm, h.1, ⟨cur, hg, hs, fun i hi => ?_⟩, fun j hj => ?_⟩
    · have hi' : i < cur.size := by omega
      simp [hi']
    · have hle : n * size ≤ cap * size := Nat.mul_le_mul_right _ hnc
      have hj' : j < cur.size := by omega
      rw [← ht, List.getElem?_take, if_pos hj]
      simp [hj']
theorem rowIs_to_own {w : World} {base e size g n cap : Nat} {f : Nat → Value} {xs : List Value} (h : w.rowIs g e (cap * size) f) (hb : base ≤ g) (hnc : n ≤ cap) (hcm : cap ≤ maxLen)
    (hl : xs.length = n * size) (hx : ∀ j, j < n * size → xs[j]? = some (f j)) : w.ownsRow base e size (.slice (some ⟨g, 0, none⟩) n cap) n xs := by
  obtain ⟨cur, hg, hs, hc⟩ := h
  refine ⟨hl, .inr ⟨g, cap, cur, rfl, hb, hg, hnc, hcm, hs, ?_⟩⟩
  have hle : n * size ≤ cap * size := Nat.mul_le_mul_right _ hnc
  apply List.ext_getElem?
  intro j
  rw [List.getElem?_take]
  by_cases hj : j < n * size
  · rw [if_pos hj, hx j hj, Array.getElem?_toList, hc j (by omega)]
  · rw [if_neg hj, List.getElem?_eq_none (by omega)]
theorem rowIs_drewN {w : World} {b t n : Nat} {f : Nat → Value} (h : w.rowIs b t n f) (k : Nat) : (w.drewN k).rowIs b t n f := h
theorem own_drewN {w : World} {base e size n : Nat} {v : Value} {xs : List Value} (h : w.ownsRow base e size v n xs) (k : Nat) : (w.drewN k).ownsRow base e size v n xs := h
theorem own_below {w w' : World} {base e size n : Nat} {v : Value} {xs : List Value} (h : w.ownsRow base e size v n xs) (hb : Below w.heap.size w w') : w'.ownsRow base e size v n xs := by
  refine ⟨h.1, ?_⟩
  rcases h.2 with hn | ⟨g, cap, cur, rfl, hbg, hgg, rest⟩
  · exact .inl hn
  · exact .inr ⟨g, cap, cur, rfl, hbg, (hb.block g (Array.getElem?_eq_some_iff.1 hgg).1).trans hgg, rest⟩
theorem own_base {w : World} {base base' e size n : Nat} {v : Value} {xs : List Value} (h : w.ownsRow base e size v n xs) (hb : base' ≤ base) : w.ownsRow base' e size v n xs := by
  refine ⟨h.1, ?_⟩
  rcases h.2 with hn | ⟨g, cap, cur, hv, hbg, rest⟩
  · exact .inl hn
  · exact .inr ⟨g, cap, cur, hv, Nat.le_trans hb hbg, rest⟩
theorem grown_drewN {a w : World} {row : Option Nat} (h : a.grownBy w row) (n : Nat) : a.grownBy (w.drewN n) row := ⟨h.os, h.tape, h.output, h.size, h.block⟩
theorem grown_setCell {a w : World} {g : Nat} (h : a.grownBy w (some g)) {p : Addr} (hp : p.block = g) (u : Value) : a.grownBy (w.setCell p u) (some g) :=
  ⟨h.os, h.tape, h.output, by simpa [World.setCell] using h.size, fun i hi hne => (Below.heap_setCell w p u i (by rintro rfl; exact hne (by rw [hp]))).trans (h.block i hi hne)⟩
/-- What writes to a block of the call's own keeps all that is below. -/
theorem below_grown {B : Nat} {a w w' : World} {g : Nat} (h : Below B a w) (hg : w.grownBy w' (some g)) (hB : B ≤ w.heap.size) (hr : B ≤ g) : Below B a w' :=
  h.grown hg hB (fun k hk => by injection hk with e; omega)
/-- make, elements of several cells, for every world. -/
theorem run_make_rowN {P : Program} (t e : TypeId) (z : Value) (size bytes : Nat) (ht : P.underlying t = some (.slice e)) (hinfo : (P.info? e).map (fun i => (i.zero, i.size, i.bytes)) = some (some z, size, bytes))
    (n : Nat) (hbytes : bytes * n ≤ 281474976710656) (h63 : n ≤ 9223372036854775807) (w : World) :
    (Instr.makeSlice t (.int .i64 (n : Int)) (.int .i64 (n : Int))).run P w = .ok (.slice (some ⟨w.heap.size, 0, none⟩) n n) (w.alloc (.cells (madeCells z.cells (n * size)) e)) := by
  obtain ⟨i, hi, hzz⟩ := Option.map_eq_some_iff.1 hinfo
  simp only [Prod.mk.injEq] at hzz
  obtain ⟨hz, hs, hb⟩ := hzz
  have h : (i.bytes : Int) * (n : Int) ≤ 281474976710656 := by
    have h : ((i.bytes * n : Nat) : Int) ≤ 281474976710656 := by rw [hb]; omega
    rwa [Int.natCast_mul] at h
  have hr := run_make (P := P) w t e i z ht hi hz .i64 .i64 n n (by omega) (Int.le_refl _) h (by omega)
  simp only [Int.toNat_natCast, hs] at hr
  exact hr
theorem rowIs_madeN (w : World) (z : Array Value) (m : Nat) (t : TypeId) : (w.alloc (.cells (madeCells z m) t)).rowIs w.heap.size t m (fun j => z[j % z.size]!) :=
  ⟨_, blk_alloc_new _ _, size_madeCells _ _, fun i hi => by simp [madeCells, hi]⟩

/-! ### Marks -/
def marks (k : Int) (n : Nat) : List Int := (List.range n).map fun j : Nat => k + (j : Int)
theorem marks_length (k : Int) (n : Nat) : (marks k n).length = n := by simp [marks]
theorem marks_at {k : Int} {n j : Nat} (h : j < n) : (marks k n)[j]? = some (k + (j : Int)) := by simp [marks, h]
theorem marks_bd {k : Int} {n : Nat} (h1 : -1000000000000 ≤ k) (h2 : k ≤ 1000000000000) (hn : n ≤ 1000000000000) : ∀ x ∈ marks k n, -9223372036854775808 ≤ x ∧ x ≤ 9223372036854775807 := by
  intro x hx
  simp [marks] at hx
  obtain ⟨j, hj, rfl⟩ := hx
  omega

/-! ### One element appended to a row of the call's own -/
theorem own_form {w : World} {base e size n : Nat} {v : Value} {xs : List Value} (h : w.ownsRow base e size v n xs) :
    ∃ A c, v = .slice A n c ∧ (∀ a, A = some a → base ≤ a.block ∧ a.block < w.heap.size) := by
  rcases h.2 with ⟨rfl, rfl⟩ | ⟨g, cap, cur, rfl, hb, hg, _⟩
  · exact ⟨none, 0, rfl, fun a ha => by cases ha⟩
  · exact ⟨_, cap, rfl, fun a ha => by cases ha; exact ⟨hb, (Array.getElem?_eq_some_iff.1 hg).1⟩⟩
theorem own_blk {w : World} {base e size n : Nat} {v : Value} {xs : List Value} (h : w.ownsRow base e size v n xs) : ∀ k, v.ownBlock = some k → base ≤ k := fun k hk => (h.lt k hk).1

theorem wp_app {P : Program} {wr : World} {ops : Array Oper} {rest : List Oper} {o : Oper} {a : Act} {Q : Exit → Act → World → Prop} (hgd : o.guard = none) (s x : Operand) (t : TypeId)
    (ho : o.op = .call { callee := .builtin .append, args := #[s, x], argTypes := #[t, t] })
    (base : Nat) (e : TypeId) (z : Value) (size bytes : Nat) (ht : P.underlying t = some (.slice e)) (hinfo : (P.info? e).map (fun i => (i.zero, i.size, i.bytes)) = some (some z, size, bytes))
    (hzs : z.cells.size = size) (hsz : 0 < size) (v : Value) (n : Nat) (xs : List Value) (hs : a.eval s = v) (hown : wr.ownsRow base e size v n xs)
    (news : List Value) (hnl : news.length = size) (hx : a.eval x = .slice (some ⟨wr.heap.size, 0, none⟩) 1 1) (h1 : ∀ u ∈ news, u.oneCell' = true)
    (h63 : n + 1 ≤ maxLen) (hbytes : (n + 1) * bytes ≤ 140737488355328) (hbase : base ≤ wr.heap.size)
    (h : ∀ v' w', w'.ownsRow base e size v' (n + 1) (xs ++ news) → wr.grownBy w' v.ownBlock → (∃ g c, v' = .slice (some ⟨g, 0, none⟩) (n + 1) c) → wpList P ops Q rest (a.put o.dst v') w') :
    wpList P ops Q (o :: rest) a (wr.alloc (.cells news.toArray e)) := by
  obtain ⟨i, hi, hz0, hz1, hz2⟩ := info_parts hinfo
  refine wpList_append_own _ hgd s x t ho base e i z size bytes ht hi hz0 hz1 hz2 hzs hsz v n xs hs (hown.alloc _) ⟨wr.heap.size, 0, none⟩ 1 1 news hx (by omega) ?_ h1 h63 hbytes (by simp; omega) ?_
  · intro j u hj
    rw [Go.Addr.add_lit, Nat.zero_add]
    have hr := World.rowIs_alloc wr news.toArray e (fun j => news.getD j undef) (fun i hi => by
      have : i < news.length := by simpa using hi
      simp [this])
    have hj' : j < news.length := (List.getElem?_eq_some_iff.1 hj).1
    have := hr.cell (i := j) (by simpa using hj')
    rw [this]
    simp [hj]
  · intro v' w' hown' hgrow hnil
    refine h v' w' hown' ⟨hgrow.os, hgrow.tape, hgrow.output, Nat.le_trans (by simp) hgrow.size, fun k hk hne => ?_⟩ ?_
    · exact (hgrow.block k (by simp; omega) hne).trans (Below.heap_alloc wr _ k hk)
    · rcases hown'.2 with ⟨_, h0⟩ | ⟨g, cap, cur, hv, _⟩
      · omega
      · exact ⟨g, cap, hv⟩
/-- The same at a number. -/
theorem wp_app_int {P : Program} {wr : World} {ops : Array Oper} {rest : List Oper} {o : Oper} {a : Act} {Q : Exit → Act → World → Prop} (hgd : o.guard = none) (s x : Operand) (t : TypeId)
    (ho : o.op = .call { callee := .builtin .append, args := #[s, x], argTypes := #[t, t] })
    (base : Nat) (e : TypeId) (ht : P.underlying t = some (.slice e)) (hinfo : (P.info? e).map (fun i => (i.zero, i.size, i.bytes)) = some (some (.int .i64 0), 1, 8))
    (v : Value) (n : Nat) (xs : List Int) (y : Int) (hs : a.eval s = v) (hown : wr.ownsRow base e 1 v n (xs.map (.int .i64)))
    (hx : a.eval x = .slice (some ⟨wr.heap.size, 0, none⟩) 1 1) (hn : n ≤ 1000000000000) (hbase : base ≤ wr.heap.size)
    (h : ∀ v' w', w'.ownsRow base e 1 v' (n + 1) ((xs ++ [y]).map (.int .i64)) → wr.grownBy w' v.ownBlock → (∃ g c, v' = .slice (some ⟨g, 0, none⟩) (n + 1) c) → wpList P ops Q rest (a.put o.dst v') w') :
    wpList P ops Q (o :: rest) a (wr.alloc (.cells #[.int .i64 y] e)) :=
  wp_app hgd s x t ho base e (.int .i64 0) 1 8 ht hinfo rfl (by omega) v n _ hs hown [.int .i64 y] rfl hx (by intro u hu; simp at hu; subst hu; rfl) (by unfold maxLen; omega) (by omega) hbase
    (fun v' w' h1 h2 h3 => h v' w' (by simpa using h1) h2 h3)
/-- Behind an append: what is below is kept. -/
theorem below_app {B base e size n : Nat} {a wr w' : World} {v : Value} {xs : List Value} (h : Below B a wr) (hown : wr.ownsRow base e size v n xs) (hg : wr.grownBy w' v.ownBlock) (hB : B ≤ wr.heap.size) (hb : B ≤ base) : Below B a w' :=
  h.grown hg hB (fun k hk => Nat.le_trans hb (hown.lt k hk).1)

/-! ### What a call hands back: elements in memory of its own; of an empty slice nothing is said -/
def Fresh (w : World) (base e size : Nat) (A : Option Addr) (n c : Nat) (xs : List Value) : Prop :=
  xs.length = n * size ∧ (0 < n → w.ownsRow base e size (.slice A n c) n xs)
theorem Fresh.of_own {w : World} {base e size n c : Nat} {A : Option Addr} {xs : List Value} (h : w.ownsRow base e size (.slice A n c) n xs) : Fresh w base e size A n c xs := ⟨h.1, fun _ => h⟩
theorem Fresh.empty (w : World) (base e size : Nat) (A : Option Addr) (c : Nat) : Fresh w base e size A 0 c [] := ⟨by simp, fun h => absurd h (by omega)⟩
theorem Fresh.below {w w' : World} {base e size n c : Nat} {A : Option Addr} {xs : List Value} (h : Fresh w base e size A n c xs) (hb : Below w.heap.size w w') : Fresh w' base e size A n c xs :=
  ⟨h.1, fun h0 => own_below (h.2 h0) hb⟩
theorem Fresh.keep {w w' : World} {base e size n c : Nat} {A : Option Addr} {xs : List Value} (h : Fresh w base e size A n c xs) {r : Option Nat} (hg : w.grownBy w' r)
    (hne : 0 < n → ∀ g, A = some ⟨g, 0, none⟩ → base ≤ g → some g ≠ r) : Fresh w' base e size A n c xs := by
  refine ⟨h.1, fun h0 => ?_⟩
  have ho := h.2 h0
  refine ho.kept hg ?_
  rcases ho.2 with ⟨hv, h00⟩ | ⟨g, cap, cur, hv, hb, hgg, _⟩
  · omega
  · right
    simp only [Value.slice.injEq] at hv
    obtain ⟨rfl, _⟩ := hv
    exact hne h0 g rfl hb
/-- Where a fresh slice lies: below the heap's size at the time. -/
theorem Fresh.upper {w : World} {base e size n c : Nat} {A : Option Addr} {xs : List Value} (h : Fresh w base e size A n c xs) : Hid (0 < n → ∀ g, A = some ⟨g, 0, none⟩ → g < w.heap.size) := by
  intro h0 g hA
  have ho := h.2 h0
  rcases ho.2 with ⟨hv, h00⟩ | ⟨g', cap, cur, hv, hb, hgg, _⟩
  · omega
  · simp only [Value.slice.injEq] at hv
    obtain ⟨rfl, _⟩ := hv
    injection hA with hA
    injection hA with hA _ _
    subst hA
    exact (Array.getElem?_eq_some_iff.1 hgg).1
theorem Fresh.base {w : World} {base base' e size n c : Nat} {A : Option Addr} {xs : List Value} (h : Fresh w base e size A n c xs) (hb : base' ≤ base) : Fresh w base' e size A n c xs :=
  ⟨h.1, fun h0 => own_base (h.2 h0) hb⟩
theorem Fresh.ints {w : World} {base e n c : Nat} {A : Option Addr} {xs : List Int} (h : Fresh w base e 1 A n c (xs.map (.int .i64))) (hx : ∀ x ∈ xs, -9223372036854775808 ≤ x ∧ x ≤ 9223372036854775807) : Ints w A n xs := by
  rcases Nat.eq_zero_or_pos n with rfl | h0
  · have : xs = [] := by have := h.1; simpa using this
    subst this
    exact Ints.nil _ _
  · exact Ints.of_own (h.2 h0) hx
/-- An old argument is kept while a block of the call's own is written. -/
theorem Ints.old {W w w' : World} {A : Option Addr} {n : Nat} {xs : List Int} (h : Ints w A n xs) {r : Option Nat} (hg : w.grownBy w' r) (hW : Ints W A n xs) (hr : ∀ g, r = some g → W.heap.size ≤ g) : Ints w' A n xs := by
  obtain ⟨hl, hn, hx, hc⟩ := h
  refine ⟨hl, hn, hx, fun h0 => ?_⟩
  obtain ⟨b, off, hA, hcell⟩ := hc h0
  obtain ⟨b', off', hA', hcell'⟩ := hW.2.2.2 h0
  rw [hA] at hA'
  injection hA' with hA'
  injection hA' with hb ho _
  have hlt := cell_lt (hcell' 0 h0)
  exact ⟨b, off, hA, fun k hk => hg.cell (hcell k hk) (fun e => by have := hr b e.symm; omega)⟩
/-- A result: a slice of numbers in memory of the call's own, and a code. -/
def ResI (E : Nat) (w : World) (ys : List Int) (code : Int) (e : Ending) (w' : World) : Prop :=
  ∃ A c, e = .returned (.tuple #[.slice A ys.length c, .int .i64 code]) ∧ Fresh w' w.heap.size E 1 A ys.length c (ys.map (.int .i64)) ∧ Below w.heap.size w w'
theorem ResI.nil {E : Nat} {w w' : World} {code : Int} (hb : Below w.heap.size w w') : ResI E w [] code (.returned (.tuple #[.slice none 0 0, .int .i64 code])) w' :=
  ⟨none, 0, rfl, Fresh.empty _ _ _ _ _ _, hb⟩
/-- A result that is one slice of numbers in memory of the call's own. -/
def SlI (E : Nat) (w : World) (ys : List Int) (e : Ending) (w' : World) : Prop :=
  ∃ A c, e = .returned (.slice A ys.length c) ∧ Fresh w' w.heap.size E 1 A ys.length c (ys.map (.int .i64)) ∧ Below w.heap.size w w'
theorem Ints.cells {w : World} {a : Addr} {n : Nat} {xs : List Int} (h : Ints w (some a) n xs) : ∀ j u, (xs.map (Value.int .i64))[j]? = some u → w.cell? (a.add j) = some u := by
  intro j u hj
  have hjl : j < xs.length := by have := (List.getElem?_eq_some_iff.1 hj).1; simpa using this
  obtain ⟨b, off, x, hA, HX, hc, _⟩ := h.at_ (k := j) (by rw [← h.1]; exact hjl)
  injection hA with hA
  subst hA
  rw [Go.Addr.add_lit, hc]
  rw [List.getElem?_map, HX.out] at hj
  simpa using hj
theorem ints_one (xs : List Int) : ∀ u ∈ xs.map (Value.int .i64), u.oneCell' = true := by
  intro u hu
  simp at hu
  obtain ⟨x, _, rfl⟩ := hu
  rfl
theorem mem_i64 {xs : List Int} {lo hi : Int} (h : ∀ x ∈ xs, lo ≤ x ∧ x ≤ hi) (h1 : -9223372036854775808 ≤ lo) (h2 : hi ≤ 9223372036854775807) : ∀ x ∈ xs, -9223372036854775808 ≤ x ∧ x ≤ 9223372036854775807 :=
  fun x hx => by have := h x hx; omega
/-- One number appended, at a step of a region that draws its order: the number lies in the newest block. -/
theorem step_app_int {P : Program} {wz : World} {ops : Array Oper} {o : Oper} {a : Act} {K : Act → World → Prop} {Q : Exit → Act → World → Prop} {E : Prop} (hgd : o.guard = none) (s x : Operand) (t : TypeId)
    (ho : o.op = .call { callee := .builtin .append, args := #[s, x], argTypes := #[t, t] })
    (base : Nat) (e : TypeId) (ht : P.underlying t = some (.slice e)) (hinfo : (P.info? e).map (fun i => (i.zero, i.size, i.bytes)) = some (some (.int .i64 0), 1, 8))
    (v : Value) (n : Nat) (xs : List Int) (y : Int) (hs : a.eval s = v) (hown : wz.ownsRow base e 1 v n (xs.map (.int .i64)))
    (B : Nat) (hx : a.eval x = .slice (some ⟨B, 0, none⟩) 1 1) (hB : wz.heap[B]? = some (.cells #[.int .i64 y] e (0, 0))) (hn : n ≤ 1000000000000) (hbase : base ≤ wz.heap.size)
    (h : ∀ v' w', w'.ownsRow base e 1 v' (n + 1) ((xs ++ [y]).map (.int .i64)) → wz.grownBy w' v.ownBlock → (∃ g c, v' = .slice (some ⟨g, 0, none⟩) (n + 1) c) → K (a.put o.dst v') w') :
    if Region.wanted o (yielded ops a.tmps) = true then Oper.wp P o a wz K Q else E := by
  obtain ⟨i, hi, hz0, hz1, hz2⟩ := info_parts hinfo
  exact step_append_lies wz hgd s x t ho base e i _ 1 8 ht hi hz0 hz1 hz2 rfl (by omega) v n _ hs hown ⟨B, 0, none⟩ 1 1 [.int .i64 y] hx rfl (World.news_of_block (cs := #[.int .i64 y]) hB) (by intro u hu; simp at hu; subst hu; rfl)
    (by omega) (by unfold maxLen; omega) (by omega) hbase _ rfl (fun g cap w' h1 h2 _ _ => h _ w' (by simpa using h1) h2 ⟨g, cap, rfl⟩)
/-- A cell of old memory behind a new block and an append. -/
theorem keep_cell {wr wz w1 : World} {o : Obj} {r : Option Nat} {W b k : Nat} {v : Value} (hg : wz.grownBy w1 r) (hw : wz.heap = wr.heap.push o) (hr : ∀ g, r = some g → W ≤ g) (hb : b < W)
    (hc : wr.cell? ⟨b, k, none⟩ = some v) : w1.cell? ⟨b, k, none⟩ = some v := by
  have hlt := cell_lt hc
  refine hg.cell (a := ⟨b, k, none⟩) ?_ (fun e => by have := hr b e.symm; omega)
  refine (World.cell?_of_block (w := wr) ?_).trans hc
  rw [hw, Array.getElem?_push, if_neg (by show ¬ b = _; omega)]
/-- A cell of old memory behind a call that only makes new memory. -/
theorem cell_kept {w w' : World} {b o : Nat} {v : Value} (hb : Below w.heap.size w w') (hc : w.cell? ⟨b, o, none⟩ = some v) : w'.cell? ⟨b, o, none⟩ = some v :=
  (hb.cell (p := ⟨b, o, none⟩) (cell_lt hc)).trans hc
end Go.Proofs.YtknppcgoooaaaaaGreatDoor
