/-
  Paths as lists of distances and heights: when one is valid. No program in sight.
-/
import Derived.Test.YtknppcgoooaaaaaGreatDoorMem
namespace Go.Proofs.YtknppcgoooaaaaaGreatDoor
open Go.ChangeShapes Go.WideShapes Go.ChangeAt Go.RowKit Go.Deep

abbrev Pth := List (Int × Int)
def dAt (ps : Pth) (i : Nat) : Int := (ps.getD i (0, 0)).1
def hAt (ps : Pth) (i : Nat) : Int := (ps.getD i (0, 0)).2
theorem dAt_eq {ps : Pth} {i : Nat} {x y : Int} (h : ps[i]? = some (x, y)) : dAt ps i = x := by simp [dAt, h]
theorem hAt_eq {ps : Pth} {i : Nat} {x y : Int} (h : ps[i]? = some (x, y)) : hAt ps i = y := by simp [hAt, h]

def ptOk (ps : Pth) (i : Nat) : Bool :=
  inB (dAt ps i) 0 20000 && inB (hAt ps i) 0 9000 && decide (hAt ps i ≤ hAt ps 0) && (decide (i = 0) || decide (dAt ps (i - 1) < dAt ps i))
def pathOk (ps : Pth) : Bool :=
  decide (2 ≤ ps.length) && decide (ps.length ≤ 24) && decide (dAt ps 0 = 0) && (List.range ps.length).all (ptOk ps)
theorem ptOk_iff {ps : Pth} {i : Nat} : ptOk ps i = true ↔ 0 ≤ dAt ps i ∧ dAt ps i ≤ 20000 ∧ 0 ≤ hAt ps i ∧ hAt ps i ≤ 9000 ∧ hAt ps i ≤ hAt ps 0 ∧ (i = 0 ∨ dAt ps (i - 1) < dAt ps i) := by
  simp only [ptOk, Bool.and_eq_true, Bool.or_eq_true, decide_eq_true_eq, inB_iff]
  constructor
  · rintro ⟨⟨⟨⟨a, b⟩, c, d⟩, e⟩, f⟩; exact ⟨a, b, c, d, e, f⟩
  · rintro ⟨a, b, c, d, e, f⟩; exact ⟨⟨⟨⟨a, b⟩, c, d⟩, e⟩, f⟩
theorem pathOk_iff {ps : Pth} : pathOk ps = true ↔ 2 ≤ ps.length ∧ ps.length ≤ 24 ∧ dAt ps 0 = 0 ∧ ∀ i, i < ps.length → ptOk ps i = true := by
  simp only [pathOk, Bool.and_eq_true, decide_eq_true_eq, List.all_eq_true, List.mem_range]
  constructor
  · rintro ⟨⟨⟨a, b⟩, c⟩, d⟩; exact ⟨a, b, c, d⟩
  · rintro ⟨a, b, c, d⟩; exact ⟨⟨⟨a, b⟩, c⟩, d⟩
theorem pathOk_no {ps : Pth} (h : ¬ (2 ≤ ps.length ∧ ps.length ≤ 24 ∧ dAt ps 0 = 0 ∧ ∀ i, i < ps.length → ptOk ps i = true)) : pathOk ps = false := by
  cases hp : pathOk ps
  · rfl
  · exact absurd (pathOk_iff.1 hp) h
theorem pathOk_pt {ps : Pth} {i : Nat} (hi : i < ps.length) (h : ptOk ps i = false) : pathOk ps = false :=
  pathOk_no fun hh => by rw [hh.2.2.2 i hi] at h; cases h
theorem ptOk_no {ps : Pth} {i : Nat} (h : ¬ (0 ≤ dAt ps i ∧ dAt ps i ≤ 20000 ∧ 0 ≤ hAt ps i ∧ hAt ps i ≤ 9000 ∧ hAt ps i ≤ hAt ps 0 ∧ (i = 0 ∨ dAt ps (i - 1) < dAt ps i))) : ptOk ps i = false := by
  cases hp : ptOk ps i
  · rfl
  · exact absurd (ptOk_iff.1 hp) h

/-! ### A slice of points that reads as a path -/
def ptCell (ps : Pth) (j : Nat) : Value := .int .i64 (if j % 2 = 0 then dAt ps (j / 2) else hAt ps (j / 2))
def Pts (w : World) (A : Option Addr) (n : Nat) (ps : Pth) : Prop :=
  ps.length = n ∧ n ≤ 9223372036854775807 ∧ (∀ p ∈ ps, (-9223372036854775808 ≤ p.1 ∧ p.1 ≤ 9223372036854775807) ∧ (-9223372036854775808 ≤ p.2 ∧ p.2 ≤ 9223372036854775807)) ∧
  (0 < n → ∃ b off, A = some ⟨b, off, none⟩ ∧ ∀ j, j < n * 2 → w.cell? ⟨b, off + j, none⟩ = some (ptCell ps j))
theorem Pts.at_ {w : World} {A : Option Addr} {n : Nat} {ps : Pth} (h : Pts w A n ps) {k : Nat} (hk : k < n) :
    ∃ b off x y, A = some ⟨b, off, none⟩ ∧ Hid (ps[k]? = some (x, y)) ∧ w.cell? ⟨b, off + k * 2, none⟩ = some (.int .i64 x) ∧ w.cell? ⟨b, off + k * 2 + 1, none⟩ = some (.int .i64 y) ∧
      (-9223372036854775808 ≤ x ∧ x ≤ 9223372036854775807) ∧ (-9223372036854775808 ≤ y ∧ y ≤ 9223372036854775807) := by
  obtain ⟨hl, _, hb, hc⟩ := h
  obtain ⟨b, off, hA, hcell⟩ := hc (by omega)
  have hk' : k < ps.length := by omega
  have e : ps[k]? = some (ps[k].1, ps[k].2) := List.getElem?_eq_getElem hk'
  have hbb := hb _ (List.getElem_mem hk')
  refine ⟨b, off, ps[k].1, ps[k].2, hA, e, ?_, ?_, hbb.1, hbb.2⟩
  · rw [hcell (k * 2) (by omega)]
    simp [ptCell, dAt, e]
  · rw [Nat.add_assoc, hcell (k * 2 + 1) (by omega)]
    have e1 : (k * 2 + 1) % 2 = 1 := by omega
    have e2 : (k * 2 + 1) / 2 = k := by omega
    simp only [ptCell, e1, e2, hAt]
    simp [e]
theorem Pts.below {w w' : World} {A : Option Addr} {n : Nat} {ps : Pth} (h : Pts w A n ps) (hb : Below w.heap.size w w') : Pts w' A n ps := by
  obtain ⟨hl, hn, hx, hc⟩ := h
  refine ⟨hl, hn, hx, fun h0 => ?_⟩
  obtain ⟨b, off, hA, hcell⟩ := hc h0
  refine ⟨b, off, hA, fun k hk => ?_⟩
  have := hcell k hk
  rw [hb.cell (p := ⟨b, off + k, none⟩) (cell_lt this)]
  exact this
theorem Pts.drewN {w : World} {A : Option Addr} {n : Nat} {ps : Pth} (h : Pts w A n ps) (k : Nat) : Pts (w.drewN k) A n ps := h
def ptCells (ps : Pth) : List Value := (List.range (ps.length * 2)).map (ptCell ps)
theorem ptCells_at {ps : Pth} {j : Nat} (h : j < ps.length * 2) : (ptCells ps)[j]? = some (ptCell ps j) := by simp [ptCells, h]
theorem Pts.of_own {w : World} {base e : Nat} {A : Option Addr} {n c : Nat} {ps : Pth} (h : w.ownsRow base e 2 (.slice A n c) n (ptCells ps)) (hn : n = ps.length) (hn2 : n ≤ 9223372036854775807)
    (hx : ∀ p ∈ ps, (-9223372036854775808 ≤ p.1 ∧ p.1 ≤ 9223372036854775807) ∧ (-9223372036854775808 ≤ p.2 ∧ p.2 ≤ 9223372036854775807)) : Pts w A n ps := by
  rcases h.2 with ⟨hv, h0⟩ | ⟨g, cap, cur, hv, hg, hh, hnc, hcm, hs, ht⟩
  · subst h0
    exact ⟨by omega, by omega, hx, fun h => absurd h (by omega)⟩
  · simp only [Value.slice.injEq] at hv
    obtain ⟨rfl, _, rfl⟩ := hv
    refine ⟨by omega, hn2, hx, fun _ => ⟨g, 0, rfl, fun k hk => ?_⟩⟩
    rw [cell_of_row w g (0 + k) cur e (0, 0) hh, Nat.zero_add]
    have h1 : (cur.toList.take (n * 2))[k]? = some (ptCell ps k) := by rw [ht]; exact ptCells_at (by omega)
    rw [List.getElem?_take, if_pos hk] at h1
    simpa using h1

/-- An argument that is a slice of points. -/
theorem pts_open {H : Type} {enc : TypeId × Value → H} {P : Program} {w : World} {t e q : TypeId} {f0 f1 : Field} {A : Option Addr} {n c : Nat} {d : DataW H} {p : List MemPlace} {held : Bool}
    (ht : P.underlying t = some (.slice e)) (he : P.underlying e = some (.struct #[f0, f1])) (hq : P.underlying q = some (.int .i64)) (hone : oneCellFields P #[f0, f1] = true) (hc : P.cellsOf e = 2)
    (hty : f0.type = q ∧ f1.type = q) (h : DataW.Trod enc P w 0 (fun _ => true) held t (.slice A n c) d p) :
    ∃ ps, Pts w A n ps := by
  obtain ⟨fuel, hf⟩ := h
  rcases open_slice ht hf with ⟨hcs, _⟩ | ⟨a, len, cap, m, n', D, Pl, hcs, hb, hl, hm, hmm, hx, hi⟩
  · simp [Value.cells] at hcs
    obtain ⟨rfl, rfl, rfl⟩ := hcs
    exact ⟨[], rfl, by omega, by simp, fun h => absurd h (by omega)⟩
  · simp [Value.cells] at hcs
    obtain ⟨rfl, rfl, rfl⟩ := hcs
    have hmc : m = c := by simpa using hmm
    subst hmc
    have each : ∀ i, i < m → ∃ xy : Int × Int, w.cell? (a.add (i * 2)) = some (.int .i64 xy.1) ∧ w.cell? ((a.add (i * 2)).add 1) = some (.int .i64 xy.2) ∧
        (-9223372036854775808 ≤ xy.1 ∧ xy.1 ≤ 9223372036854775807) ∧ (-9223372036854775808 ≤ xy.2 ∧ xy.2 ≤ 9223372036854775807) := by
      intro i him
      obtain ⟨cs', hcc, ht'⟩ := hi i him
      rw [hc] at hcc
      obtain ⟨ys, n2, _, hy, hlen, hyl, hff⟩ := DataW.trod_struct he ht'
      obtain ⟨_, hcl, hat⟩ := World.cells?_some hcc
      obtain ⟨o0, k0⟩ := hone_of hone 0 f0 rfl
      obtain ⟨o1, k1⟩ := hone_of hone 1 f1 rfl
      have g0 := hff 0 f0 rfl
      have g1 := hff 1 f1 rfl
      rw [o0, k0] at g0
      rw [o1, k1] at g1
      match cs', hcl with
      | [c0, c1], _ =>
        have y0 : ys[0]? = some (ys[0]'(by simp at hyl; omega)) := List.getElem?_eq_getElem _
        have y1 : ys[1]? = some (ys[1]'(by simp at hyl; omega)) := List.getElem?_eq_getElem _
        have h0 := hat 0 (by omega)
        have h1 := hat 1 (by omega)
        rw [hty.1] at g0
        rw [hty.2] at g1
        rw [y0] at g0
        rw [y1] at g1
        obtain ⟨u, hu, _, wu⟩ := DataW.trod_int hq (by simpa using g0)
        obtain ⟨v, hv, _, wv⟩ := DataW.trod_int hq (by simpa using g1)
        simp at hu hv
        subst hu hv
        refine ⟨(u, v), by simpa [Addr.add] using h0, by simpa using h1, ?_, ?_⟩
        · simpa [Lit.wf, IntKind.min, IntKind.max, IntKind.signed, IntKind.bits] using wu
        · simpa [Lit.wf, IntKind.min, IntKind.max, IntKind.signed, IntKind.bits] using wv
    obtain ⟨F, hF⟩ := choose_lt each
    refine ⟨(List.range n).map F, by simp, by unfold maxLen at hm; omega, ?_, fun h0 => ?_⟩
    · intro p hp
      simp at hp
      obtain ⟨j, hj, rfl⟩ := hp
      exact (hF j (by omega)).2.2
    · obtain ⟨b, off, spot⟩ := a
      have hc0 := (hF 0 (by omega)).1
      have hspot : spot = none := by simpa [Addr.add] using World.cell?_spot hc0
      subst hspot
      refine ⟨b, off, rfl, fun j hj => ?_⟩
      obtain ⟨e1, e2, _⟩ := hF (j / 2) (by omega)
      rw [Go.Addr.add_lit] at e1
      rw [Go.Addr.add_lit, Go.Addr.add_lit] at e2
      have hlt : j / 2 < n := by omega
      unfold ptCell dAt hAt
      by_cases hj2 : j % 2 = 0
      · rw [if_pos hj2, List.getD_eq_getElem?_getD]
        have : j / 2 * 2 = j := by omega
        rw [this] at e1
        rw [e1]
        simp [hlt]
      · rw [if_neg hj2, List.getD_eq_getElem?_getD]
        have : off + j / 2 * 2 + 1 = off + j := by omega
        rw [this] at e2
        rw [e2]
        simp [hlt]
end Go.Proofs.YtknppcgoooaaaaaGreatDoor
