/-
  Events as lists of years and pressures; a slice of events that reads as such a list. No program in sight.
-/
import Derived.Test.YtknppcgoooaaaaaAll
namespace Go.Proofs.Ytknppcgoooaaaaa
open Go.ChangeShapes Go.WideShapes Go.ChangeAt Go.RowKit Go.Deep

abbrev Ev := Int × List Int
/-- An event at a place. -/
def EvAt (w : World) (b o : Nat) (e : Ev) : Prop :=
  ∃ P m d, w.cell? ⟨b, o, none⟩ = some (.int .i64 e.1) ∧ w.cell? ⟨b, o + 1, none⟩ = some (.slice P m d) ∧ (-9223372036854775808 ≤ e.1 ∧ e.1 ≤ 9223372036854775807) ∧ Ints w P m e.2
def Evs (w : World) (A : Option Addr) (n : Nat) (es : List Ev) : Prop :=
  es.length = n ∧ n ≤ 9223372036854775807 ∧ (0 < n → ∃ b off, A = some ⟨b, off, none⟩ ∧ ∀ k, k < n → EvAt w b (off + k * 2) (es.getD k (0, [])))
theorem EvAt.below {w w' : World} {b o : Nat} {e : Ev} (h : EvAt w b o e) (hb : Below w.heap.size w w') : EvAt w' b o e := by
  obtain ⟨P, m, d, h1, h2, h3, h4⟩ := h
  exact ⟨P, m, d, (hb.cell (p := ⟨b, o, none⟩) (cell_lt h1)).trans h1, (hb.cell (p := ⟨b, o + 1, none⟩) (cell_lt h2)).trans h2, h3, h4.below hb⟩
theorem Evs.below {w w' : World} {A : Option Addr} {n : Nat} {es : List Ev} (h : Evs w A n es) (hb : Below w.heap.size w w') : Evs w' A n es := by
  obtain ⟨hl, hn, hc⟩ := h
  refine ⟨hl, hn, fun h0 => ?_⟩
  obtain ⟨b, off, hA, hcell⟩ := hc h0
  exact ⟨b, off, hA, fun k hk => (hcell k hk).below hb⟩
theorem Evs.drewN {w : World} {A : Option Addr} {n : Nat} {es : List Ev} (h : Evs w A n es) (k : Nat) : Evs (w.drewN k) A n es := h
theorem Evs.nil (w : World) (A : Option Addr) : Evs w A 0 [] := ⟨rfl, by omega, fun h => absurd h (by omega)⟩
theorem Evs.at_ {w : World} {A : Option Addr} {n : Nat} {es : List Ev} (h : Evs w A n es) {k : Nat} (hk : k < n) :
    ∃ b off y P m d ps, A = some ⟨b, off, none⟩ ∧ Hid (es[k]? = some (y, ps)) ∧ w.cell? ⟨b, off + k * 2, none⟩ = some (.int .i64 y) ∧ w.cell? ⟨b, off + k * 2 + 1, none⟩ = some (.slice P m d) ∧
      (-9223372036854775808 ≤ y ∧ y ≤ 9223372036854775807) ∧ Ints w P m ps := by
  obtain ⟨hl, _, hc⟩ := h
  obtain ⟨b, off, hA, hcell⟩ := hc (by omega)
  have hk' : k < es.length := by omega
  have e : es[k]? = some (es[k].1, es[k].2) := List.getElem?_eq_getElem hk'
  obtain ⟨P, m, d, h1, h2, h3, h4⟩ := hcell k hk
  have e2 : es.getD k (0, []) = es[k] := by rw [List.getD_eq_getElem?_getD, List.getElem?_eq_getElem hk']; rfl
  rw [e2] at h1 h3 h4
  exact ⟨b, off, es[k].1, P, m, d, es[k].2, hA, e, h1, h2, h3, h4⟩

/-- How many pressures there are in all. -/
def totE (es : List Ev) : Nat := (es.map fun e => e.2.length).sum
theorem totE_snoc {es : List Ev} {k : Nat} {y : Int} {ps : List Int} (h : es[k]? = some (y, ps)) : totE (es.take (k + 1)) = totE (es.take k) + ps.length := by
  rw [List.take_add_one, h, totE, List.map_append, List.sum_append]
  simp [totE]
theorem totE_take_le (es : List Ev) (k : Nat) : totE (es.take k) ≤ totE es := by
  have h := List.take_append_drop k es
  have : totE es = totE (es.take k) + totE (es.drop k) := by
    conv => lhs; rw [← h]
    unfold totE
    rw [List.map_append, List.sum_append]
  omega
theorem totE_len {es : List Ev} {k : Nat} {y : Int} {ps : List Int} (h : es[k]? = some (y, ps)) : ps.length ≤ totE es := by
  have h1 := totE_snoc h
  have h2 := totE_take_le es (k + 1)
  omega

/-! ### When events are valid -/
def yAt (es : List Ev) (i : Nat) : Int := (es.getD i (0, [])).1
def pAt (es : List Ev) (i : Nat) : List Int := (es.getD i (0, [])).2
theorem yAt_eq {es : List Ev} {i : Nat} {y : Int} {ps : List Int} (h : es[i]? = some (y, ps)) : yAt es i = y := by simp [yAt, h]
theorem pAt_eq {es : List Ev} {i : Nat} {y : Int} {ps : List Int} (h : es[i]? = some (y, ps)) : pAt es i = ps := by simp [pAt, h]
def evP (y : Int) (ps : List Int) (l0 : Nat) : Bool := inB y 1 300 && decide (1 ≤ ps.length) && decide (ps.length ≤ 64) && allB ps 0 1000000 && decide (ps.length = l0)
def evI (es : List Ev) (i : Nat) : Bool := evP (yAt es i) (pAt es i) (pAt es 0).length && (decide (i = 0) || decide (yAt es (i - 1) < yAt es i))
def evOk (es : List Ev) : Bool := decide (es.length ≤ 8) && (List.range es.length).all (evI es)
theorem evI_iff {es : List Ev} {i : Nat} : evI es i = true ↔ (1 ≤ yAt es i ∧ yAt es i ≤ 300) ∧ 1 ≤ (pAt es i).length ∧ (pAt es i).length ≤ 64 ∧ allB (pAt es i) 0 1000000 = true ∧ (pAt es i).length = (pAt es 0).length ∧ (i = 0 ∨ yAt es (i - 1) < yAt es i) := by
  simp only [evI, evP, Bool.and_eq_true, Bool.or_eq_true, decide_eq_true_eq, inB_iff]
  constructor
  · rintro ⟨⟨⟨⟨⟨a, b⟩, c⟩, d⟩, e⟩, f⟩; exact ⟨a, b, c, d, e, f⟩
  · rintro ⟨a, b, c, d, e, f⟩; exact ⟨⟨⟨⟨⟨a, b⟩, c⟩, d⟩, e⟩, f⟩
theorem evOk_iff {es : List Ev} : evOk es = true ↔ es.length ≤ 8 ∧ ∀ i, i < es.length → evI es i = true := by
  simp only [evOk, Bool.and_eq_true, decide_eq_true_eq, List.all_eq_true, List.mem_range]
theorem evOk_no {es : List Ev} (h : ¬ (es.length ≤ 8 ∧ ∀ i, i < es.length → evI es i = true)) : evOk es = false := by
  cases hp : evOk es
  · rfl
  · exact absurd (evOk_iff.1 hp) h
theorem evOk_pt {es : List Ev} {i : Nat} (hi : i < es.length)
    (h : ¬ ((1 ≤ yAt es i ∧ yAt es i ≤ 300) ∧ 1 ≤ (pAt es i).length ∧ (pAt es i).length ≤ 64 ∧ allB (pAt es i) 0 1000000 = true ∧ (pAt es i).length = (pAt es 0).length ∧ (i = 0 ∨ yAt es (i - 1) < yAt es i))) : evOk es = false :=
  evOk_no fun hh => h (evI_iff.1 (hh.2 i hi))

/-- An argument that is a slice of events. -/
theorem events_open {H : Type} {enc : TypeId × Value → H} {P : Program} {w : World} {t e q s : TypeId} {f0 f1 : Field} {A : Option Addr} {n c : Nat} {d : DataW H} {p : List MemPlace} {held : Bool}
    (ht : P.underlying t = some (.slice e)) (he : P.underlying e = some (.struct #[f0, f1])) (hq : P.underlying q = some (.int .i64)) (hs : P.underlying s = some (.slice q)) (hone : oneCellFields P #[f0, f1] = true) (hc : P.cellsOf e = 2) (hc1 : P.cellsOf q = 1)
    (hty : f0.type = q ∧ f1.type = s) (h : DataW.Trod enc P w 0 (fun _ => true) held t (.slice A n c) d p) :
    ∃ es, Evs w A n es := by
  obtain ⟨fuel, hf⟩ := h
  rcases open_slice ht hf with ⟨hcs, _⟩ | ⟨a, len, cap, m, n', D, Pl, hcs, hb, hl, hm, hmm, hx, hi⟩
  · simp [Value.cells] at hcs
    obtain ⟨rfl, rfl, rfl⟩ := hcs
    exact ⟨[], Evs.nil _ _⟩
  · simp [Value.cells] at hcs
    obtain ⟨rfl, rfl, rfl⟩ := hcs
    have hmc : m = c := by simpa using hmm
    subst hmc
    have each : ∀ i, i < m → ∃ ev : Ev, ∃ Q l d', w.cell? (a.add (i * 2)) = some (.int .i64 ev.1) ∧ w.cell? ((a.add (i * 2)).add 1) = some (.slice Q l d') ∧
        (-9223372036854775808 ≤ ev.1 ∧ ev.1 ≤ 9223372036854775807) ∧ Ints w Q l ev.2 := by
      intro i him
      obtain ⟨cs', hcc, ht'⟩ := hi i him
      rw [hc] at hcc
      obtain ⟨ys, n2, _, hy, hlen, hyl, hff⟩ := DataW.trod_struct he ht'
      obtain ⟨_, hcl, hat⟩ := World.cells?_some hcc
      obtain ⟨o0, k0⟩ := hone_of hone 0 f0 rfl
      obtain ⟨o1, k1⟩ := hone_of hone 1 f1 rfl
      have g0 := hff 0 f0 rfl
      have g1 := hff 1 f1 rfl
      rw [o0, k0] at g0
      rw [o1, k1] at g1
      match cs', hcl with
      | [c0, c1], _ =>
        have y0 : ys[0]? = some (ys[0]'(by simp at hyl; omega)) := List.getElem?_eq_getElem _
        have y1 : ys[1]? = some (ys[1]'(by simp at hyl; omega)) := List.getElem?_eq_getElem _
        have h0 := hat 0 (by omega)
        have h1 := hat 1 (by omega)
        rw [hty.1] at g0
        rw [hty.2] at g1
        rw [y0] at g0
        rw [y1] at g1
        obtain ⟨u, hu, _, wu⟩ := DataW.trod_int hq (by simpa using g0)
        simp at hu
        subst hu
        have wu' : -9223372036854775808 ≤ u ∧ u ≤ 9223372036854775807 := by simpa [Lit.wf, IntKind.min, IntKind.max, IntKind.signed, IntKind.bits] using wu
        obtain ⟨y1v, hy1v⟩ : ∃ v, v = ys[1]'(by simp at hyl; omega) := ⟨_, rfl⟩
        have g1' : DataW.trod enc P w 0 (fun _ => true) held n2 s [c1] = some y1v := by rw [hy1v]; simpa using g1
        obtain ⟨Q, l, d', hv⟩ : ∃ Q l d', c1 = Value.slice Q l d' := by
          rcases open_ints hs hq hc1 g1' with ⟨hcs, _⟩ | ⟨x, l, c', zs, hcs, _⟩
          · simp at hcs
            exact ⟨none, 0, 0, hcs⟩
          · simp at hcs
            exact ⟨some x, l, c', hcs⟩
        subst hv
        obtain ⟨xs, hxs⟩ := ints_open (A := Q) (n := l) (c := d') (d := y1v.1) (p := y1v.2) hs hq hc1 ⟨n2, by simpa [Value.cells] using g1'⟩
        exact ⟨(u, xs), Q, l, d', by simpa [Addr.add] using h0, by simpa using h1, wu', hxs⟩
    obtain ⟨F, hF⟩ := choose_lt each
    refine ⟨(List.range n).map F, by simp, by unfold maxLen at hm; omega, fun h0 => ?_⟩
    obtain ⟨b, off, spot⟩ := a
    obtain ⟨_, _, _, hc0, _⟩ := hF 0 (by omega)
    have hspot : spot = none := by simpa [Addr.add] using World.cell?_spot hc0
    subst hspot
    refine ⟨b, off, rfl, fun j hj => ?_⟩
    obtain ⟨Q, l, d', e1, e2, e3, e4⟩ := hF j (by omega)
    rw [Go.Addr.add_lit] at e1
    rw [Go.Addr.add_lit, Go.Addr.add_lit] at e2
    have hg : ((List.range n).map F).getD j (0, []) = F j := by
      rw [List.getD_eq_getElem?_getD]
      simp [hj]
    rw [hg]
    exact ⟨Q, l, d', e1, e2, e3, e4⟩
end Go.Proofs.Ytknppcgoooaaaaa
