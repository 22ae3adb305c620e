/-
  Draws of events.
-/
import Derived.Test.YtbakmcjngadebaaEvB
import Derived.Deep.DeepCutAuto
import Derived.Deep.RegionLaw
namespace Go.Proofs.Ytbakmcjngadebaa
open Go.ChangeShapes Go.WideShapes Go.ChangeAt Go.RowKit Go.Deep
set_option linter.unusedVariables false

/-- A block of another kind than a row's own. -/
theorem own_ne_blk {w : World} {B e s n g : Nat} {v : Value} {xs : List Value} {cs : Array Value} {T : TypeId} (h : w.ownsRow B e s v n xs) (hg : w.heap[g]? = some (.cells cs T (0, 0))) (he : e ≠ T) : v.ownBlock ≠ some g := by
  rcases h.2 with ⟨hv, _⟩ | ⟨g1, cap, cur, hv, hb, hh, _⟩
  · rw [hv]; simp [Value.ownBlock]
  · rw [hv]
    intro e1
    simp only [Value.ownBlock, Option.some.injEq] at e1
    subst e1
    rw [hg] at hh
    injection hh with hh
    injection hh with _ e2 _
    exact he e2.symm
/-- The event that is being filled: its block, its year, its pressures so far. -/
def XBox (w : World) (B xb : Nat) (y : Int) (v : Value) (j : Nat) (xs : List Int) : Prop :=
  B ≤ xb ∧ w.heap[xb]? = some (.cells #[.int .i64 y, v] 68 (0, 0)) ∧ w.ownsRow xb 2 1 v j (xs.map (.int .i64)) ∧ ∀ x ∈ xs, i64b x
def EvD (w : World) (most : Nat) (e : Ending) (w' : World) : Prop := ∃ A n c es, e = .returned (.slice A n c) ∧ EvB w' w.heap.size (.slice A n c) n es ∧ n ≤ most
theorem xbox_step {w2 wr w3 w4 : World} {q mm B xb g4 cc4 i : Nat} {y z : Int} {v : Value} {xs : List Int} (HG : w2.grownBy wr (some q)) (HX : XBox wr B xb y v i xs) (hxb : xb = w2.heap.size) (hq : q < xb) (hg3 : wr.drew.grownBy w3 (some q)) (hs3 : SrcP w3 q mm) (hz : i64b z)
    (hown4 : w4.ownsRow xb 2 1 (.slice (some ⟨g4, 0, none⟩) (i + 1) cc4) (i + 1) ((xs ++ [z]).map (.int .i64))) (hgrow4 : (w3.alloc (.cells #[.int .i64 z] 2)).grownBy w4 v.ownBlock) (hb4 : w4.heap[xb]? = some (.cells #[.int .i64 y, v] 68 (0, 0))) :
    SrcP (w4.setCell ⟨xb, 1, none⟩ (.slice (some ⟨g4, 0, none⟩) (i + 1) cc4)) q mm ∧ w2.grownBy (w4.setCell ⟨xb, 1, none⟩ (.slice (some ⟨g4, 0, none⟩) (i + 1) cc4)) (some q) ∧
      XBox (w4.setCell ⟨xb, 1, none⟩ (.slice (some ⟨g4, 0, none⟩) (i + 1) cc4)) B xb y (.slice (some ⟨g4, 0, none⟩) (i + 1) cc4) (i + 1) (xs ++ [z]) := by
  have hba : Below w3.heap.size w3 (w3.alloc (.cells #[.int .i64 z] 2)) := (Below.refl _ _).alloc (Nat.le_refl _) _
  have hvb : ∀ g, v.ownBlock = some g → xb ≤ g := fun g hg => own_blk HX.2.2.1 g hg
  have hs4 : SrcP w4 q mm := (hs3.below hba).grow hgrow4 (fun g hg => by have := hvb g hg; omega)
  have hgs : w4.grownBy (w4.setCell ⟨xb, 1, none⟩ (.slice (some ⟨g4, 0, none⟩) (i + 1) cc4)) (some xb) := grown_setCell (World.grownBy.refl w4 (some xb)) rfl _
  have hg3' : wr.grownBy w3 (some q) := ⟨hg3.os, hg3.tape, hg3.output, hg3.size, hg3.block⟩
  have h24 : w2.grownBy w4 (some q) := grown_new (grown_below (HG.trans hg3') hba) hgrow4 (fun g hg => by have := hvb g hg; omega)
  have hne : g4 ≠ xb := by
    have := own_ne_blk hown4 hb4 (by decide)
    intro e
    apply this
    simp [Value.ownBlock, e]
  refine ⟨hs4.grow hgs (fun g hg => by injection hg with hg; omega), grown_new h24 hgs (fun g hg => by injection hg with hg; omega), HX.1, Go.Joins.block_setCell (i := 1) hb4 _, own_setCell hown4 (by show xb ≠ g4; omega) _, fun x hx => ?_⟩
  rw [List.mem_append] at hx
  rcases hx with hx | hx
  · exact HX.2.2.2 x hx
  · simp at hx
    subst hx
    exact hz
/-- A slice of zeros: the block that make lays. -/
def zer (n : Nat) : List Int := (List.range n).map fun _ => (0 : Int)
abbrev madeO (n : Nat) : Obj := .cells (madeCells #[.int .i64 0] n) 2
/-- What stands ahead of the last append: a source, what the call has changed, the events so far, a new row. -/
def Ready (w wp : World) (q mm : Nat) (o : Value) (j : Nat) (es : List Ev) (P : Option Addr) (np : Nat) : Prop :=
  SrcP wp q mm ∧ w.grownBy wp (some q) ∧ EvB wp w.heap.size o j es ∧ wp.ownsRow w.heap.size 2 1 (.slice P np np) np ((zer np).map (.int .i64)) ∧ w.heap.size ≤ wp.heap.size
theorem ready_a {w w2 w3 : World} {q mm np j : Nat} {o : Value} {es : List Ev} (hg2 : w.grownBy w2 (some q)) (hev : EvB w2 w.heap.size o j es) (hq : q < w.heap.size) (hnp : np ≤ 6) (hs3 : SrcP w3 q mm) (hg3 : (w2.alloc (madeO np)).drew.grownBy w3 (some q)) :
    Ready w w3 q mm o j es (some ⟨w2.heap.size, 0, none⟩) np := by
  have hba : Below w2.heap.size w2 (w2.alloc (madeO np)) := (Below.refl _ _).alloc (Nat.le_refl _) _
  have hg3' : (w2.alloc (madeO np)).grownBy w3 (some q) := ⟨hg3.os, hg3.tape, hg3.output, hg3.size, hg3.block⟩
  have hb := bag_made w2 w.heap.size np (-1) 1 hg2.size (by omega) (by omega)
  have hz := hg3'.size
  have hz2 := hg2.size
  simp at hz
  exact ⟨hs3, (grown_below hg2 hba).trans hg3', (hev.below hba).src hg3' hq, (hb.src hg3' hq).1, by omega⟩
theorem ready_b {w w2 w3 : World} {q mm np j : Nat} {o : Value} {es : List Ev} {O : Obj} (hg2 : w.grownBy w2 (some q)) (hev : EvB w2 w.heap.size o j es) (hq : q < w.heap.size) (hnp : np ≤ 6) (hs3 : SrcP w3 q mm) (hg3 : ((w2.alloc O).alloc (madeO np)).drew.grownBy w3 (some q)) :
    Ready w w3 q mm o j es (some ⟨w2.heap.size + 1, 0, none⟩) np := by
  have hba : Below w2.heap.size w2 (w2.alloc O) := (Below.refl _ _).alloc (Nat.le_refl _) _
  have hba2 : Below (w2.alloc O).heap.size (w2.alloc O) ((w2.alloc O).alloc (madeO np)) := (Below.refl _ _).alloc (Nat.le_refl _) _
  have hg3' : ((w2.alloc O).alloc (madeO np)).grownBy w3 (some q) := ⟨hg3.os, hg3.tape, hg3.output, hg3.size, hg3.block⟩
  have hz := hg3'.size
  have hz2 := hg2.size
  simp at hz
  have hb := bag_made (w2.alloc O) w.heap.size np (-1) 1 (by simp; omega) (by omega) (by omega)
  have h4 := (hb.src hg3' hq).1
  rw [show (w2.alloc O).heap.size = w2.heap.size + 1 by simp] at h4
  exact ⟨hs3, (grown_below (grown_below hg2 hba) hba2).trans hg3', ((hev.below hba).below hba2).src hg3' hq, h4, by omega⟩
theorem ready_c {w w2 w3 : World} {q mm np j : Nat} {o : Value} {es : List Ev} (hg2 : w.grownBy w2 (some q)) (hev : EvB w2 w.heap.size o j es) (hq : q < w.heap.size) (hnp : np ≤ 6) (hs3 : SrcP w3 q mm) (hg3 : w2.drew.grownBy w3 (some q)) :
    Ready w (w3.alloc (madeO np)) q mm o j es (some ⟨w3.heap.size, 0, none⟩) np := by
  have hg3' : w2.grownBy w3 (some q) := ⟨hg3.os, hg3.tape, hg3.output, hg3.size, hg3.block⟩
  have hba : Below w3.heap.size w3 (w3.alloc (madeO np)) := (Below.refl _ _).alloc (Nat.le_refl _) _
  have hz := hg3'.size
  have hz2 := hg2.size
  have hb := bag_made w3 w.heap.size np (-1) 1 (by omega) (by omega) (by omega)
  exact ⟨hs3.below hba, grown_below (hg2.trans hg3') hba, (hev.src hg3' hq).below hba, hb.1, by simp; omega⟩
/-- A choice among literal numbers behind one block more. -/
theorem among_lit2 (q m : Nat) (ls : List Int) (cs : Array Value) (T : TypeId) (O : Obj) (k d : Nat) (w : World) (h : SrcP w q m) (hm : m ≤ 100000000000) (hcs : cs = (ls.map (.int .i64)).toArray) (hk : k = ls.length) (h0 : 0 < k) (hl : ls.length ≤ 1000) (hb : ∀ x ∈ ls, -9223372036854775808 ≤ x ∧ x ≤ 9223372036854775807) :
    Calls Try.prog 93 #[.pointer (some ⟨q, 0, none⟩), .slice (some ⟨w.heap.size, 0, none⟩) k d] ((w.alloc (.cells cs T)).alloc O) fun e w' => (∃ x ∈ ls, e = .returned (.int .i64 x)) ∧ SrcP w' q (m + 2) ∧ ((w.alloc (.cells cs T)).alloc O).grownBy w' (some q) := by
  have hq := h.lt
  obtain ⟨A, n, c, p, h1, h2, h3⟩ := h
  subst hk
  have hb1 : Below w.heap.size w (w.alloc (.cells cs T)) := (Below.refl _ _).alloc (Nat.le_refl _) _
  have hb2 : Below (w.alloc (.cells cs T)).heap.size (w.alloc (.cells cs T)) ((w.alloc (.cells cs T)).alloc O) := (Below.refl _ _).alloc (Nat.le_refl _) _
  refine (among_s q A n c p _ _ d ls _ ((h1.below hb1).below hb2) (by omega) ((ints_lit w ls cs T hcs hl hb).below hb2) h0 (fun b off e => ?_)).mono ?_
  · injection e with e
    injection e with e _ _
    omega
  · rintro e w' ⟨he, ⟨p', hp1, hp2, hs⟩, hg⟩
    exact ⟨he, ⟨A, n, c, p', hs, by omega, h3⟩, hg⟩
/-- One event appended, at a step of a region that draws its order: it lies in the newest block. -/
theorem step_app_ev {P : Program} {wz : World} {ops : Array Oper} {o : Oper} {a : Act} {K : Act → World → Prop} {Q : Exit → Act → World → Prop} {E : Prop} (hgd : o.guard = none) (s x : Operand) (t : TypeId)
    (ho : o.op = .call { callee := .builtin .append, args := #[s, x], argTypes := #[t, t] })
    (base : Nat) (e : TypeId) (ht : P.underlying t = some (.slice e)) (hinfo : (P.info? e).map (fun i => (i.zero, i.size, i.bytes)) = some (some (.agg #[.int .i64 0, .slice none 0 0]), 2, 32))
    (v : Value) (n : Nat) (xs : List Value) (y : Int) (A : Option Addr) (m d : Nat) (hs : a.eval s = v) (hown : wz.ownsRow base e 2 v n xs)
    (B : Nat) (hx : a.eval x = .slice (some ⟨B, 0, none⟩) 1 1) (hB : wz.heap[B]? = some (.cells #[.int .i64 y, .slice A m d] e (0, 0))) (hn : n ≤ 1000000000) (hbase : base ≤ wz.heap.size)
    (h : ∀ v' w', w'.ownsRow base e 2 v' (n + 1) (xs ++ [.int .i64 y, .slice A m d]) → wz.grownBy w' v.ownBlock → (∃ g c, v' = .slice (some ⟨g, 0, none⟩) (n + 1) c) → K (a.put o.dst v') w') :
    if Region.wanted o (yielded ops a.tmps) = true then Oper.wp P o a wz K Q else E := by
  obtain ⟨i, hi, hz0, hz1, hz2⟩ := info_parts hinfo
  exact step_append_lies wz hgd s x t ho base e i _ 2 32 ht hi hz0 hz1 hz2 rfl (by omega) v n _ hs hown ⟨B, 0, none⟩ 1 1 [.int .i64 y, .slice A m d] hx rfl (World.news_of_block (cs := #[.int .i64 y, .slice A m d]) hB) (by intro u hu; simp at hu; rcases hu with rfl | rfl <;> rfl)
    (by omega) (by unfold maxLen; omega) (by omega) hbase _ rfl (fun g cap w' h1 h2 _ _ => h _ w' (by simpa using h1) h2 ⟨g, cap, rfl⟩)
/-- The last append of a draw of events. -/
theorem ready_app {w wp w5 : World} {q mm np j : Nat} {o v' : Value} {es : List Ev} {cs : List Value} {P : Option Addr} {y : Int} {O : Obj} (h : Ready w wp q mm o j es P np) (r1 : wp.ownsRow w.heap.size 68 2 o j cs) (r2 : es.length = j)
    (r3 : ∀ i, i < j → ∃ P m d, cs[i * 2]? = some (.int .i64 (yAt es i)) ∧ cs[i * 2 + 1]? = some (.slice P m d) ∧ i64b (yAt es i) ∧ (∀ x ∈ pAt es i, i64b x) ∧ wp.ownsRow w.heap.size 2 1 (.slice P m d) m ((pAt es i).map (.int .i64)))
    (hq : q < w.heap.size) (hy : i64b y) (hown5 : w5.ownsRow w.heap.size 68 2 v' (j + 1) (cs ++ [.int .i64 y, .slice P np np])) (hgrow5 : (wp.alloc O).grownBy w5 o.ownBlock) :
    EvB w5 w.heap.size v' (j + 1) (es ++ [(y, zer np)]) ∧ SrcP w5 q mm ∧ w.grownBy w5 (some q) := by
  have hba : Below wp.heap.size wp (wp.alloc O) := (Below.refl _ _).alloc (Nat.le_refl _) _
  have hob : ∀ g, o.ownBlock = some g → w.heap.size ≤ g := fun g hg => own_blk r1 g hg
  refine ⟨EvB.app (own_below r1 hba) r2 (fun i hi => ?_) hgrow5 hy (fun x hx => ?_) (own_below h.2.2.2.1 hba) hown5, (h.1.below hba).grow hgrow5 (fun g hg => by have := hob g hg; omega), grown_new (grown_below h.2.1 hba) hgrow5 hob⟩
  · obtain ⟨P', m', d', a1, a2, a3, a4, a5⟩ := r3 i hi
    exact ⟨P', m', d', a1, a2, a3, a4, own_below a5 hba⟩
  · simp [zer] at hx
    unfold i64b
    omega
theorem yb3 {y : Int} (h : y ∈ ([0, 300, 301] : List Int)) : i64b y := by
  simp only [List.mem_cons, List.not_mem_nil, or_false] at h
  unfold i64b
  omega
theorem draw0_c (q m np j : Nat) (w w2 : World) (o : Value) (es : List Ev) (hs : SrcP w2 q m) (hm : m ≤ 10000000000) (hg2 : w.grownBy w2 (some q)) (hev : EvB w2 w.heap.size o j es) (hq : q < w.heap.size) (hnp : np ≤ 6) :
    Calls Try.prog 93 #[.pointer (some ⟨q, 0, none⟩), .slice (some ⟨w2.heap.size, 0, none⟩) 3 3] (w2.alloc (.cells #[.int .i64 0, .int .i64 300, .int .i64 301] 2)).drew
      fun e w3 => (∃ y : Int, e = .returned (.int .i64 y) ∧ i64b y) ∧ w2.heap.size ≤ w3.heap.size ∧ Ready w (w3.alloc (madeO np)) q (m + 2) o j es (some ⟨w3.heap.size, 0, none⟩) np := by
  refine (among_lit q m [0, 300, 301] _ 2 3 3 w2.drew (show SrcP w2.drew q m from hs) (by omega) rfl rfl (by decide) (by decide) (by decide)).mono ?_
  rintro e w3 ⟨⟨y, hy, rfl⟩, hs3, hg3⟩
  exact ⟨⟨y, rfl, yb3 hy⟩, hg3.size, ready_c hg2 hev hq hnp hs3 hg3⟩
theorem draw0_a (q m np j : Nat) (w w2 : World) (o : Value) (es : List Ev) (hs : SrcP w2 q m) (hm : m ≤ 10000000000) (hg2 : w.grownBy w2 (some q)) (hev : EvB w2 w.heap.size o j es) (hq : q < w.heap.size) (hnp : np ≤ 6) :
    Calls Try.prog 93 #[.pointer (some ⟨q, 0, none⟩), .slice (some ⟨w2.heap.size + 1, 0, none⟩) 3 3] ((w2.alloc (madeO np)).alloc (.cells #[.int .i64 0, .int .i64 300, .int .i64 301] 2)).drew
      fun e w3 => (∃ y : Int, e = .returned (.int .i64 y) ∧ i64b y) ∧ Ready w w3 q (m + 2) o j es (some ⟨w2.heap.size, 0, none⟩) np := by
  have hs' : SrcP (w2.alloc (madeO np)) q m := hs.below ((Below.refl _ _).alloc (Nat.le_refl _) _)
  have key := among_lit q m [0, 300, 301] _ 2 3 3 (w2.alloc (madeO np)).drew (show SrcP (w2.alloc (madeO np)).drew q m from hs') (by omega) rfl rfl (by decide) (by decide) (by decide)
  have hsz : (w2.alloc (madeO np)).drew.heap.size = w2.heap.size + 1 := by show (w2.alloc (madeO np)).heap.size = _; simp
  rw [hsz] at key
  refine key.mono ?_
  rintro e w3 ⟨⟨y, hy, rfl⟩, hs3, hg3⟩
  exact ⟨⟨y, rfl, yb3 hy⟩, ready_a hg2 hev hq hnp hs3 hg3⟩
theorem draw0_b (q m np j : Nat) (w w2 : World) (o : Value) (es : List Ev) (hs : SrcP w2 q m) (hm : m ≤ 10000000000) (hg2 : w.grownBy w2 (some q)) (hev : EvB w2 w.heap.size o j es) (hq : q < w.heap.size) (hnp : np ≤ 6) :
    Calls Try.prog 93 #[.pointer (some ⟨q, 0, none⟩), .slice (some ⟨w2.heap.size, 0, none⟩) 3 3] ((w2.alloc (.cells #[.int .i64 0, .int .i64 300, .int .i64 301] 2)).alloc (madeO np)).drew
      fun e w3 => (∃ y : Int, e = .returned (.int .i64 y) ∧ i64b y) ∧ Ready w w3 q (m + 2) o j es (some ⟨w2.heap.size + 1, 0, none⟩) np := by
  refine (among_lit2 q m [0, 300, 301] _ 2 (madeO np) 3 3 w2.drew (show SrcP w2.drew q m from hs) (by omega) rfl rfl (by decide) (by decide) (by decide)).mono ?_
  rintro e w3 ⟨⟨y, hy, rfl⟩, hs3, hg3⟩
  exact ⟨⟨y, rfl, yb3 hy⟩, ready_b hg2 hev hq hnp hs3 hg3⟩
set_option maxRecDepth 100000 in
set_option maxHeartbeats 4000000 in
theorem l16DrawEvents_d (q m : Nat) (w : World) (h : SrcP w q m) (hm : m ≤ 1000000000) :
    Calls Try.prog 99 #[.pointer (some ⟨q, 0, none⟩)] w fun e w' => EvD w 9 e w' ∧ SrcP w' q (m + 1000) ∧ w.grownBy w' (some q) := by
  have hq := h.lt
  have HH := Lib.hid h
  clear h
  have hown0 := World.ownsRow_lit (base := w.heap.size) (e := 68) (size := 2) w #[] 0 (Nat.le_refl _) (by simp) rfl
  have hba : Below w.heap.size w (w.alloc (.cells #[] 68)) := (Below.refl _ _).alloc (Nat.le_refl _) _
  have H0 := Lib.hid (And.intro (HH.out.below hba) (And.intro (grown_below (World.grownBy.refl w (some q)) hba) hown0))
  clear hown0 hba
  go_enter Try.func99, Try.ntmps99
  go_wp2_with fail
  refine (pick_p _ _ 6 _ H0.out.1 (by omega) (by omega)).mono ?_
  rintro e w1 ⟨⟨x0, rfl, hx1, hx2⟩, hs1, hg1⟩
  obtain ⟨np, hnp⟩ : ∃ np : Nat, 1 + x0 = (np : Int) := ⟨(1 + x0).toNat, by omega⟩
  have hnp2 : 1 ≤ np ∧ np ≤ 6 := by omega
  have hz1 := hg1.size
  have hz1' : w.heap.size + 1 ≤ w1.heap.size := by simpa using hz1
  have hrow := World.ownsRow_lit (base := w.heap.size) (e := 2) (size := 1) w1 #[.int .i64 10, .int .i64 30, .int .i64 31, .int .i64 100, .int .i64 300] 5 (by omega) (by unfold maxLen; omega) rfl
  have hba : Below w1.heap.size w1 (w1.alloc (.cells #[.int .i64 10, .int .i64 30, .int .i64 31, .int .i64 100, .int .i64 300] 2)) := (Below.refl _ _).alloc (Nat.le_refl _) _
  have H1 := Lib.hid (And.intro (hs1.below hba) (And.intro (grown_below (H0.out.2.1.trans hg1) hba) (And.intro (own_below (H0.out.2.2.kept hg1 (.inr fun e => by have := own_blk H0.out.2.2 _ e; omega)) hba) hrow)))
  clear hs1 hg1 hrow hba hx2
  go_wp2_with fail
  try rw [hnp]
  clear hnp hx1
  go_loopw [3, 6] (fun o kv wr => ∃ (k j : Nat) (es : List Ev), k ≤ 5 ∧ j ≤ k ∧ kv = .int .i64 k ∧ SrcP wr q (m + 2 + 20 * k) ∧ w.grownBy wr (some q) ∧ EvB wr w.heap.size o j es ∧ wr.ownsRow w.heap.size 2 1 (.slice (some ⟨w1.heap.size, 0, none⟩) 5 5) 5 ([10, 30, 31, 100, 300].map (.int .i64)) ∧ w1.heap.size < wr.heap.size) (fun _ kv _ => 5 - (intOf kv).toNat)
  case atStart => exact ⟨0, 0, [], by omega, by omega, rfl, H1.out.1.mono (by omega), H1.out.2.1, EvB.nil H1.out.2.2.1, H1.out.2.2.2, by simp⟩
  case round =>
    obtain ⟨k, j, es, hk, hjk, rfl, hs, hgr, hev, hyr, hzr⟩ := hrel
    have HR := Lib.hid (And.intro hs (And.intro hgr (And.intro hev hyr)))
    clear hs hgr hev hyr
    by_cases hk5 : k < 5
    · go_wp2_with fail
      refine (one_p _ _ 2 _ HR.out.1 (by omega) (by omega)).mono ?_
      rintro e w2 ⟨⟨b, rfl⟩, hs2, hg2⟩
      have hz2 := hg2.size
      have H2 := Lib.hid (And.intro hs2 (And.intro (HR.out.2.1.trans hg2) (And.intro (HR.out.2.2.1.src hg2 hq) (HR.out.2.2.2.kept hg2 (.inr fun e => by have := own_blk HR.out.2.2.2 _ e; omega)))))
      clear hs2 hg2
      cases b
      · obtain ⟨y, hy⟩ : ∃ y : Int, ([10, 30, 31, 100, 300] : List Int)[k]? = some y := ⟨_, List.getElem?_eq_getElem (by simpa using hk5)⟩
        have hyb : i64b y := by
          have := List.mem_of_getElem? hy
          simp only [List.mem_cons, List.not_mem_nil, or_false] at this
          unfold i64b
          omega
        have hints := Ints.of_own (xs := [10, 30, 31, 100, 300]) H2.out.2.2.2 (by decide)
        obtain ⟨b', off', y', hAA, HY, hc, _, _⟩ := hints.at_ (k := k) (by omega)
        injection hAA with hAA
        injection hAA with e1 e2 _
        subst e1 e2
        obtain rfl : y' = y := by have := HY.out.symm.trans hy; injection this
        rw [Nat.zero_add] at hc
        have HYB := Lib.hid hyb
        clear hints hy hyb HY
        go_wp2_with fail
        obtain ⟨wx, hwx⟩ : ∃ wx, wx = w2.alloc (.cells #[.int .i64 y', .slice none 0 0] 68) := ⟨_, rfl⟩
        have hbx : Below w2.heap.size w2 wx := by rw [hwx]; exact (Below.refl _ _).alloc (Nat.le_refl _) _
        have hxb : XBox wx w.heap.size w2.heap.size y' (.slice none 0 0) 0 [] := ⟨by omega, by rw [hwx]; exact blk_alloc_new _ _, ⟨by simp, .inl ⟨rfl, rfl⟩⟩, by simp⟩
        have HX0 := Lib.hid (And.intro (H2.out.1.below hbx) (And.intro hbx hxb))
        rw [← hwx]
        have hzx : w2.heap.size < wx.heap.size := by rw [hwx]; simp
        clear hwx hbx hxb hc
        go_loopw [8] (fun iv wi => ∃ (i : Nat) (v : Value) (xs : List Int), i ≤ np ∧ iv = .int .i64 i ∧ SrcP wi q (m + 4 + 20 * k + 2 * i) ∧ Hid (∀ B0, B0 ≤ w2.heap.size → q < B0 → True) ∧ Hid (w2.grownBy wi (some q)) ∧ Hid (XBox wi w.heap.size w2.heap.size y' v i xs) ∧ w2.heap.size < wi.heap.size) (fun iv _ => np - (intOf iv).toNat)
        case atStart => exact ⟨0, .slice none 0 0, [], by omega, rfl, HX0.out.1.mono (by omega), fun _ _ _ => trivial, grown_below (World.grownBy.refl w2 (some q)) HX0.out.2.1, HX0.out.2.2, hzx⟩
        case round =>
          clear HX0 hzx
          obtain ⟨i, v, xs, hi, rfl, hs, _, HG, HX, hzi⟩ := hrel
          have HS := Lib.hid hs
          clear hs
          by_cases hin : i < np
          · have c1 := Go.Joins.cell_of_block HX.out.2.1 1
            have u1 := Go.Joins.unfrozen_of_block HX.out.2.1 1
            simp only [List.getElem?_toArray, List.getElem?_cons_zero, List.getElem?_cons_succ] at c1
            have hini : (i : Int) < (np : Int) := by omega
            have hvn := own_ne_blk HX.out.2.2.1 HX.out.2.1 (by decide)
            have hvq : v.ownBlock ≠ some q := fun e => by have := own_blk HX.out.2.2.1 q e; omega
            have HVN := Lib.hid (And.intro hvn hvq)
            clear hvn hvq
            have hq2 : q ≠ w2.heap.size := by omega
            go_upto_region 12 with (fail)
            go_region_law (first | (go_simp; go_at_call 93; refine (among_lit q _ [0, 0, 500, 2999, 3000, 20000, 30000] _ _ _ _ wr.drew (show SrcP wr.drew q _ from HS.out) (by omega) rfl rfl (by decide) (by decide) (by decide)).mono ?_; rintro e w3 ⟨⟨z, hz, rfl⟩, hs3, hg3⟩; have hz3 : wr.heap.size ≤ w3.heap.size := hg3.size; have hz4 : w2.heap.size < w3.heap.size := (by omega); have hb3 : w3.heap[w2.heap.size]? = some (.cells #[.int .i64 y', v] 68 (0, 0)) := (hg3.block w2.heap.size (show w2.heap.size < wr.heap.size from hzi) (fun e => hq2 (Option.some.inj e).symm)).trans HX.out.2.1; have hS1 : w3.cell? ⟨w2.heap.size, 1, none⟩ = some v := by have := Go.Joins.cell_of_block hb3 1; simpa using this) | (refine step_app_int rfl (.tmp 35) (.tmp 39) 22 rfl w2.heap.size 2 Try.underlying22 info_int v i xs z rfl ((HX.out.2.2.1.kept (w := wr.drew) hg3 (.inr HVN.out.2)).alloc _) w3.heap.size rfl (heap_alloc_new w3 _) (by omega) (by simp; omega) ?_; intro v' w4 hown4 hgrow4 hv4; obtain ⟨g4, cc4, rfl⟩ := hv4; have hb4 : w4.heap[w2.heap.size]? = some (.cells #[.int .i64 y', v] 68 (0, 0)) := (hgrow4.block w2.heap.size (by simp; omega) (fun e => HVN.out.1 e.symm)).trans ((Below.heap_alloc w3 _ _ (by omega)).trans hb3); have c4 : w4.cell? ⟨w2.heap.size, 1, none⟩ = some v := (by have := Go.Joins.cell_of_block hb4 1; simpa using this); have u4 := Go.Joins.unfrozen_of_block hb4 1))
            all_goals
              have hzb : i64b z := by
                simp only [List.mem_cons, List.not_mem_nil, or_false] at hz
                unfold i64b
                omega
              have HF := Lib.hid (xbox_step HG.out HX.out rfl (by omega) hg3 hs3 hzb hown4 hgrow4 hb4)
              have hzf : w2.heap.size < w4.heap.size := by have := hgrow4.size; simp at this; omega
              clear hs3 hg3 hown4 hgrow4 hb4 hb3 c4 u4 hS1 hz hzb c1 u1
              go_wp2_with fail
              go_roundw
              case rel => exact ⟨i + 1, _, _, by omega, by go_num, HF.out.1.mono (by omega), fun _ _ _ => trivial, HF.out.2.1, HF.out.2.2, by simpa [World.setCell] using hzf⟩
              case measure => simp [intOf]; omega
          · obtain rfl : i = np := by omega
            obtain ⟨A', c', rfl, _⟩ := own_form HX.out.2.2.1
            have c0 := Go.Joins.cell_of_block HX.out.2.1 0
            have c1 := Go.Joins.cell_of_block HX.out.2.1 1
            simp only [List.getElem?_toArray, List.getElem?_cons_zero, List.getElem?_cons_succ] at c0 c1
            have HE := Lib.hid (And.intro (H2.out.2.1.trans HG.out) (And.intro (H2.out.2.2.1.src HG.out hq) (H2.out.2.2.2.kept HG.out (.inr fun e => by have := own_blk H2.out.2.2.2 _ e; omega))))
            obtain ⟨cs, r1, r2, r3⟩ := HE.out.2.1
            have HR2 := Lib.hid (And.intro r1 (And.intro r2 r3))
            clear r1 r2 r3
            have hzw : w.heap.size ≤ wr.heap.size := by omega
            go_wp2_with (at_builtin; refine wp_app rfl (.tmp 42) (.tmp 44) 42 rfl w.heap.size 68 (.agg #[.int .i64 0, .slice none 0 0]) 2 32 Try.underlying42 info_ev rfl (by omega) _ j cs (by rfl) HR2.out.1 [.int .i64 y', .slice A' i c'] rfl (by rfl) (by intro u hu; simp at hu; rcases hu with rfl | rfl <;> rfl) (by unfold maxLen; omega) (by omega) hzw ?_; intro v' w5 hown5 hgrow5 hv5)
            have HF := Lib.hid (And.intro (EvB.app HR2.out.1 HR2.out.2.1 HR2.out.2.2 hgrow5 HYB.out HX.out.2.2.2 (own_base HX.out.2.2.1 HX.out.1) hown5) (And.intro (HS.out.grow hgrow5 (fun g hg => by have := own_blk HR2.out.1 g hg; omega)) (And.intro (grown_new HE.out.1 hgrow5 (fun g hg => own_blk HR2.out.1 g hg)) (HE.out.2.2.kept hgrow5 (own_ne' HR2.out.1 HE.out.2.2 (by decide))))))
            have hz5 := hgrow5.size
            clear hown5 hgrow5 c0 c1
            go_wp2_with fail
            go_roundw
            case rel => exact ⟨k + 1, j + 1, _, by omega, by omega, by go_num, HF.out.2.1.mono (by omega), HF.out.2.2.1, HF.out.1, HF.out.2.2.2, by omega⟩
            case measure => simp [intOf]; omega
      · go_wp2_with fail
        go_roundw
        case rel => exact ⟨k + 1, j, es, by omega, by omega, by go_num, H2.out.1.mono (by omega), H2.out.2.1, H2.out.2.2.1, H2.out.2.2.2, by omega⟩
        case measure => simp [intOf]; omega
    · obtain rfl : k = 5 := by omega
      go_wp2_with fail
      refine (pick_p _ _ 20 _ HR.out.1 (by omega) (by omega)).mono ?_
      rintro e w2 ⟨⟨z, rfl, hz1, hz2⟩, hs2, hg2⟩
      have hz3 := hg2.size
      have H2 := Lib.hid (And.intro hs2 (And.intro (HR.out.2.1.trans hg2) (HR.out.2.2.1.src hg2 hq)))
      clear hs2 hg2
      have hzw : w.heap.size ≤ w2.heap.size := by omega
      have hcase : z = 0 ∨ z = 1 ∨ z = 2 ∨ z = 3 ∨ (¬ z = 0 ∧ ¬ z = 1 ∧ ¬ z = 2 ∧ ¬ z = 3) := by omega
      rcases hcase with rfl | rfl | rfl | rfl | ⟨h0, h1, h2, h3⟩
      · have hs2d := H2.out.1
        have hmk := fun W => run_make_row' (P := Try.prog) 22 2 (.int .i64 0) 8 Try.underlying22 info_int rfl .i64 .i64 np (by omega) (by omega) W
        have hnp6 : np ≤ 6 := by omega
        have HS2 := Lib.hid hs2d
        clear hs2d
        go_wp2_with fail
        have HA0 := Lib.hid (draw0_a q _ np j w w2 _ es HS2.out (by omega) H2.out.2.1 H2.out.2.2 hq hnp6)
        have HB0 := Lib.hid (draw0_b q _ np j w w2 _ es HS2.out (by omega) H2.out.2.1 H2.out.2.2 hq hnp6)
        have HC0 := Lib.hid (draw0_c q _ np j w w2 _ es HS2.out (by omega) H2.out.2.1 H2.out.2.2 hq hnp6)
        go_region_law (first
          | (go_simp; go_at_call 93; (with_reducible refine HC0.out.mono ?_); rintro e w3 ⟨⟨y, rfl, hyb⟩, hz4, hrd⟩; have HRC := Lib.hid (And.intro hrd hyb); clear hrd hyb)
          | (go_simp; go_at_call 93; (with_reducible refine HA0.out.mono ?_); rintro e w3 ⟨⟨y, rfl, hyb⟩, hrd⟩; have HRD := Lib.hid (And.intro hrd hyb); clear hrd hyb)
          | (go_simp; go_at_call 93; (with_reducible refine HB0.out.mono ?_); rintro e w3 ⟨⟨y, rfl, hyb⟩, hrd⟩; have HRD := Lib.hid (And.intro hrd hyb); clear hrd hyb)
          | (obtain ⟨cs, r1, r2, r3⟩ := HRD.out.1.2.2.1; have hzr4 := HRD.out.1.2.2.2.2; refine step_app_ev rfl (.tmp 50) (.tmp 57) 42 rfl w.heap.size 68 Try.underlying42 info_ev _ j cs y _ np np rfl (r1.alloc _) w3.heap.size rfl (heap_alloc_new w3 _) (by omega) (by simp; omega) ?_; intro v' w5 hown5 hgrow5 hv5; obtain ⟨g5, c5, rfl⟩ := hv5; have HF := Lib.hid (ready_app HRD.out.1 r1 r2 r3 hq HRD.out.2 hown5 hgrow5); clear r1 r2 r3 hown5 hgrow5)
          | (obtain ⟨cs, r1, r2, r3⟩ := HRC.out.1.2.2.1; have hzr4 := HRC.out.1.2.2.2.2; refine step_app_ev rfl (.tmp 50) (.tmp 57) 42 rfl w.heap.size 68 Try.underlying42 info_ev _ j cs y (some ⟨w3.heap.size, 0, none⟩) np np rfl (r1.alloc (.cells #[.int .i64 y, .slice (some ⟨w3.heap.size, 0, none⟩) np np] 68)) (w3.heap.size + 1) rfl (by have := heap_alloc_new (w3.alloc (madeO np)) (.cells #[.int .i64 y, .slice (some ⟨w3.heap.size, 0, none⟩) np np] 68); rw [show (w3.alloc (madeO np)).heap.size = w3.heap.size + 1 by simp] at this; exact this) (by omega) (by simp at hzr4 ⊢; omega) ?_; intro v' w5 hown5 hgrow5 hv5; obtain ⟨g5, c5, rfl⟩ := hv5; have HF := Lib.hid (ready_app HRC.out.1 r1 r2 r3 hq HRC.out.2 hown5 hgrow5); clear r1 r2 r3 hown5 hgrow5))
        all_goals
          clear hmk
          go_wp2_with fail
          go_ret
          exact ⟨⟨_, _, _, _, rfl, HF.out.1, by omega⟩, HF.out.2.1.mono (by omega), HF.out.2.2⟩
      · go_wp2_with fail
        refine (among_lit _ _ [-1, 1000000, 1000001] _ _ _ _ _ H2.out.1 (by omega) rfl rfl (by decide) (by decide) (by decide)).mono ?_
        rintro e w3 ⟨⟨y, hy, rfl⟩, hs3, hg3⟩
        have hyb : i64b y := by
          simp only [List.mem_cons, List.not_mem_nil, or_false] at hy
          unfold i64b
          omega
        have hz4 := hg3.size
        have hba : Below w3.heap.size w3 (w3.alloc (.cells #[.int .i64 y] 2)) := (Below.refl _ _).alloc (Nat.le_refl _) _
        have hin := World.ownsRow_lit (base := w.heap.size) (e := 2) (size := 1) w3 #[.int .i64 y] 1 (by omega) (by unfold maxLen; omega) rfl
        obtain ⟨cs, r1, r2, r3⟩ := (H2.out.2.2.src hg3 hq).below hba
        have H3 := Lib.hid (And.intro (hs3.below hba) (And.intro (grown_below (H2.out.2.1.trans hg3) hba) (And.intro r1 (And.intro r2 (And.intro r3 hin)))))
        have HYB := Lib.hid hyb
        clear hs3 hg3 hy hba hin r1 r2 r3 hyb
        have hzz : w.heap.size ≤ (w3.alloc (.cells #[.int .i64 y] 2)).heap.size := by simp; omega
        go_wp2_with (at_builtin; refine wp_app (wr := w3.alloc (.cells #[.int .i64 y] 2)) rfl (.tmp 61) (.tmp 67) 42 rfl w.heap.size 68 (.agg #[.int .i64 0, .slice none 0 0]) 2 32 Try.underlying42 info_ev rfl (by omega) _ j cs (by rfl) H3.out.2.2.1 [.int .i64 300, .slice (some ⟨w3.heap.size, 0, none⟩) 1 1] rfl (by first | rfl | (show Value.slice (some ⟨_, 0, none⟩) 1 1 = Value.slice (some ⟨_, 0, none⟩) 1 1; simp)) (by intro u hu; simp at hu; rcases hu with rfl | rfl <;> rfl) (by unfold maxLen; omega) (by omega) hzz ?_; intro v' w5 hown5 hgrow5 hv5)
        obtain ⟨g5, c5, rfl⟩ := hv5
        have HF := Lib.hid (And.intro (EvB.app (y := 300) (ps := [y]) H3.out.2.2.1 H3.out.2.2.2.1 H3.out.2.2.2.2.1 hgrow5 (by unfold i64b; omega) (fun x hx => by simp at hx; subst hx; exact HYB.out) H3.out.2.2.2.2.2 hown5) (And.intro (H3.out.1.grow hgrow5 (fun g hg => by have := own_blk H3.out.2.2.1 g hg; omega)) (grown_new H3.out.2.1 hgrow5 (fun g hg => own_blk H3.out.2.2.1 g hg))))
        clear hown5 hgrow5
        go_wp2_with fail
        go_ret
        exact ⟨⟨_, _, _, _, rfl, HF.out.1, by omega⟩, HF.out.2.1.mono (by omega), HF.out.2.2⟩
      · go_wp2_with fail
        refine (among_lit _ _ [8, 9] _ _ _ _ _ H2.out.1 (by omega) rfl rfl (by decide) (by decide) (by decide)).mono ?_
        rintro e w3 ⟨⟨y, hy, rfl⟩, hs3, hg3⟩
        have hy3 : ∃ mm : Nat, y = (mm : Int) ∧ mm ≤ 9 := by
          simp only [List.mem_cons, List.not_mem_nil, or_false] at hy
          exact ⟨y.toNat, by omega, by omega⟩
        obtain ⟨mm, rfl, hm9⟩ := hy3
        have hz4 := hg3.size
        have hown0 := World.ownsRow_lit (base := w.heap.size) (e := 68) (size := 2) w3 #[] 0 (by omega) (by simp) rfl
        have hba : Below w3.heap.size w3 (w3.alloc (.cells #[] 68)) := (Below.refl _ _).alloc (Nat.le_refl _) _
        have H3 := Lib.hid (And.intro (hs3.below hba) (And.intro (grown_below (H2.out.2.1.trans hg3) hba) (EvB.nil hown0)))
        clear hs3 hg3 hy hown0 hba
        go_wp2_with fail
        go_loopw [3, 10] (fun o kv wr => ∃ (k : Nat) (es : List Ev), k ≤ mm ∧ kv = .int .i64 k ∧ SrcP wr q (m + 200) ∧ w.grownBy wr (some q) ∧ EvB wr w.heap.size o k es ∧ w.heap.size ≤ wr.heap.size) (fun _ kv _ => mm - (intOf kv).toNat)
        case atStart => exact ⟨0, [], by omega, rfl, H3.out.1.mono (by omega), H3.out.2.1, H3.out.2.2, H3.out.2.1.size⟩
        case round =>
          clear H3 hz4 H2 HR hz3 hzw
          obtain ⟨k, es, hk, rfl, hs, hgr, hev, hz⟩ := hrel
          by_cases hlt : k < mm
          · have hba : Below wr.heap.size wr (wr.alloc (.cells #[.int .i64 k] 2)) := (Below.refl _ _).alloc (Nat.le_refl _) _
            have hin := World.ownsRow_lit (base := w.heap.size) (e := 2) (size := 1) wr #[.int .i64 k] 1 hz (by unfold maxLen; omega) rfl
            obtain ⟨cs, r1, r2, r3⟩ := hev.below hba
            have H3 := Lib.hid (And.intro (hs.below hba) (And.intro (grown_below hgr hba) (And.intro r1 (And.intro r2 (And.intro r3 hin)))))
            clear hs hgr hev hba hin r1 r2 r3
            have hzz : w.heap.size ≤ (wr.alloc (.cells #[.int .i64 k] 2)).heap.size := by simp; omega
            have hki : (k : Int) < (mm : Int) := by omega
            go_wp2_with (at_builtin; refine wp_app (wr := wr.alloc (.cells #[.int .i64 k] 2)) rfl (.tmp 80) (.tmp 86) 42 rfl w.heap.size 68 (.agg #[.int .i64 0, .slice none 0 0]) 2 32 Try.underlying42 info_ev rfl (by omega) _ k cs (by rfl) H3.out.2.2.1 [.int .i64 (1 + k), .slice (some ⟨wr.heap.size, 0, none⟩) 1 1] rfl (by first | rfl | (show Value.slice (some ⟨_, 0, none⟩) 1 1 = Value.slice (some ⟨_, 0, none⟩) 1 1; simp)) (by intro u hu; simp at hu; rcases hu with rfl | rfl <;> rfl) (by unfold maxLen; omega) (by omega) hzz ?_; intro v' w5 hown5 hgrow5 hv5)
            have hz5 := hgrow5.size
            have HF := Lib.hid (And.intro (EvB.app (y := 1 + (k : Int)) (ps := [(k : Int)]) H3.out.2.2.1 H3.out.2.2.2.1 H3.out.2.2.2.2.1 hgrow5 (by unfold i64b; omega) (fun x hx => by simp at hx; subst hx; unfold i64b; omega) H3.out.2.2.2.2.2 hown5) (And.intro (H3.out.1.grow hgrow5 (fun g hg => by have := own_blk H3.out.2.2.1 g hg; omega)) (grown_new H3.out.2.1 hgrow5 (fun g hg => own_blk H3.out.2.2.1 g hg))))
            clear hown5 hgrow5
            go_wp2_with fail
            go_roundw
            case rel => exact ⟨k + 1, _, by omega, by go_num, HF.out.2.1, HF.out.2.2, HF.out.1, by omega⟩
            case measure => simp [intOf]; omega
          · obtain rfl : k = mm := by omega
            have HE := Lib.hid hev
            obtain ⟨cs, r1, _⟩ := hev
            obtain ⟨A', c', rfl, _⟩ := own_form r1
            have HG := Lib.hid (And.intro hs hgr)
            clear hs hgr r1
            go_wp2_with fail
            go_ret
            exact ⟨⟨_, _, _, _, rfl, HE.out, by omega⟩, HG.out.1.mono (by omega), HG.out.2⟩
      · go_wp2_with fail
        refine (among_lit _ _ [0, 64, 65] _ _ _ _ _ H2.out.1 (by omega) rfl rfl (by decide) (by decide) (by decide)).mono ?_
        rintro e w3 ⟨⟨y, hy, rfl⟩, hs3, hg3⟩
        have hy3 : ∃ mm : Nat, y = (mm : Int) ∧ mm ≤ 65 := by
          simp only [List.mem_cons, List.not_mem_nil, or_false] at hy
          exact ⟨y.toNat, by omega, by omega⟩
        obtain ⟨mm, rfl, hm65⟩ := hy3
        have hz4 := hg3.size
        have hba : Below w3.heap.size w3 (w3.alloc (.cells (madeCells #[.int .i64 0] mm) 2)) := (Below.refl _ _).alloc (Nat.le_refl _) _
        have hbag := bag_made w3 w.heap.size mm (-1) 1 (by omega) (by omega) (by omega)
        obtain ⟨w4, hw4⟩ : ∃ w4, w4 = w3.alloc (.cells (madeCells #[.int .i64 0] mm) 2) := ⟨_, rfl⟩
        rw [← hw4] at hba hbag
        have hba2 : Below w4.heap.size w4 (w4.alloc (.cells #[.int .i64 5, .slice (some ⟨w3.heap.size, 0, none⟩) mm mm] 68)) := (Below.refl _ _).alloc (Nat.le_refl _) _
        have hz5 := hba.size
        have hin := World.ownsRow_lit (base := w.heap.size) (e := 68) (size := 2) w4 #[.int .i64 5, .slice (some ⟨w3.heap.size, 0, none⟩) mm mm] 1 (by omega) (by unfold maxLen; omega) rfl
        have HF := Lib.hid (And.intro (EvB.single hin (by unfold i64b; omega) (fun x hx => by have := hbag.2 x hx; unfold i64b; omega) (own_below hbag.1 hba2)) (And.intro ((hs3.below hba).below hba2) (grown_below (grown_below (H2.out.2.1.trans hg3) hba) hba2)))
        have HW4 := Lib.hid hw4
        clear hs3 hg3 hy hba hba2 hbag hin hw4 hz5
        have hmk := fun W => run_make_row' (P := Try.prog) 22 2 (.int .i64 0) 8 Try.underlying22 info_int rfl .i64 .i64 mm (by omega) (by omega) W
        go_wp2_with fail
        clear hmk
        go_ret
        have hsz : w4.heap.size = w3.heap.size + 1 := by rw [HW4.out]; simp
        have hF := HF.out
        rw [hsz] at hF
        rw [HW4.out] at hF
        exact ⟨⟨_, _, _, _, rfl, hF.1, by omega⟩, hF.2.1.mono (by omega), hF.2.2⟩
      · have HE := Lib.hid H2.out.2.2
        obtain ⟨cs, r1, _⟩ := H2.out.2.2
        obtain ⟨A', c', rfl, _⟩ := own_form r1
        clear r1
        go_wp2_with fail
        go_ret
        exact ⟨⟨_, _, _, _, rfl, HE.out, by omega⟩, H2.out.1.mono (by omega), H2.out.2.1⟩
end Go.Proofs.Ytbakmcjngadebaa
