/-
  Helpers for joining and dividing layers.
-/
import Derived.Test.YtknppcgoooaaaaaGreatDoorProC
import Derived.Test.YtknppcgoooaaaaaGreatDoorProV
import Derived.Test.YtknppcgoooaaaaaGreatDoorProL
import Derived.Deep.DeepCutAuto
namespace Go.Proofs.YtknppcgoooaaaaaGreatDoor
open Go.ChangeShapes Go.WideShapes Go.ChangeAt Go.RowKit Go.Deep
set_option linter.unusedVariables false

theorem Lys.take {w : World} {A : Option Addr} {n : Nat} {ls : List Ly} (H : Lys w A n ls) {k : Nat} (hk : k ≤ n) : Lys w A k (ls.take k) := by
  obtain ⟨h1, h2, h3, h4⟩ := H
  refine ⟨by simp; omega, by omega, fun x hx => h3 x (List.mem_of_mem_take hx), fun h0 => ?_⟩
  obtain ⟨b, off, hA, hc⟩ := h4 (by omega)
  refine ⟨b, off, hA, fun j x hj => hc j x ?_⟩
  rw [List.getElem?_take] at hj
  split at hj
  · exact hj
  · cases hj
theorem Lys.one {w : World} {B : Nat} {f i v d t h a : Int} (h0 : LyAt w B 0 f i v d t h a) (hb : Lb f i v d t h a) : Lys w (some ⟨B, 0, none⟩) 1 [⟨f, i, v, d, t, h, a⟩] := by
  refine ⟨rfl, by omega, fun x hx => by simp at hx; subst hx; exact ly_ok hb, fun _ => ⟨B, 0, rfl, fun k x hk => ?_⟩⟩
  have hlt := (List.getElem?_eq_some_iff.1 hk).1
  simp at hlt
  subst hlt
  simp at hk
  subst hk
  simpa using h0
theorem two_split {ls : List Ly} {k : Nat} {x y : Ly} (hx : ls[k]? = some x) (hy : ls[k + 1]? = some y) : ls = ls.take k ++ x :: y :: ls.drop (k + 2) := by
  obtain ⟨h1, e1⟩ := List.getElem?_eq_some_iff.1 hx
  obtain ⟨h2, e2⟩ := List.getElem?_eq_some_iff.1 hy
  have d1 : ls.drop k = x :: ls.drop (k + 1) := by rw [← e1]; exact List.drop_eq_getElem_cons h1
  have d2 : ls.drop (k + 1) = y :: ls.drop (k + 2) := by rw [← e2]; exact List.drop_eq_getElem_cons h2
  rw [← d2, ← d1, List.take_append_drop]
theorem join_sum (f : Ly → Int) {ls : List Ly} {k : Nat} {x y z : Ly} (hx : ls[k]? = some x) (hy : ls[k + 1]? = some y) (hz : f z = f x + f y) : sumF f (ls.take k ++ ([z] ++ ls.drop (k + 2))) = sumF f ls := by
  have e := congrArg (sumF f) (two_split hx hy)
  rw [sumF_append, sumF_cons, sumF_cons] at e
  rw [e, sumF_append, sumF_append, sumF_cons, sumF_nil, hz]
  omega
theorem neg_mul_bd {i g : Int} (h1 : 1 ≤ i) (h2 : i ≤ 1000000) (h3 : -4000 ≤ g) (h4 : g ≤ 0) : -4000000000 ≤ i * g ∧ i * g ≤ 0 := by
  have e : i * g = -(i * (-g)) := by rw [Int.mul_neg, Int.neg_neg]
  have a1 : 0 ≤ i * (-g) := Int.mul_nonneg (by omega) (by omega)
  have a2 : i * (-g) ≤ 1000000 * 4000 := Int.mul_le_mul h2 (by omega) (by omega) (by omega)
  omega
theorem step_min {P : Program} {w : World} {ops : Array Oper} {o : Oper} {A : Act} {K : Act → World → Prop} {Q : Exit → Act → World → Prop} {E : Prop} (hgd : o.guard = none) (s x : Operand) (t : TypeId)
    (ho : o.op = .call { callee := .builtin .min, args := #[s, x], argTypes := #[t, t] }) (p q r : Int) (hs : A.eval s = .int .i64 p) (hx : A.eval x = .int .i64 q) (hr : (if q < p then q else p) = r) (h : K (A.put o.dst (.int .i64 r)) w) :
    if Region.wanted o (yielded ops A.tmps) = true then Oper.wp P o A w K Q else E := by
  have hw : Region.wanted o (yielded ops A.tmps) = true := by simp [Region.wanted, hgd]
  rw [if_pos hw]
  have hr' : (Builtin.min_ #[t, t] o.type #[.int .i64 p, .int .i64 q]).run P w = .ok (.int .i64 r) w := by
    rw [← hr]
    simp [Builtin.min_, Builtin.min2]
  unfold Oper.wp execOp
  simp only [ho, resolve, invoke, builtin, Sem.run_bind, Sem.run_pure, Result.andThen_ok, List.map_toArray, List.map_cons, List.map_nil, hs, hx, hr']
  exact h
theorem step_max {P : Program} {w : World} {ops : Array Oper} {o : Oper} {A : Act} {K : Act → World → Prop} {Q : Exit → Act → World → Prop} {E : Prop} (hgd : o.guard = none) (s x : Operand) (t : TypeId)
    (ho : o.op = .call { callee := .builtin .max, args := #[s, x], argTypes := #[t, t] }) (p q r : Int) (hs : A.eval s = .int .i64 p) (hx : A.eval x = .int .i64 q) (hr : (if p < q then q else p) = r) (h : K (A.put o.dst (.int .i64 r)) w) :
    if Region.wanted o (yielded ops A.tmps) = true then Oper.wp P o A w K Q else E := by
  have hw : Region.wanted o (yielded ops A.tmps) = true := by simp [Region.wanted, hgd]
  rw [if_pos hw]
  have hr' : (Builtin.max_ #[t, t] o.type #[.int .i64 p, .int .i64 q]).run P w = .ok (.int .i64 r) w := by
    rw [← hr]
    simp [Builtin.max_, Builtin.max2]
  unfold Oper.wp execOp
  simp only [ho, resolve, invoke, builtin, Sem.run_bind, Sem.run_pure, Result.andThen_ok, List.map_toArray, List.map_cons, List.map_nil, hs, hx, hr']
  exact h
theorem drewN_set (W : World) (q : Nat) (p : Addr) (v : Value) : (W.drewN q).setCell p v = (W.setCell p v).drewN q := by
  first
    | rfl
    | (unfold World.setCell World.drewN; simp only []; split <;> rfl)
theorem one_split {ls : List Ly} {k : Nat} {x : Ly} (hx : ls[k]? = some x) : ls = ls.take k ++ x :: ls.drop (k + 1) := by
  obtain ⟨h1, e1⟩ := List.getElem?_eq_some_iff.1 hx
  have d1 : ls.drop k = x :: ls.drop (k + 1) := by rw [← e1]; exact List.drop_eq_getElem_cons h1
  rw [← d1, List.take_append_drop]
theorem split_sum (f : Ly → Int) {ls : List Ly} {k : Nat} {x l u : Ly} (hx : ls[k]? = some x) (hf : f l + f u = f x) : sumF f (ls.take k ++ ([l, u] ++ ls.drop (k + 1))) = sumF f ls := by
  have e := congrArg (sumF f) (one_split hx)
  rw [sumF_append, sumF_cons] at e
  rw [e, sumF_append, sumF_append, sumF_cons, sumF_cons, sumF_nil]
  omega
theorem Lys.one_b {w : World} {B : Nat} {f i v d t h a : Int} (h0 : w.heap[B]? = some (.cells (lyArr f i v d t h a) 44 (0, 0))) (hb : Lb f i v d t h a) : Lys w (some ⟨B, 0, none⟩) 1 [⟨f, i, v, d, t, h, a⟩] := by
  refine Lys.one ?_ hb
  have c := fun n => Go.Joins.cell_of_block h0 n
  have c0 := c 0
  have c1 := c 1
  have c2 := c 2
  have c3 := c 3
  have c4 := c 4
  have c5 := c 5
  have c6 := c 6
  simp only [List.getElem?_toArray, List.getElem?_cons_zero, List.getElem?_cons_succ] at c0 c1 c2 c3 c4 c5 c6
  exact ⟨c0, c1, c2, c3, c4, c5, c6⟩
theorem Lys.two_b {w : World} {B : Nat} {f i v d t h a f' i' v' d' t' h' a' : Int} (h0 : w.heap[B]? = some (.cells #[.int .i64 f, .int .i64 i, .int .i64 v, .int .i64 d, .int .i64 t, .int .i64 h, .int .i64 a, .int .i64 f', .int .i64 i', .int .i64 v', .int .i64 d', .int .i64 t', .int .i64 h', .int .i64 a'] 44 (0, 0))) (hb : Lb f i v d t h a) (hb' : Lb f' i' v' d' t' h' a') :
    Lys w (some ⟨B, 0, none⟩) 2 [⟨f, i, v, d, t, h, a⟩, ⟨f', i', v', d', t', h', a'⟩] := by
  refine ⟨rfl, by omega, fun x hx => by simp at hx; rcases hx with rfl | rfl <;> first | exact ly_ok hb | exact ly_ok hb', fun _ => ⟨B, 0, rfl, fun k x hk => ?_⟩⟩
  have hlt := (List.getElem?_eq_some_iff.1 hk).1
  have c := fun n => Go.Joins.cell_of_block h0 n
  rcases k with _ | _ | k
  · simp at hk
    subst hk
    have c0 := c 0
    have c1 := c 1
    have c2 := c 2
    have c3 := c 3
    have c4 := c 4
    have c5 := c 5
    have c6 := c 6
    simp only [List.getElem?_toArray, List.getElem?_cons_zero, List.getElem?_cons_succ] at c0 c1 c2 c3 c4 c5 c6
    exact ⟨c0, c1, c2, c3, c4, c5, c6⟩
  · simp at hk
    subst hk
    have c0 := c 7
    have c1 := c 8
    have c2 := c 9
    have c3 := c 10
    have c4 := c 11
    have c5 := c 12
    have c6 := c 13
    simp only [List.getElem?_toArray, List.getElem?_cons_zero, List.getElem?_cons_succ] at c0 c1 c2 c3 c4 c5 c6
    exact ⟨c0, c1, c2, c3, c4, c5, c6⟩
  · simp at hlt
    omega
/-- Three parts in a list of their own: the middle one was made before it. -/
theorem parts3 {wv W0 : World} (hb : Below wv.heap.size wv W0) {a1 a3 : Addr} {n1 c1 n3 c3 m : Nat} {l1 l3 mid : List Ly} (cs : Array Value) (T2 : TypeId)
    (H1 : Lys wv (some a1) n1 l1) (hm : ∀ W : World, W.heap[W0.heap.size]? = some (.cells cs 44 (0, 0)) → Lys W (some ⟨W0.heap.size, 0, none⟩) m mid) (H3 : Lys wv (some a3) n3 l3) :
    PartsL ((W0.alloc (.cells cs 44)).alloc (.cells #[.slice (some a1) n1 c1, .slice (some ⟨W0.heap.size, 0, none⟩) m m, .slice (some a3) n3 c3] T2)) (W0.heap.size + 1) [⟨a1, n1, c1, l1⟩, ⟨⟨W0.heap.size, 0, none⟩, m, m, mid⟩, ⟨a3, n3, c3, l3⟩] := by
  have hz : (W0.alloc (.cells cs 44)).heap.size = W0.heap.size + 1 := by simp
  obtain ⟨O2, hO2⟩ : ∃ O2 : Obj, O2 = .cells #[.slice (some a1) n1 c1, .slice (some ⟨W0.heap.size, 0, none⟩) m m, .slice (some a3) n3 c3] T2 := ⟨_, rfl⟩
  have hbA : Below wv.heap.size wv ((W0.alloc (.cells cs 44)).alloc O2) := (hb.alloc hb.size _).alloc (hb.alloc hb.size _).size _
  have hblk := (Below.heap_alloc (W0.alloc (.cells cs 44)) O2 W0.heap.size (by rw [hz]; omega)).trans (blk_alloc_new W0 (.cells cs 44))
  have hnew := blk_alloc_new (W0.alloc (.cells cs 44)) O2
  rw [hz] at hnew
  rw [← hO2]
  generalize (W0.alloc (.cells cs 44)).alloc O2 = WW at hbA hblk hnew ⊢
  subst hO2
  have hcell := fun n => Go.Joins.cell_of_block hnew n
  intro j p hp
  rcases j with _ | _ | _ | j
  · simp at hp
    subst hp
    exact ⟨by have := hcell 0; simpa [LPart.val] using this, H1.below hbA⟩
  · simp at hp
    subst hp
    exact ⟨by have := hcell 1; simpa [LPart.val] using this, hm _ hblk⟩
  · simp at hp
    subst hp
    exact ⟨by have := hcell 2; simpa [LPart.val] using this, H3.below hbA⟩
  · simp at hp
theorem below3 {w we W0 w5 : World} (hbe : Below w.heap.size w we) (hb0 : Below we.heap.size we W0) {O1 O2 : Obj} (hb5 : Below ((W0.alloc O1).alloc O2).heap.size ((W0.alloc O1).alloc O2) w5) : Below w.heap.size w w5 := by
  have h1 := hbe.trans (hb0.mono hbe.size)
  have h2 := (h1.alloc h1.size O1).alloc (h1.alloc h1.size O1).size O2
  exact h2.trans (hb5.mono h2.size)
theorem one_call {wd w w' : World} {x : Nat} {f i v d g h a : Int} (H : (w.cell? ⟨x, 0, none⟩ = some (.int .i64 f) ∧ w.cell? ⟨x, 1, none⟩ = some (.int .i64 i) ∧ w.cell? ⟨x, 2, none⟩ = some (.int .i64 v) ∧ w.cell? ⟨x, 3, none⟩ = some (.int .i64 d) ∧ w.cell? ⟨x, 4, none⟩ = some (.int .i64 g) ∧ w.cell? ⟨x, 5, none⟩ = some (.int .i64 h) ∧ w.cell? ⟨x, 6, none⟩ = some (.int .i64 a)) ∧ Below wd.heap.size wd w) (hbw : Below w.heap.size w w') : (w'.cell? ⟨x, 0, none⟩ = some (.int .i64 f) ∧ w'.cell? ⟨x, 1, none⟩ = some (.int .i64 i) ∧ w'.cell? ⟨x, 2, none⟩ = some (.int .i64 v) ∧ w'.cell? ⟨x, 3, none⟩ = some (.int .i64 d) ∧ w'.cell? ⟨x, 4, none⟩ = some (.int .i64 g) ∧ w'.cell? ⟨x, 5, none⟩ = some (.int .i64 h) ∧ w'.cell? ⟨x, 6, none⟩ = some (.int .i64 a)) ∧ Below wd.heap.size wd w' := by
  obtain ⟨⟨c0, c1, c2, c3, c4, c5, c6⟩, hb⟩ := H
  exact ⟨⟨cell_kept hbw c0, cell_kept hbw c1, cell_kept hbw c2, cell_kept hbw c3, cell_kept hbw c4, cell_kept hbw c5, cell_kept hbw c6⟩, hb.trans (hbw.mono hb.size)⟩
theorem one_drew {wd w : World} {x : Nat} {f i v d g h a : Int} (H : (w.cell? ⟨x, 0, none⟩ = some (.int .i64 f) ∧ w.cell? ⟨x, 1, none⟩ = some (.int .i64 i) ∧ w.cell? ⟨x, 2, none⟩ = some (.int .i64 v) ∧ w.cell? ⟨x, 3, none⟩ = some (.int .i64 d) ∧ w.cell? ⟨x, 4, none⟩ = some (.int .i64 g) ∧ w.cell? ⟨x, 5, none⟩ = some (.int .i64 h) ∧ w.cell? ⟨x, 6, none⟩ = some (.int .i64 a)) ∧ Below wd.heap.size wd w) : (w.drew.cell? ⟨x, 0, none⟩ = some (.int .i64 f) ∧ w.drew.cell? ⟨x, 1, none⟩ = some (.int .i64 i) ∧ w.drew.cell? ⟨x, 2, none⟩ = some (.int .i64 v) ∧ w.drew.cell? ⟨x, 3, none⟩ = some (.int .i64 d) ∧ w.drew.cell? ⟨x, 4, none⟩ = some (.int .i64 g) ∧ w.drew.cell? ⟨x, 5, none⟩ = some (.int .i64 h) ∧ w.drew.cell? ⟨x, 6, none⟩ = some (.int .i64 a)) ∧ Below wd.heap.size wd w.drew := by
  obtain ⟨⟨c0, c1, c2, c3, c4, c5, c6⟩, hb⟩ := H
  exact ⟨⟨c0, c1, c2, c3, c4, c5, c6⟩, hb.drew⟩
theorem parts_tot {a1 a2 a3 : Addr} {n1 n2 n3 c1 c2 c3 : Nat} {l1 l2 l3 : List Ly} : totP [⟨a1, n1, c1, l1⟩, ⟨a2, n2, c2, l2⟩, ⟨a3, n3, c3, l3⟩] = n1 + (n2 + n3) := by simp [totP]
theorem parts_flat {a1 a2 a3 : Addr} {n1 n2 n3 c1 c2 c3 : Nat} {l1 l2 l3 : List Ly} : flatP [⟨a1, n1, c1, l1⟩, ⟨a2, n2, c2, l2⟩, ⟨a3, n3, c3, l3⟩] = l1 ++ (l2 ++ l3) := by simp [flatP]
theorem at_mid {l1 r : List Ly} {x : Ly} {k : Nat} (h : l1.length = k) : (l1 ++ (x :: r))[k]? = some x := by subst h; simp
/-- What joining two layers hands back. -/
def JoinR (ls : List Ly) (w : World) (e : Ending) (w' : World) : Prop :=
  ((∃ q : Int, (q = 2 ∨ q = 6 ∨ q = 5) ∧ e = .returned (.tuple #[.slice none 0 0, .int .i64 q])) ∨
   (∃ A' n' c' ls', e = .returned (.tuple #[.slice A' n' c', .int .i64 0]) ∧ Lys w' A' n' ls' ∧ n' + 1 = ls.length ∧ sumF Ly.ice ls' = sumF Ly.ice ls ∧ sumF Ly.water ls' = sumF Ly.water ls)) ∧ Below w.heap.size w w'
theorem JoinR.form {ls : List Ly} {w w' : World} {e : Ending} (h : JoinR ls w e w') : ∃ A' n' c', ∃ q : Int, e = .returned (.tuple #[.slice A' n' c', .int .i64 q]) ∧
    ((q = 2 ∨ q = 6 ∨ q = 5) ∨ (q = 0 ∧ ∃ ls', Lys w' A' n' ls' ∧ n' + 1 = ls.length ∧ sumF Ly.ice ls' = sumF Ly.ice ls ∧ sumF Ly.water ls' = sumF Ly.water ls)) ∧ Below w.heap.size w w' := by
  obtain ⟨⟨q, hq, rfl⟩ | ⟨A', n', c', ls', rfl, h1, h2, h3, h4⟩, hb⟩ := h
  · exact ⟨none, 0, 0, q, rfl, .inl hq, hb⟩
  · exact ⟨A', n', c', 0, rfl, .inr ⟨rfl, ls', h1, h2, h3, h4⟩, hb⟩

end Go.Proofs.YtknppcgoooaaaaaGreatDoor
