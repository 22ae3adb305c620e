/-
  A drawn region of a head that reads old memory and calls functions that may make memory, and a tail whose operations come one after another (an append): one walk in the order of the text serves every order; the tail is walked in whatever world of the class the head has left.
-/
import Derived.Test.YtknppcgoooaaaaaGreatDoorQuietB
import Derived.StillTail
namespace Go.Proofs.YtknppcgoooaaaaaGreatDoor
open Go.RowKit
set_option linter.unusedVariables false

section
variable {P : Program} {md : Region.Mode} {ops : Array Oper} {C : World → Prop}
/-- The head in whatever order, L behind it. -/
def headQ (P : Program) (md : Region.Mode) (ops : Array Oper) (C : World → Prop) (n : Nat) (L : Array Bool → Act → Prop) : Nat → Array Bool → Act → Prop
  | 0, s, a => L s a
  | f + 1, s, a => Region.ready md ops s ≠ [] ∧ ∀ i ∈ Region.ready md ops s, i < n ∧ qOp P ops C i (headQ P md ops C n L f (s.setIfInBounds i true)) a
theorem any_of_headQ {n g : Nat} {L : Array Bool → Act → Prop} {R : Exit → Act → World → Prop} (hL : ∀ s a w, C w → L s a → wpAny P md ops R g s a w) (f : Nat) :
    ∀ (s : Array Bool) (a : Act) (w : World), C w → headQ P md ops C n L f s a → wpAny P md ops R (f + g) s a w := by
  induction f with
  | zero => intro s a w hw h; rw [Nat.zero_add]; exact hL _ _ _ hw h
  | succ f ih =>
    intro s a w hw h
    rw [show f + 1 + g = (f + g) + 1 by omega]
    exact ⟨fun h0 => absurd h0 h.1, fun i hi => wpOp_of_qOp hw (fun a' w' hw' => ih _ a' w' hw') (h.2 i hi).2⟩
/-- Every operation of the head from the m-th on is waited for up to the n-th. -/
def sinkM (md : Region.Mode) (ops : Array Oper) (m n : Nat) : Bool :=
  (List.range n).all fun i => decide (i < m) || (List.range (n + 1)).any fun j => decide (i < j) && Region.waitsFor md ops j i
theorem head_lt {m n : Nat} {s : Array Bool} (hs : sinkM md ops m n = true) (hc : Region.chainB md ops n = true) (hn : n < ops.size) (inv : HeadInv md ops n s) (hm : ∀ k, k < m → s.getD k false = true) :
    ∀ (d i j : Nat), n - i = d → i < n → s.getD i true = false → j ∈ Region.ready md ops s → j < n := by
  intro d
  induction d using Nat.strongRecOn with
  | ind d ih =>
    intro i j hd hi hu hj
    refine Nat.lt_of_not_le fun hle => ?_
    obtain ⟨_, oj, hoj, hall⟩ := mem_ready.1 hj
    have hjs : j < ops.size := (Array.getElem?_eq_some_iff.1 hoj).1
    rcases Nat.eq_or_lt_of_le hle with e | e
    · subst e
      have h1 := List.all_eq_true.1 hs i (List.mem_range.2 hi)
      rw [Bool.or_eq_true] at h1
      rcases h1 with h1 | h1
      · have h2 := hm i (of_decide_eq_true h1)
        rw [getD_both hu] at h2
        cases h2
      · obtain ⟨k, hk, h2⟩ := List.any_eq_true.1 h1
        simp only [Bool.and_eq_true, decide_eq_true_eq] at h2
        obtain ⟨ok, hok, x, hx, hb, hon⟩ := Region.waitsFor_spec h2.2
        have hkn : k ≤ n := by have := List.mem_range.1 hk; omega
        rcases Nat.eq_or_lt_of_le hkn with q | q
        · subst q
          obtain rfl : ok = oj := Option.some.inj (hok.symm.trans hoj)
          have h3 := hall x hx hb
          rw [hon, getD_both hu] at h3
          cases h3
        · cases hl : s.getD k false with
          | true =>
            have h3 := inv.closed k ok hok hl x hx hb
            rw [hon, getD_both hu] at h3
            cases h3
          | false => exact absurd (ih (n - k) (by omega) k n rfl q (getD_in (by rw [inv.size]; omega) hl) hj) (Nat.lt_irrefl _)
    · have h1 := List.all_eq_true.1 hc j (List.mem_range.2 hjs)
      simp only [Bool.or_eq_true, decide_eq_true_eq] at h1
      rcases h1 with h1 | h1
      · omega
      · obtain ⟨o', ho', x, hx, hb, hon⟩ := Region.waitsFor_spec h1
        obtain rfl : o' = oj := Option.some.inj (ho'.symm.trans hoj)
        have h2 := hall x hx hb
        rw [hon, getD_both (inv.tail (j - 1) (by omega) (by omega))] at h2
        cases h2
theorem headQ_first {m n i : Nat} {oi : Oper} {v : Value} {L : Array Bool → Act → Prop} (hi : ops[i]? = some oi) (hsel : Region.noSelect ops = true)
    (hs : sinkM md ops m n = true) (hc : Region.chainB md ops n = true) (hn : n < ops.size) (hin : i < n) (hdone : ∀ s a, L s a → ∀ j ∈ Region.ready md ops s, n ≤ j) (f : Nat) :
    ∀ (s : Array Bool) (a : Act), HeadInv md ops n s → (∀ k, k < m → s.getD k false = true) →
      (∀ j oj, ops[j]? = some oj → j ≠ i → s.getD j true = false → (∀ e ∈ oj.after, Region.binds md e = true → e.on ≠ i) → oi.apart ops oj = true) →
      i ∈ Region.ready md ops s → YieldsIn P ops C oi v a → headQ P md ops C n L f (s.setIfInBounds i true) (a.put oi.dst v) → headQ P md ops C n L (f + 1) s a := by
  have sel := Region.noSelect_spec hsel
  induction f with
  | zero =>
    intro s a inv hmm _ hr hy H
    refine ⟨fun h => (by rw [h] at hr; cases hr), fun j hj => ⟨head_lt hs hc hn inv hmm _ i j rfl hin (mem_ready.1 hr).1 hj, ?_⟩⟩
    by_cases e : j = i
    · subst e; exact hy.qOp hi H
    · have h1 := hdone _ _ H j (ready_mono hj e)
      have h2 := head_lt hs hc hn inv hmm _ i j rfl hin (mem_ready.1 hr).1 hj
      omega
  | succ f ih =>
    intro s a inv hmm free hr hy H
    have hu := (mem_ready.1 hr).1
    refine ⟨fun h => (by rw [h] at hr; cases hr), fun j hj => ?_⟩
    have hjn := head_lt hs hc hn inv hmm _ i j rfl hin hu hj
    refine ⟨hjn, ?_⟩
    by_cases e : j = i
    · subst e; exact hy.qOp hi H
    · obtain ⟨hju, oj, hoj, hall⟩ := mem_ready.1 hj
      have no : ∀ x ∈ oj.after, Region.binds md x = true → x.on ≠ i := fun x hx hb q => by
        have h1 := hall x hx hb
        rw [q, getD_both hu] at h1
        cases h1
      refine qOp_mono (fun a' h3 => ih (s.setIfInBounds j true) a' (inv.set hj hjn) (fun k hk => getD_set_true (hmm k hk)) (fun k ok hk hki hun => ?_) (ready_mono hr (Ne.symm e)) h3.1 (by rw [Array.setIfInBounds_comm _ _ e]; exact h3.2))
        (qOp_put hoj (free j oj hoj e hju no) (fun cs b => sel i oi cs b hi) (fun cs b => sel j oj cs b hoj) hy (H.2 j (ready_mono hj e)).2)
      refine free k ok hk hki ?_
      by_cases q : j = k
      · subst q; exact hju
      · rwa [getD_set_ne true q] at hun
theorem headQ_lex {m n g : Nat} {R : Act → Prop} (hsel : Region.noSelect ops = true) (hs : sinkM md ops m n = true) (hc : Region.chainB md ops n = true) (hn : n < ops.size) (l : List Oper) :
    ∀ (k : Nat) (s : Array Bool) (a : Act), (∀ j, j < l.length → l[j]? = ops[k + j]?) → k + l.length = n → HeadInv md ops n s → (∀ k, k < m → s.getD k false = true) → Region.lexHead md ops g l.length k s = true → wpQuiet P ops C R l a →
      headQ P md ops C n (fun s' a' => Region.seqB md ops g n s' = true ∧ R a') l.length s a := by
  induction l with
  | nil =>
    intro k s a _ hk _ _ hB h
    obtain rfl : k = n := by simpa using hk
    exact ⟨by simpa [Region.lexHead] using hB, h⟩
  | cons o l ih =>
    intro k s a hl hk inv hmm hB h
    have h0 : ops[k]? = some o := by simpa using (hl 0 (by simp)).symm
    simp only [List.length_cons, Region.lexHead, Bool.and_eq_true] at hB hk
    obtain ⟨⟨hr, hf⟩, hB'⟩ := hB
    have hr' : k ∈ Region.ready md ops s := by simpa using hr
    obtain ⟨v, hy, hK⟩ := yieldsIn_of_qOp (K := wpQuiet P ops C R l) h0 (by unfold qOp; simp only [h0]; exact h)
    exact headQ_first h0 hsel hs hc hn (by omega) (fun s' a' hL => seqB_ready hL.1) l.length s a inv hmm (Region.free_spec h0 hf) hr' hy
      (ih (k + 1) _ _ (fun j hj => by have := hl (j + 1) (by simp; omega); simpa [Nat.add_assoc, Nat.add_comm 1 j] using this) (by omega) (inv.set hr' (by omega)) (fun k hk => getD_set_true (hmm k hk)) hB' hK)
end
def lexMoveB (md : Region.Mode) (ops : Array Oper) (n : Nat) : Bool :=
  Region.noSelect ops && (decide (1 ≤ n) && (decide (n < ops.size) && (sinkM md ops 1 n && (Region.chainB md ops n && ((Region.ready md ops (Array.replicate ops.size false)).contains 0 && (Region.free md ops (Array.replicate ops.size false) 0 &&
    Region.lexHead md ops (ops.size - n) (n - 1) 1 ((Array.replicate ops.size false).setIfInBounds 0 true)))))))
/-- A region whose first operation is a move (of the slice that is appended to), then a head that reads old memory and calls, then a tail one by one. -/
theorem region_moveB {P : Program} {id : Nat} {Q : Exit → Act → World → Prop} {a : Act} {w : World} {o : Oper} {l : List Oper} (v : Value) (wr : World) (n : Nat) (hb : Below wr.heap.size wr w) (hm : P.follows .mixedOrders = true) (hB : lexMoveB .any (o :: l).toArray n = true)
    (hQ : ∀ c a w, Q (.panic c) (a.put o.dst v) w → Q (.panic c) a w) (hy : Yields P (o :: l).toArray o v a)
    (h : wpQuiet P (o :: l).toArray (fun w' => ∃ x : BW wr, w' = x.W) (fun a' => ∀ w', (∃ x : BW wr, w' = x.W) → wpList P (o :: l).toArray Q ((o :: l).drop n) a' w') (l.take (n - 1)) (a.put o.dst v)) : (Code.region id (o :: l).toArray true).wp P Q a w := by
  simp only [lexMoveB, Bool.and_eq_true, decide_eq_true_eq] at hB
  obtain ⟨hsel, hn1, hn, hs, hc, hr0, hf0, hlex⟩ := hB
  obtain ⟨N, hN⟩ : ∃ N, N = (o :: l).toArray := ⟨_, rfl⟩
  have hsz : N.size = l.length + 1 := by rw [hN]; simp
  rw [← hN] at hsel hn hs hc hr0 hf0 hlex hy h ⊢
  have h0 : N[0]? = some o := by rw [hN]; simp
  have htl : (l.take (n - 1)).length = n - 1 := by simp; omega
  have hdl : ((o :: l).drop n).length = N.size - n := by rw [hsz]; simp
  have inv0 : HeadInv .any N n (Array.replicate N.size false) :=
    ⟨by simp, fun j oj _ hl => (by rw [getD_replicate_false] at hl; cases hl), fun t _ ht => getD_in (by simpa using ht) (getD_replicate_false _ _)⟩
  have hr : 0 ∈ Region.ready .any N (Array.replicate N.size false) := by simpa using hr0
  have H := headQ_lex (md := .any) (g := N.size - n) hsel hs hc hn (l.take (n - 1)) 1 _ (a.put o.dst v) (fun j hj => by
    rw [htl] at hj; rw [hN]; simp [hj, Nat.add_comm 1 j]) (by rw [htl]; omega) (inv0.set hr (by omega)) (fun k hk => by
      have hk0 : k = 0 := by omega
      subst hk0
      simp [hsz]) (by rw [htl]; exact hlex) h
  have H2 := any_of_headQ (R := Q) (g := N.size - n) (fun s a' w' hw hL => by
    have := wpAny_of_seq (md := .any) (Q' := Q) ((o :: l).drop n) n s a' w' (fun j => by rw [hN]; simp [List.getElem?_drop]) (by rw [hdl]; exact hL.1) (hL.2 w' hw)
    rwa [hdl] at this) _ _ _ _ ⟨⟨_, hb.drew⟩, rfl⟩ H
  rw [htl] at H2
  refine wp_region_any hm ?_
  have H3 := wpAny_take h0 hsel hf0 hr0 hQ hy H2
  rwa [show n - 1 + (N.size - n) + 1 = N.size by omega] at H3
end Go.Proofs.YtknppcgoooaaaaaGreatDoor
