/-
  The parts of cells: the reference's list of them; PartsOf, IsConnected, both sides.
-/
import Derived.Test.YtknppcgoooaaaaaPartS
namespace Go.Proofs.Ytknppcgoooaaaaa
open Go.ChangeShapes Go.WideShapes Go.ChangeAt Go.RowKit Go.Deep
set_option linter.unusedVariables false

theorem foldP {nr : Int → List Int} {xs : List Int} (l : List Int) : ∀ s : List (List Int) × List Int, (∀ c ∈ l, c ∈ xs) → (∀ r ∈ s.1, ∃ f ∈ xs, r = spread nr xs f) →
    (l.foldl (partOne nr xs) s).1.length ≤ s.1.length + l.length ∧ ∀ r ∈ (l.foldl (partOne nr xs) s).1, ∃ f ∈ xs, r = spread nr xs f := by
  induction l with
  | nil => intro s _ h; exact ⟨by simp, h⟩
  | cons c t ih =>
    intro s hl h
    have := ih (partOne nr xs s c) (fun d hd => hl d (by simp [hd])) (by
      unfold partOne
      split
      · exact h
      · intro r hr
        rcases List.mem_append.1 hr with hr | hr
        · exact h r hr
        · simp at hr
          exact ⟨c, hl c (by simp), hr⟩)
    refine ⟨Nat.le_trans this.1 ?_, this.2⟩
    have h2 : (partOne nr xs s c).1.length ≤ s.1.length + 1 := by
      unfold partOne
      split <;> simp
    simp only [List.length_cons]
    omega
theorem partsF_ok (nr : Int → List Int) (xs : List Int) : (partsF nr xs).length ≤ xs.length ∧ ∀ r ∈ partsF nr xs, ∃ f ∈ xs, r = spread nr xs f := by
  have := foldP (nr := nr) (xs := xs) xs ([], []) (fun c hc => hc) (by simp)
  simpa [partsF, partsTo] using this
theorem tot64 {rs : Rws} (h : ∀ r ∈ rs, r.length ≤ 64) (k : Nat) : totR rs k ≤ 64 * k := by
  induction k with
  | zero => simp [totR]
  | succ k ih =>
    by_cases hk : k < rs.length
    · have e : (rAt rs k).length ≤ 64 := by
        rw [rAt, List.getD_eq_getElem?_getD, List.getElem?_eq_getElem hk]
        exact h _ (List.getElem_mem hk)
      rw [totR_succ hk]
      omega
    · have : totR rs (k + 1) = totR rs k := by
        unfold totR
        rw [List.take_of_length_le (by omega), List.take_of_length_le (by omega)]
      omega
theorem cells_plain {R C S : Int} {hs xs : List Int} (h : cellsC R C S hs xs = 0) : (1 ≤ R ∧ R ≤ 8) ∧ (1 ≤ C ∧ C ≤ 8) ∧ R * C ≤ 64 ∧ (hs.length : Int) = R * C ∧ (∀ z ∈ xs, 0 ≤ z ∧ z < R * C) ∧ xs.length ≤ 64 := by
  obtain ⟨hv, hr⟩ := cellsC_ok h
  obtain ⟨⟨r1, r2⟩, ⟨c1, c2⟩, _, hn, _⟩ := gridOk_iff.1 hv
  have hm := mul64 r1 r2 c1 c2
  obtain ⟨hinc, hxall⟩ := rises_iff.1 hr
  have xbd : ∀ z ∈ xs, 0 ≤ z ∧ z < R * C := fun z hz => by
    obtain ⟨j, hj⟩ := List.mem_iff_getElem?.1 hz
    have := allB_iff.1 hxall j z hj
    omega
  have := pw_len (pw_inc hinc) xbd (by omega)
  exact ⟨⟨r1, r2⟩, ⟨c1, c2⟩, hm.2, hn, xbd, by omega⟩
theorem spread_bd {R C : Int} {xs : List Int} (hx : ∀ z ∈ xs, 0 ≤ z ∧ z < R * C) (h64 : R * C ≤ 64) {f : Int} (hf : f ∈ xs) : (spread (near R C) xs f).length ≤ 64 ∧ ∀ z ∈ spread (near R C) xs f, 0 ≤ z ∧ z < R * C := by
  obtain ⟨h1, h2⟩ := spread_ok (nr := near R C) hf
  have hb : ∀ z ∈ spread (near R C) xs f, 0 ≤ z ∧ z < R * C := fun z hz => hx z ((h2 z).1 hz).mem
  have := pw_len h1 hb (by have := hx f hf; omega)
  exact ⟨by omega, hb⟩
def partsR (K R C : Int) (xs : List Int) : Rws := if K = 0 then partsF (near R C) xs else []
theorem partsR_okr (R C S : Int) (hs xs : List Int) : (∀ r ∈ partsR (cellsC R C S hs xs) R C xs, ∀ x ∈ r, -9223372036854775808 ≤ x ∧ x ≤ 9223372036854775807) ∧ (partsR (cellsC R C S hs xs) R C xs).length ≤ 1048576 ∧ totR (partsR (cellsC R C S hs xs) R C xs) (partsR (cellsC R C S hs xs) R C xs).length ≤ 1048576 ∧ ∀ i, i < (partsR (cellsC R C S hs xs) R C xs).length → (rAt (partsR (cellsC R C S hs xs) R C xs) i).length ≤ 1000000000 := by
  unfold partsR
  split
  · rename_i h
    obtain ⟨_, _, h64, _, hx, hl⟩ := cells_plain h
    obtain ⟨h1, h2⟩ := partsF_ok (near R C) xs
    have hr : ∀ r ∈ partsF (near R C) xs, r.length ≤ 64 ∧ ∀ z ∈ r, 0 ≤ z ∧ z < R * C := fun r hr => by
      obtain ⟨f, hf, rfl⟩ := h2 r hr
      exact spread_bd hx h64 hf
    refine ⟨fun r hr' x hx' => by have := (hr r hr').2 x hx'; omega, by omega, by have := tot64 (fun r h => (hr r h).1) (partsF (near R C) xs).length; omega, fun i hi => ?_⟩
    rw [rAt, List.getD_eq_getElem?_getD, List.getElem?_eq_getElem hi]
    have := (hr _ (List.getElem_mem hi)).1
    simp only [Option.getD_some]
    omega
  · exact ⟨by simp, by simp, by simp [totR], fun i hi => absurd hi (by simp)⟩
theorem own_ne2 {w : World} {B B' e e' s s' n m : Nat} {v v' : Value} {xs ys : List Value} (h : w.ownsRow B e s v n xs) (h' : w.ownsRow B' e' s' v' m ys) (he : e ≠ e') : v.ownBlock = none ∨ v.ownBlock ≠ v'.ownBlock := by
  rcases h'.2 with ⟨hv, _⟩ | ⟨g, cap, cur, hv, _⟩
  · subst hv
    by_cases e : v.ownBlock = none
    · exact .inl e
    · exact .inr fun e2 => e e2
  · subst hv
    exact .inr (own_ne h h' he)
/-- Rows none of which lies in the block of the slice sv. -/
def RowsX (lo : Nat) (w : World) (o : Value) (j : Nat) (rs : Rws) (sv : Value) : Prop :=
  ∃ (cs : List Value) (f d : Nat → Nat), w.ownsRow lo 24 1 o j cs ∧ rs.length = j ∧
    ∀ i, i < j → cs[i]? = some (.slice (some ⟨f i, 0, none⟩) (rAt rs i).length (d i)) ∧ (∀ t, t < i → f t ≠ f i) ∧
      w.ownsRow lo 2 1 (.slice (some ⟨f i, 0, none⟩) (rAt rs i).length (d i)) (rAt rs i).length ((rAt rs i).map (.int .i64)) ∧ sv.ownBlock ≠ some (f i)
theorem RowsX.rows {lo : Nat} {w : World} {o sv : Value} {j : Nat} {rs : Rws} (h : RowsX lo w o j rs sv) : RowsB lo w o j rs := by
  obtain ⟨cs, f, d, h1, h2, h3⟩ := h
  exact ⟨cs, f, d, h1, h2, fun i hi => ⟨(h3 i hi).1, (h3 i hi).2.1, (h3 i hi).2.2.1⟩⟩
theorem RowsX.drewN {lo : Nat} {w : World} {o sv : Value} {j : Nat} {rs : Rws} (h : RowsX lo w o j rs sv) (k : Nat) : RowsX lo (w.drewN k) o j rs sv := h
theorem RowsX.step {lo : Nat} {w w1 w2 w3 : World} {o v' sv : Value} {j q c ns g cg ch : Nat} {rs : Rws} {r : List Int} {ss : List Value} {cs : List Value} {f d : Nat → Nat} (h1 : w.ownsRow lo 24 1 o j cs) (hl : rs.length = j)
    (h3 : ∀ i, i < j → cs[i]? = some (.slice (some ⟨f i, 0, none⟩) (rAt rs i).length (d i)) ∧ (∀ t, t < i → f t ≠ f i) ∧ w.ownsRow lo 2 1 (.slice (some ⟨f i, 0, none⟩) (rAt rs i).length (d i)) (rAt rs i).length ((rAt rs i).map (.int .i64)) ∧ sv.ownBlock ≠ some (f i))
    (hb : Below w.heap.size w w1) (hq : w.heap.size ≤ q) (hr : w1.ownsRow lo 2 1 (.slice (some ⟨q, 0, none⟩) r.length c) r.length (r.map (.int .i64)))
    (ho : w2.ownsRow lo 24 1 v' (j + 1) (cs ++ [.slice (some ⟨q, 0, none⟩) r.length c])) (hg : w1.grownBy w2 o.ownBlock)
    (hs : w.ownsRow lo 2 1 sv ns ss) (hg2 : w2.grownBy w3 sv.ownBlock) (hgg : sv.ownBlock = some g ∨ g = w2.heap.size) : RowsX lo w3 v' (j + 1) (rs ++ [r]) (.slice (some ⟨g, 0, none⟩) cg ch) := by
  have hcl : cs.length = j := by have := h1.1; simpa using this
  have hs2 : w2.ownsRow lo 2 1 sv ns ss := (own_below hs hb).kept hg (own_ne2 (own_below hs hb) (own_below h1 hb) (by decide))
  have hsq : sv.ownBlock ≠ some q := fun e => by have := (hs.lt q e).2; omega
  have hrow : ∀ {x n : Nat} {dd : Nat} {ys : List Value}, w1.ownsRow lo 2 1 (.slice (some ⟨x, 0, none⟩) n dd) n ys → sv.ownBlock ≠ some x →
      w3.ownsRow lo 2 1 (.slice (some ⟨x, 0, none⟩) n dd) n ys ∧ (Value.slice (some ⟨g, 0, none⟩) cg ch).ownBlock ≠ some x := fun {x n dd ys} hx hne => by
    have k2 := hx.kept hg (.inr (own_ne (own_below h1 hb) hx (by decide)).symm)
    refine ⟨k2.kept hg2 (.inr fun e => hne e.symm), fun e => ?_⟩
    simp only [Value.ownBlock, Option.some.injEq] at e
    rcases hgg with h | h
    · exact hne (by rw [h, e])
    · have := own_lt k2
      omega
  refine ⟨_, fun i => if i = j then q else f i, fun i => if i = j then c else d i, ho.kept hg2 (own_ne2 ho hs2 (by decide)), by simp [hl], fun i hi => ?_⟩
  by_cases e : i = j
  · subst e
    simp only [if_true]
    have er : rAt (rs ++ [r]) i = r := by rw [← hl]; exact rAt_last
    rw [er]
    obtain ⟨k1, k2⟩ := hrow hr hsq
    refine ⟨by rw [List.getElem?_append_right (by omega), hcl]; simp, fun t ht => ?_, k1, k2⟩
    rw [if_neg (by omega)]
    have := own_lt (h3 t ht).2.2.1
    omega
  · have hij : i < j := by omega
    obtain ⟨b1, b2, b3, b4⟩ := h3 i hij
    simp only [if_neg e]
    rw [rAt_lt (by omega)]
    obtain ⟨k1, k2⟩ := hrow (own_below b3 hb) b4
    refine ⟨by rw [List.getElem?_append_left (by omega)]; exact b1, fun t ht => ?_, k1, k2⟩
    rw [if_neg (by omega)]
    exact b2 t ht
end Go.Proofs.Ytknppcgoooaaaaa
