/-
  Connected parts of cells: the reference's spread and the program's search reach the same cells. No program in sight.
-/
import Derived.Test.YtknppcgoooaaaaaGridJ
namespace Go.Proofs.Ytknppcgoooaaaaa
open Go.RowKit
set_option linter.unusedVariables false

/-- A cell that is reached from the first among cells. -/
inductive Conn (nr : Int → List Int) (xs : List Int) (f : Int) : Int → Prop
  | base : f ∈ xs → Conn nr xs f f
  | step {y z : Int} : Conn nr xs f y → z ∈ xs → y ∈ nr z → Conn nr xs f z
theorem Conn.mem {nr : Int → List Int} {xs : List Int} {f z : Int} (h : Conn nr xs f z) : z ∈ xs := by
  cases h with
  | base h => exact h
  | step _ h _ => exact h
theorem Conn.first {nr : Int → List Int} {xs : List Int} {f z : Int} (h : Conn nr xs f z) : f ∈ xs := by
  induction h with
  | base h => exact h
  | step _ _ _ ih => exact ih

/-! ### The reference's spread -/
def hitB (nr : Int → List Int) (o : List Int) (c : Int) : Bool := (nr c).any (hasB o)
theorem hitB_iff {nr : Int → List Int} {o : List Int} {c : Int} : hitB nr o c = true ↔ ∃ z ∈ nr c, z ∈ o := by
  simp [hitB, List.any_eq_true, hasB_iff]
def sprOne (nr : Int → List Int) (o : List Int) (c : Int) : List Int := if hasB o c = true then o else if hitB nr o c = true then putL o c else o
def sprTo (nr : Int → List Int) (l o : List Int) : List Int := l.foldl (sprOne nr) o
def sprN (nr : Int → List Int) (xs : List Int) : Nat → List Int → List Int
  | 0, o => o
  | r + 1, o => sprTo nr xs (sprN nr xs r o)
theorem sprTo_snoc {nr : Int → List Int} {l o : List Int} {j : Nat} {c : Int} (h : l[j]? = some c) : sprTo nr (l.take (j + 1)) o = sprOne nr (sprTo nr (l.take j) o) c := by
  unfold sprTo
  rw [List.take_add_one, h, List.foldl_append]
  rfl
theorem sprOne_mem {nr : Int → List Int} {o : List Int} {c z : Int} (h : z ∈ o) : z ∈ sprOne nr o c := by
  unfold sprOne
  split
  · exact h
  · split
    · exact mem_putL.2 (.inr h)
    · exact h
theorem sprTo_mem {nr : Int → List Int} {l o : List Int} {z : Int} (h : z ∈ o) : z ∈ sprTo nr l o := by
  unfold sprTo
  induction l generalizing o with
  | nil => exact h
  | cons c t ih => exact ih (sprOne_mem h)
theorem sprN_mem {nr : Int → List Int} {xs o : List Int} {z : Int} (r : Nat) (h : z ∈ o) : z ∈ sprN nr xs r o := by
  induction r with
  | zero => exact h
  | succ r ih => exact sprTo_mem ih
structure Good (nr : Int → List Int) (xs : List Int) (f : Int) (o : List Int) : Prop where
  pw : o.Pairwise (· < ·)
  conn : ∀ z ∈ o, Conn nr xs f z
theorem Good.one {nr : Int → List Int} {xs : List Int} {f c : Int} {o : List Int} (h : Good nr xs f o) (hc : c ∈ xs) : Good nr xs f (sprOne nr o c) := by
  unfold sprOne
  split
  · exact h
  · split
    · rename_i hh
      obtain ⟨y, hy, hyo⟩ := hitB_iff.1 hh
      refine ⟨pw_put h.pw, fun z hz => ?_⟩
      rcases mem_putL.1 hz with rfl | hz
      · exact .step (h.conn y hyo) hc hy
      · exact h.conn z hz
    · exact h
theorem Good.to {nr : Int → List Int} {xs : List Int} {f : Int} {o : List Int} (l : List Int) (h : Good nr xs f o) (hl : ∀ c ∈ l, c ∈ xs) : Good nr xs f (sprTo nr l o) := by
  unfold sprTo
  induction l generalizing o with
  | nil => exact h
  | cons c t ih => exact ih (h.one (hl c (by simp))) (fun d hd => hl d (by simp [hd]))
theorem Good.n {nr : Int → List Int} {xs : List Int} {f : Int} {o : List Int} (r : Nat) (h : Good nr xs f o) : Good nr xs f (sprN nr xs r o) := by
  induction r with
  | zero => exact h
  | succ r ih => exact ih.to xs fun c hc => hc
def cntB (xs o : List Int) : Nat := (xs.filter (hasB o)).length
theorem filter_mono {xs : List Int} {p q : Int → Bool} (h : ∀ z ∈ xs, p z = true → q z = true) : (xs.filter p).length ≤ (xs.filter q).length := by
  induction xs with
  | nil => simp
  | cons a t ih =>
    have iht := ih fun z hz => h z (by simp [hz])
    rw [List.filter_cons, List.filter_cons]
    by_cases hp : p a = true
    · rw [if_pos hp, if_pos (h a (by simp) hp)]
      simp only [List.length_cons]
      omega
    · rw [if_neg hp]
      split
      · simp only [List.length_cons]; omega
      · exact iht
theorem filter_more {xs : List Int} {p q : Int → Bool} {c : Int} (h : ∀ z ∈ xs, p z = true → q z = true) (hc : c ∈ xs) (hp : p c = false) (hq : q c = true) : (xs.filter p).length < (xs.filter q).length := by
  induction xs with
  | nil => simp at hc
  | cons a t ih =>
    have hm := filter_mono (xs := t) fun z hz => h z (by simp [hz])
    rw [List.filter_cons, List.filter_cons]
    rcases List.mem_cons.1 hc with rfl | hc
    · rw [if_neg (by simp [hp]), if_pos hq]
      simp only [List.length_cons]
      omega
    · have iht := ih (fun z hz => h z (by simp [hz])) hc
      by_cases hp2 : p a = true
      · rw [if_pos hp2, if_pos (h a (by simp) hp2)]
        simp only [List.length_cons]
        omega
      · rw [if_neg hp2]
        split
        · simp only [List.length_cons]; omega
        · exact iht
def Shut (nr : Int → List Int) (xs o : List Int) : Prop := ∀ c ∈ xs, hitB nr o c = true → c ∈ o
theorem sprOne_cnt {nr : Int → List Int} {xs o : List Int} {c : Int} (hc : c ∈ xs) : (sprOne nr o c = o ∧ (hitB nr o c = true → c ∈ o)) ∨ cntB xs o < cntB xs (sprOne nr o c) := by
  unfold sprOne
  cases h1 : hasB o c
  · cases h2 : hitB nr o c
    · left; simp
    · right
      simp only [Bool.false_eq_true, if_false, if_true]
      exact filter_more (fun z hz hp => hasB_iff.2 (mem_putL.2 (.inr (hasB_iff.1 hp)))) hc h1 (hasB_iff.2 (mem_putL.2 (.inl rfl)))
  · left
    exact ⟨by simp, fun _ => hasB_iff.1 h1⟩
theorem cntB_mono {xs o o' : List Int} (h : ∀ z ∈ o, z ∈ o') : cntB xs o ≤ cntB xs o' := filter_mono fun z _ hp => hasB_iff.2 (h z (hasB_iff.1 hp))
theorem sprTo_cnt {nr : Int → List Int} {xs : List Int} (l o : List Int) (hl : ∀ c ∈ l, c ∈ xs) : (sprTo nr l o = o ∧ ∀ c ∈ l, hitB nr o c = true → c ∈ o) ∨ cntB xs o < cntB xs (sprTo nr l o) := by
  induction l generalizing o with
  | nil => left; exact ⟨rfl, by simp⟩
  | cons c t ih =>
    have e : sprTo nr (c :: t) o = sprTo nr t (sprOne nr o c) := rfl
    rw [e]
    rcases sprOne_cnt (nr := nr) (o := o) (hl c (by simp)) with ⟨h1, h2⟩ | h1
    · rw [h1]
      rcases ih o (fun d hd => hl d (by simp [hd])) with ⟨h3, h4⟩ | h3
      · left
        refine ⟨h3, fun d hd => ?_⟩
        rcases List.mem_cons.1 hd with rfl | hd
        · exact h2
        · exact h4 d hd
      · exact .inr h3
    · right
      exact Nat.lt_of_lt_of_le h1 (cntB_mono fun z hz => sprTo_mem hz)
theorem sprN_cnt {nr : Int → List Int} {xs o : List Int} (r : Nat) : Shut nr xs (sprN nr xs r o) ∨ cntB xs o + r ≤ cntB xs (sprN nr xs r o) := by
  induction r with
  | zero => right; exact Nat.le_refl _
  | succ r ih =>
    have e : sprN nr xs (r + 1) o = sprTo nr xs (sprN nr xs r o) := rfl
    rw [e]
    rcases sprTo_cnt (nr := nr) xs (sprN nr xs r o) (fun c hc => hc) with ⟨h1, h2⟩ | h1
    · left
      rw [h1]
      exact h2
    · rcases ih with h2 | h2
      · left
        have h3 : sprTo nr xs (sprN nr xs r o) = sprN nr xs r o := by
          have : ∀ l : List Int, (∀ c ∈ l, c ∈ xs) → sprTo nr l (sprN nr xs r o) = sprN nr xs r o := by
            intro l
            induction l with
            | nil => intro _; rfl
            | cons c t ih2 =>
              intro hl
              have e2 : sprTo nr (c :: t) (sprN nr xs r o) = sprTo nr t (sprOne nr (sprN nr xs r o) c) := rfl
              have e3 : sprOne nr (sprN nr xs r o) c = sprN nr xs r o := by
                unfold sprOne
                split
                · rfl
                · rename_i hn
                  split
                  · rename_i hh
                    exact absurd (hasB_iff.2 (h2 c (hl c (by simp)) hh)) hn
                  · rfl
              rw [e2, e3]
              exact ih2 fun d hd => hl d (by simp [hd])
          exact this xs fun c hc => hc
        rw [h3]
        exact h2
      · right
        omega
def spread (nr : Int → List Int) (xs : List Int) (f : Int) : List Int := sprN nr xs xs.length [f]
theorem spread_ok {nr : Int → List Int} {xs : List Int} {f : Int} (hf : f ∈ xs) : (spread nr xs f).Pairwise (· < ·) ∧ ∀ z, z ∈ spread nr xs f ↔ Conn nr xs f z := by
  have hg : Good nr xs f (spread nr xs f) := Good.n xs.length ⟨by simp, fun z hz => by simp at hz; subst hz; exact .base hf⟩
  have hs : Shut nr xs (spread nr xs f) := by
    rcases sprN_cnt (nr := nr) (xs := xs) (o := [f]) xs.length with h | h
    · exact h
    · have h1 : cntB xs (sprN nr xs xs.length [f]) ≤ xs.length := List.length_filter_le _ _
      have h2 : 0 < cntB xs [f] := List.length_pos_of_mem (List.mem_filter.2 ⟨hf, hasB_iff.2 (by simp)⟩)
      omega
  refine ⟨hg.pw, fun z => ⟨hg.conn z, fun hz => ?_⟩⟩
  induction hz with
  | base _ => exact sprN_mem _ (by simp)
  | step hy hzx hyz ih => exact hs _ hzx (hitB_iff.2 ⟨_, hyz, ih⟩)

/-! ### The parts -/
def partOne (nr : Int → List Int) (xs : List Int) (s : List (List Int) × List Int) (c : Int) : List (List Int) × List Int :=
  if hasB s.2 c = true then s else (s.1 ++ [spread nr xs c], s.2 ++ spread nr xs c)
def partsTo (nr : Int → List Int) (xs l : List Int) : List (List Int) × List Int := l.foldl (partOne nr xs) ([], [])
theorem partsTo_snoc {nr : Int → List Int} {xs l : List Int} {j : Nat} {c : Int} (h : l[j]? = some c) : partsTo nr xs (l.take (j + 1)) = partOne nr xs (partsTo nr xs (l.take j)) c := by
  unfold partsTo
  rw [List.take_add_one, h, List.foldl_append]
  rfl
def partsF (nr : Int → List Int) (xs : List Int) : List (List Int) := (partsTo nr xs xs).1
/-- Cells seen so far: none of their neighbours is left out. -/
structure Seen (nr : Int → List Int) (xs s : List Int) : Prop where
  sub : ∀ z ∈ s, z ∈ xs
  shut : ∀ y ∈ s, ∀ z ∈ xs, y ∈ nr z → z ∈ s
def Sym (nr : Int → List Int) (xs : List Int) : Prop := ∀ y ∈ xs, ∀ z ∈ xs, y ∈ nr z → z ∈ nr y
theorem Seen.nil (nr : Int → List Int) (xs : List Int) : Seen nr xs [] := ⟨by simp, by simp⟩
theorem Seen.add {nr : Int → List Int} {xs s : List Int} {f : Int} (h : Seen nr xs s) (hf : f ∈ xs) : Seen nr xs (s ++ spread nr xs f) := by
  obtain ⟨_, hc⟩ := spread_ok (nr := nr) hf
  refine ⟨fun z hz => ?_, fun y hy z hz hyz => ?_⟩
  · rcases List.mem_append.1 hz with hz | hz
    · exact h.sub z hz
    · exact ((hc z).1 hz).mem
  · rcases List.mem_append.1 hy with hy | hy
    · exact List.mem_append.2 (.inl (h.shut y hy z hz hyz))
    · exact List.mem_append.2 (.inr ((hc z).2 (.step ((hc y).1 hy) hz hyz)))
theorem partsTo_seen {nr : Int → List Int} {xs : List Int} (l : List Int) (hl : ∀ c ∈ l, c ∈ xs) : Seen nr xs (partsTo nr xs l).2 := by
  have : ∀ (l : List Int) (s : List (List Int) × List Int), (∀ c ∈ l, c ∈ xs) → Seen nr xs s.2 → Seen nr xs (l.foldl (partOne nr xs) s).2 := by
    intro l
    induction l with
    | nil => intro s _ h; exact h
    | cons c t ih =>
      intro s hl h
      refine ih _ (fun d hd => hl d (by simp [hd])) ?_
      unfold partOne
      split
      · exact h
      · exact h.add (hl c (by simp))
  exact this l _ hl (Seen.nil nr xs)
/-- The program's search under way: the cells in part, of which the first k have been looked around. -/
structure Look (nr : Int → List Int) (xs s : List Int) (f : Int) (part : List Int) (k : Nat) : Prop where
  conn : ∀ z ∈ part, Conn nr xs f z
  own : f ∈ part
  apart : ∀ z ∈ part, z ∉ s
  nodup : part.Nodup
  le : k ≤ part.length
  len : part.length ≤ cntB xs part
  done : ∀ i y, i < k → part[i]? = some y → ∀ z ∈ xs, z ∈ nr y → z ∈ s ∨ z ∈ part
theorem Look.start {nr : Int → List Int} {xs s : List Int} {f : Int} (hf : f ∈ xs) (hs : f ∉ s) : Look nr xs s f [f] 0 :=
  ⟨fun z hz => by simp at hz; subst hz; exact .base hf, by simp, fun z hz => by simp at hz; subst hz; exact hs, by simp, by simp,
    List.length_pos_of_mem (List.mem_filter.2 ⟨hf, hasB_iff.2 (by simp)⟩), fun i y hi => absurd hi (by omega)⟩
theorem Look.bound {nr : Int → List Int} {xs s part : List Int} {f : Int} {k : Nat} (h : Look nr xs s f part k) : part.length ≤ xs.length :=
  Nat.le_trans h.len (List.length_filter_le _ _)
theorem Look.add {nr : Int → List Int} {xs s part : List Int} {f y z : Int} {k : Nat} (h : Look nr xs s f part k) (sym : Sym nr xs) (hy : y ∈ part) (hz : z ∈ xs) (hyz : z ∈ nr y) (hns : z ∉ s) (hnp : z ∉ part) : Look nr xs s f (part ++ [z]) k := by
  have hyx := (h.conn y hy).mem
  refine ⟨fun x hx => ?_, by simp [h.own], fun x hx => ?_, ?_, by have := h.le; simp; omega, ?_, fun i x hi hx u hu hux => ?_⟩
  · rcases List.mem_append.1 hx with hx | hx
    · exact h.conn x hx
    · simp at hx; subst hx; exact .step (h.conn y hy) hz (sym _ hz _ hyx hyz)
  · rcases List.mem_append.1 hx with hx | hx
    · exact h.apart x hx
    · simp at hx; subst hx; exact hns
  · rw [List.nodup_append]
    refine ⟨h.nodup, by simp, fun a ha b hb => ?_⟩
    simp at hb
    subst hb
    rintro rfl
    exact hnp ha
  · have h1 := h.len
    have h2 : cntB xs part < cntB xs (part ++ [z]) := filter_more (c := z) (fun x _ hp => hasB_iff.2 (by simp [hasB_iff.1 hp])) hz (by cases hb : hasB part z; rfl; exact absurd (hasB_iff.1 hb) hnp) (hasB_iff.2 (by simp))
    rw [List.length_append]
    simp only [List.length_cons, List.length_nil]
    omega
  · have hip : i < part.length := Nat.lt_of_lt_of_le hi h.le
    rw [List.getElem?_append_left hip] at hx
    rcases h.done i x hi hx u hu hux with h1 | h1
    · exact .inl h1
    · exact .inr (by simp [h1])
theorem Look.next {nr : Int → List Int} {xs s part : List Int} {f y : Int} {k : Nat} (h : Look nr xs s f part k) (hk : part[k]? = some y) (hd : ∀ z ∈ xs, z ∈ nr y → z ∈ s ∨ z ∈ part) : Look nr xs s f part (k + 1) := by
  have hlt := (List.getElem?_eq_some_iff.1 hk).1
  refine ⟨h.conn, h.own, h.apart, h.nodup, hlt, h.len, fun i x hi hx => ?_⟩
  by_cases e : i = k
  · subst e
    rw [hk] at hx
    injection hx with hx
    subst hx
    exact hd
  · exact h.done i x (by omega) hx
theorem Look.finish {nr : Int → List Int} {xs s part : List Int} {f : Int} (h : Look nr xs s f part part.length) (hs : Seen nr xs s) (sym : Sym nr xs) : ∀ z, z ∈ part ↔ z ∈ spread nr xs f := by
  intro z
  have hf : f ∈ xs := (h.conn f h.own).first
  rw [(spread_ok hf).2 z]
  refine ⟨h.conn z, fun hz => ?_⟩
  induction hz with
  | base _ => exact h.own
  | @step y z hy hzx hyz ih =>
    obtain ⟨i, hi⟩ := List.mem_iff_getElem?.1 ih
    have hilt := (List.getElem?_eq_some_iff.1 hi).1
    rcases h.done i y hilt hi z hzx (sym _ hy.mem _ hzx hyz |> fun h => h) with h1 | h1
    · exact absurd (hs.shut z h1 y hy.mem (sym _ hy.mem _ hzx hyz)) (h.apart y ih)
    · exact h1
end Go.Proofs.Ytknppcgoooaaaaa
