/-
  Plain facts of FnRelease: the parts of rising cells. No program in sight.
-/
import Derived.Test.YtknppcgoooaaaaaPartM
namespace Go.Proofs.Ytknppcgoooaaaaa
open Go.RowKit
set_option linter.unusedVariables false

/-- A part is shut among the cells. -/
theorem spread_shut {nr : Int → List Int} {xs : List Int} {f y z : Int} (hf : f ∈ xs) (sym : Sym nr xs) (hy : y ∈ spread nr xs f) (hz : z ∈ xs) (hyz : z ∈ nr y) : z ∈ spread nr xs f := by
  obtain ⟨_, hc⟩ := spread_ok (nr := nr) hf
  have h1 := (hc y).1 hy
  exact (hc z).2 (.step h1 hz (sym _ hz _ h1.mem hyz))
/-- What is reached from a cell of a part is the part. -/
theorem conn_trans {nr : Int → List Int} {xs : List Int} {f y z : Int} (h : Conn nr xs f y) (h2 : Conn nr xs y z) : Conn nr xs f z := by
  induction h2 with
  | base _ => exact h
  | step _ hz hyz ih => exact .step ih hz hyz
theorem conn_back {nr : Int → List Int} {xs : List Int} {f z : Int} (sym : Sym nr xs) (h : Conn nr xs f z) : Conn nr xs z f := by
  induction h with
  | base hf => exact .base hf
  | @step y z hy hz hyz ih =>
    have h1 : Conn nr xs z y := .step (.base hz) hy.mem (sym _ hy.mem _ hz hyz)
    exact conn_trans h1 ih
/-- A part, taken for itself, is reached whole from its first cell. -/
theorem conn_inside {nr : Int → List Int} {xs : List Int} {f z : Int} (hf : f ∈ xs) (h : Conn nr xs f z) : Conn nr (spread nr xs f) f z := by
  obtain ⟨_, hc⟩ := spread_ok (nr := nr) hf
  induction h with
  | base _ => exact .base ((hc f).2 (.base hf))
  | @step y z hy hz hyz ih => exact .step ih ((hc z).2 (.step hy hz hyz)) hyz
theorem spread_self {nr : Int → List Int} {xs : List Int} {f : Int} (hf : f ∈ xs) : spread nr (spread nr xs f) f = spread nr xs f := by
  obtain ⟨p1, hc⟩ := spread_ok (nr := nr) hf
  have hfs : f ∈ spread nr xs f := (hc f).2 (.base hf)
  obtain ⟨p2, hd⟩ := spread_ok (nr := nr) hfs
  have hm : ∀ z, z ∈ spread nr (spread nr xs f) f ↔ z ∈ spread nr xs f := fun z => ⟨fun h => ((hd z).1 h).mem, fun h => (hd z).2 (conn_inside hf ((hc z).1 h))⟩
  have n1 : (spread nr (spread nr xs f) f).Nodup := p2.imp (by intro a b h; omega)
  have n2 : (spread nr xs f).Nodup := p1.imp (by intro a b h; omega)
  exact ((List.perm_ext_iff_of_nodup n1 n2).2 hm).eq_of_pairwise (fun a b _ _ h3 h4 => Int.le_antisymm h3 h4) (p2.imp (by intro a b h; omega)) (p1.imp (by intro a b h; omega))
/-- All cells looked at are seen. -/
theorem partsTo_all {nr : Int → List Int} {xs : List Int} (l : List Int) (hl : ∀ c ∈ l, c ∈ xs) : ∀ c ∈ l, c ∈ (partsTo nr xs l).2 := by
  have : ∀ (l : List Int) (s : List (List Int) × List Int), (∀ c ∈ l, c ∈ xs) → ∀ c, c ∈ s.2 ∨ c ∈ l → c ∈ (l.foldl (partOne nr xs) s).2 := by
    intro l
    induction l with
    | nil => intro s _ c h; simpa using h
    | cons a t ih =>
      intro s hl c h
      refine ih _ (fun d hd => hl d (by simp [hd])) c ?_
      unfold partOne
      split
      · rename_i hh
        rcases h with h | h
        · exact .inl h
        · rcases List.mem_cons.1 h with rfl | h
          · exact .inl (hasB_iff.1 hh)
          · exact .inr h
      · rcases h with h | h
        · exact .inl (by simp [h])
        · rcases List.mem_cons.1 h with rfl | h
          · exact .inl (by simp [(spread_ok (nr := nr) (hl c (by simp))).2 c |>.2 (.base (hl c (by simp)))])
          · exact .inr h
  exact fun c hc => this l _ hl c (.inr hc)
theorem seen_conn {nr : Int → List Int} {xs s : List Int} {f z : Int} (hs : Seen nr xs s) (h : Conn nr xs f z) (hf : f ∈ s) : z ∈ s := by
  induction h with
  | base _ => exact hf
  | step _ hz hyz ih => exact hs.shut _ ih _ hz hyz
/-- The first cell of a part that begins at an unseen cell is that cell. -/
theorem spread_head {nr : Int → List Int} {xs s : List Int} {f : Int} (hf : f ∈ xs) (sym : Sym nr xs) (hs : Seen nr xs s) (hns : f ∉ s) (hall : ∀ z ∈ xs, z < f → z ∈ s) : (spread nr xs f).head? = some f := by
  obtain ⟨p1, hc⟩ := spread_ok (nr := nr) hf
  have hap : ∀ z ∈ spread nr xs f, f ≤ z := by
    intro z hz
    rcases Int.lt_or_le z f with h | h
    · have hzx := ((hc z).1 hz).mem
      have hzs := hall z hzx h
      have hb := conn_back sym ((hc z).1 hz)
      exact absurd (seen_conn hs hb hzs) hns
    · exact h
  have hfs : f ∈ spread nr xs f := (hc f).2 (.base hf)
  cases hsp : spread nr xs f with
  | nil => rw [hsp] at hfs; simp at hfs
  | cons a t =>
    rw [hsp] at hfs p1 hap
    have h1 := hap a (by simp)
    rcases List.mem_cons.1 hfs with rfl | h2
    · rfl
    · have := List.rel_of_pairwise_cons p1 h2
      omega
/-- The parts together are the cells. -/
theorem partsTo_flat {nr : Int → List Int} {xs : List Int} (sym : Sym nr xs) (l : List Int) (hl : ∀ c ∈ l, c ∈ xs) : (partsTo nr xs l).1.flatten = (partsTo nr xs l).2 ∧ (partsTo nr xs l).2.Nodup := by
  have : ∀ (l : List Int) (s : List (List Int) × List Int), (∀ c ∈ l, c ∈ xs) → Seen nr xs s.2 → s.1.flatten = s.2 → s.2.Nodup → (l.foldl (partOne nr xs) s).1.flatten = (l.foldl (partOne nr xs) s).2 ∧ (l.foldl (partOne nr xs) s).2.Nodup := by
    intro l
    induction l with
    | nil => intro s _ _ h1 h2; exact ⟨h1, h2⟩
    | cons c t ih =>
      intro s hl hs h1 h2
      have hc := hl c (by simp)
      have ht : ∀ d ∈ t, d ∈ xs := fun d hd => hl d (by simp [hd])
      rw [List.foldl_cons]
      cases hh : hasB s.2 c
      · have e : partOne nr xs s c = (s.1 ++ [spread nr xs c], s.2 ++ spread nr xs c) := by
          unfold partOne
          rw [if_neg (by simp [hh])]
        rw [e]
        refine ih _ ht (hs.add hc) (by simp [h1]) ?_
        obtain ⟨p1, p2⟩ := spread_ok (nr := nr) hc
        show (s.2 ++ spread nr xs c).Nodup
        rw [List.nodup_append]
        refine ⟨h2, p1.imp (by intro a b h; omega), fun a ha b hb e2 => ?_⟩
        subst e2
        have := hasB_iff.2 (seen_conn hs (conn_back sym ((p2 a).1 hb)) ha)
        rw [hh] at this
        cases this
      · have e : partOne nr xs s c = s := by
          unfold partOne
          rw [if_pos hh]
        rw [e]
        exact ih _ ht hs h1 h2
  exact this l _ hl (Seen.nil nr xs) rfl (by simp)
theorem parts_sum {nr : Int → List Int} {xs : List Int} (sym : Sym nr xs) (hn : xs.Nodup) : (partsF nr xs).flatten.length = xs.length := by
  obtain ⟨h1, h2⟩ := partsTo_flat sym xs (fun c hc => hc)
  have h3 := partsTo_seen (nr := nr) (xs := xs) xs (fun c hc => hc)
  have h4 := partsTo_all (nr := nr) (xs := xs) xs (fun c hc => hc)
  show (partsTo nr xs xs).1.flatten.length = _
  rw [h1]
  exact ((List.perm_ext_iff_of_nodup h2 hn).2 fun a => ⟨h3.sub a, h4 a⟩).length_eq
/-- A part of its own has one part. -/
theorem parts_self {nr : Int → List Int} {xs s : List Int} {f : Int} (hf : f ∈ xs) (sym : Sym nr xs) (hh : (spread nr xs f).head? = some f) : partsF nr (spread nr xs f) = [spread nr xs f] := by
  have hfs : f ∈ spread nr xs f := ((spread_ok (nr := nr) hf).2 f).2 (.base hf)
  have hself := spread_self (nr := nr) hf
  obtain ⟨p, hp⟩ : ∃ p, p = spread nr xs f := ⟨_, rfl⟩
  rw [← hp] at hh hfs hself ⊢
  cases p with
  | nil => simp at hh
  | cons a t =>
    simp at hh
    subst hh
    have hk : ∀ (l : List Int) (s : List (List Int) × List Int), (∀ c ∈ l, c ∈ s.2) → (l.foldl (partOne nr (a :: t)) s) = s := by
      intro l
      induction l with
      | nil => intro s _; rfl
      | cons c u ih =>
        intro s h
        have e : partOne nr (a :: t) s c = s := by
          unfold partOne
          rw [if_pos (hasB_iff.2 (h c (by simp)))]
        simp only [List.foldl_cons, e]
        exact ih s fun d hd => h d (by simp [hd])
    have e1 : partOne nr (a :: t) ([], []) a = ([a :: t], a :: t) := by
      unfold partOne
      rw [if_neg (by simp [hasB]), hself]
      simp
    unfold partsF partsTo
    simp only [List.foldl_cons, e1]
    rw [hk t _ (fun c hc => by simp [hc])]
end Go.Proofs.Ytknppcgoooaaaaa
