/-
  Paths and grids as texts, and read back, plain. No program in sight.
-/
import Derived.Test.YtknppcgoooaaaaaGreatDoorTxtM
import Derived.Test.YtknppcgoooaaaaaGreatDoorPathM
namespace Go.Proofs.YtknppcgoooaaaaaGreatDoor
set_option linter.unusedVariables false

def ptT (p : Int × Int) : List UInt8 := Lib.itoa p.1 ++ 58 :: Lib.itoa p.2
def pthT (ps : Pth) : List UInt8 := Lib.join (ps.map ptT) [32]
def pthS (ps : Pth) : List UInt8 := if pathOk ps = true then pthT ps else []
/-- One point read. -/
def rdP (w : List UInt8) : Option (Int × Int) := match rd (Lib.cut w [58]).1, rd (Lib.cut w [58]).2.1 with
  | some d, some h => some (d, h)
  | _, _ => none
theorem free58 (n : Int) : (58 : UInt8) ∉ Lib.itoa n := itoa_free (by decide) (by decide)
theorem free32 (n : Int) : (32 : UInt8) ∉ Lib.itoa n := itoa_free (by decide) (by decide)
theorem cut_pt (p : Int × Int) : Lib.cut (ptT p) [58] = (Lib.itoa p.1, Lib.itoa p.2, true) := cut_at (free58 p.1)
theorem spl_pt (p : Int × Int) : spl 58 (ptT p) = [Lib.itoa p.1, Lib.itoa p.2] := by
  rw [ptT, spl_app (free58 p.1), spl_free (free58 p.2)]
theorem rd_nil : rd [] = none := rfl
theorem rdP_some {w : List UInt8} {d h : Int} (h1 : rd (Lib.cut w [58]).1 = some d) (h2 : rd (Lib.cut w [58]).2.1 = some h) : rdP w = some (d, h) := by
  unfold rdP; rw [h1, h2]
theorem rdP_none1 {w : List UInt8} (h1 : rd (Lib.cut w [58]).1 = none) : rdP w = none := by
  unfold rdP; rw [h1]
theorem rdP_none2 {w : List UInt8} (h1 : rd (Lib.cut w [58]).2.1 = none) : rdP w = none := by
  unfold rdP; rw [h1]; cases rd (Lib.cut w [58]).1 <;> rfl
theorem rdP_text : ∀ w p, rdP w = some p → ptT p = w := by
  intro w p h
  unfold rdP at h
  cases h1 : rd (Lib.cut w [58]).1 with
  | none => rw [h1] at h; cases h
  | some d =>
    cases h2 : rd (Lib.cut w [58]).2.1 with
    | none => rw [h1, h2] at h; cases h
    | some y =>
      rw [h1, h2] at h
      cases h
      by_cases hm : (58 : UInt8) ∈ w
      · obtain ⟨a, b, rfl, ha⟩ := List.eq_append_cons_of_mem hm
        rw [cut_at ha] at h1 h2
        rw [ptT, rd_text _ _ h1, rd_text _ _ h2]
      · rw [cut_free hm] at h2
        rw [rd_nil] at h2; cases h2
theorem rdP_of {p : Int × Int} (h1 : -1000000000000000000 < p.1 ∧ p.1 < 1000000000000000000) (h2 : -1000000000000000000 < p.2 ∧ p.2 < 1000000000000000000) : rdP (ptT p) = some p := by
  rw [rdP_some (d := p.1) (h := p.2)]
  · rw [cut_pt]; exact rd_itoa h1.1 h1.2
  · rw [cut_pt]; exact rd_itoa h2.1 h2.2
theorem rdP_bd {w : List UInt8} {p : Int × Int} (h : rdP w = some p) : (-1000000000000000000 < p.1 ∧ p.1 < 1000000000000000000) ∧ (-1000000000000000000 < p.2 ∧ p.2 < 1000000000000000000) := by
  have e := rdP_text w p h
  subst e
  unfold rdP at h
  rw [cut_pt] at h
  cases h1 : rd (Lib.itoa p.1) with
  | none => rw [h1] at h; cases h
  | some d =>
    cases h2 : rd (Lib.itoa p.2) with
    | none => rw [h1, h2] at h; cases h
    | some y =>
      rw [h1, h2] at h
      cases h
      exact ⟨rd_bound h1, rd_bound h2⟩
/-- The reference's way: two pieces, both numbers. -/
theorem rdP_spl {w x y : List UInt8} (h : spl 58 w = [x, y]) : rdP w = match rd x, rd y with
    | some d, some h => some (d, h)
    | _, _ => none := by
  have e := spl_join 58 w
  rw [h, join_cons2, Lib.join_one, List.singleton_append] at e
  have hx : (58 : UInt8) ∉ x := fun hm => by
    have h1 := spl_len 58 w
    rw [h, ← e, List.count_append, List.count_cons_self] at h1
    have h2 := List.count_pos_iff.2 hm
    simp at h1
    omega
  unfold rdP
  rw [← e, cut_at hx]
theorem rdP_len {w : List UInt8} (h : (spl 58 w).length ≠ 2) : rdP w = none := by
  cases h1 : rdP w with
  | none => rfl
  | some p =>
    have e := rdP_text w p h1
    rw [← e, spl_pt] at h
    exact absurd rfl h
theorem pt_bd {ps : Pth} (h : pathOk ps = true) : ∀ p ∈ ps, (0 ≤ p.1 ∧ p.1 ≤ 20000) ∧ (0 ≤ p.2 ∧ p.2 ≤ 9000) := by
  intro p hp
  obtain ⟨i, hi, e⟩ := List.getElem_of_mem hp
  have h1 := ptOk_iff.1 ((pathOk_iff.1 h).2.2.2 i hi)
  have e1 : dAt ps i = p.1 := by simp [dAt, hi, e]
  have e2 : hAt ps i = p.2 := by simp [hAt, hi, e]
  rw [e1, e2] at h1
  exact ⟨⟨h1.1, h1.2.1⟩, h1.2.2.1, h1.2.2.2.1⟩
/-- The path with a text. -/
def rp (s : List UInt8) : Option Pth := match allF rdP (spl 32 s) with
  | some ps => if pathOk ps = true then some ps else none
  | none => none
theorem freeP (ps : Pth) : ∀ x ∈ ps.map ptT, (32 : UInt8) ∉ x := by
  intro x hx
  obtain ⟨p, _, rfl⟩ := List.mem_map.1 hx
  unfold ptT
  intro h
  rcases List.mem_append.1 h with h | h
  · exact free32 _ h
  · rcases List.mem_cons.1 h with h | h
    · exact absurd h (by decide)
    · exact free32 _ h
theorem path_ne {ps : Pth} (h : pathOk ps = true) : ps ≠ [] := fun e => by
  have := (pathOk_iff.1 h).1
  subst e
  simp at this
theorem allP {ps : Pth} (h : pathOk ps = true) : allF rdP (ps.map ptT) = some ps :=
  allF_of (f := rdP) (g := ptT) fun p hp => by have := pt_bd h p hp; exact rdP_of (by omega) (by omega)
theorem rp_iff {s : List UInt8} {ps : Pth} : rp s = some ps ↔ pathOk ps = true ∧ pthT ps = s := by
  constructor
  · intro h
    unfold rp at h
    cases h2 : allF rdP (spl 32 s) with
    | none => rw [h2] at h; cases h
    | some ys =>
      rw [h2] at h
      simp only at h
      split at h
      · rename_i h3
        cases h
        refine ⟨h3, ?_⟩
        rw [pthT, ← allF_text rdP_text h2, spl_join]
      · cases h
  · rintro ⟨h1, rfl⟩
    rw [rp, pthT, join_spl (by simpa using path_ne h1) (freeP ps), allP h1]
    simp [h1]
theorem pieces_pth {ps : Pth} (h : pathOk ps = true) : Lib.splitK [32] 0 (min 25 ((pthT ps).length + 1) - 1) (pthT ps) = ps.map ptT := by
  have h1 := (pathOk_iff.1 h).2.1
  have h2 := spl_le 32 (pthT ps)
  have hne : ps.map ptT ≠ [] := by simpa using path_ne h
  rw [pthT] at h2 ⊢
  rw [join_spl hne (freeP ps), List.length_map] at h2
  exact splitK_join hne (freeP ps) _ (by rw [List.length_map]; omega)
/-- What the program reads. -/
theorem rp_prog (s : List UInt8) : rp s = match allF rdP (Lib.splitK [32] 0 (min 25 (s.length + 1) - 1) s) with
    | some ps => if pathOk ps = true ∧ pthT ps = s then some ps else none
    | none => none := by
  cases h : rp s with
  | some ps =>
    obtain ⟨h1, rfl⟩ := rp_iff.1 h
    rw [pieces_pth h1, allP h1]
    simp [h1]
  | none =>
    cases h2 : allF rdP (Lib.splitK [32] 0 (min 25 (s.length + 1) - 1) s) with
    | none => rfl
    | some xs =>
      simp only
      split
      · rename_i h3
        rw [rp_iff.2 h3] at h; cases h
      · rfl
end Go.Proofs.YtknppcgoooaaaaaGreatDoor
