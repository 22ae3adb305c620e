/-
  Reading a grid: what both readers answer.
-/
import Derived.Test.YthkpffmcafdmeaaDoorRlM
import Derived.Test.YthkpffmcafdmeaaDoorGridTx
namespace Go.Proofs.YthkpffmcafdmeaaDoor
open Go.ChangeShapes Go.WideShapes Go.ChangeAt Go.RowKit Go.Deep
set_option linter.unusedVariables false

def rg (l : List UInt8) : Option (Int × Int × Int × List Int) := match rl (Lib.cut l [58]).1, rl (Lib.cut l [58]).2.1 with
  | some [R, C, S], some hs => if gridOk R C S hs = true then some (R, C, S, hs) else none
  | _, _ => none
theorem rl_nil : rl [] = none := rfl
theorem rg_some {l : List UInt8} {R C S : Int} {hs : List Int} (h1 : rl (Lib.cut l [58]).1 = some [R, C, S]) (h2 : rl (Lib.cut l [58]).2.1 = some hs) : rg l = if gridOk R C S hs = true then some (R, C, S, hs) else none := by
  unfold rg; rw [h1, h2]
theorem rg_none2 {l : List UInt8} (h2 : rl (Lib.cut l [58]).2.1 = none) : rg l = none := by
  unfold rg; rw [h2]; split <;> simp_all
theorem rg_none1 {l : List UInt8} (h1 : ∀ R C S, rl (Lib.cut l [58]).1 ≠ some [R, C, S]) : rg l = none := by
  unfold rg
  split
  · rename_i R C S hs e1 e2
    exact absurd e1 (h1 R C S)
  · rfl
theorem cut_split {l : List UInt8} (h : (Lib.cut l [58]).2.1 ≠ []) : l = (Lib.cut l [58]).1 ++ 58 :: (Lib.cut l [58]).2.1 := by
  by_cases hm : (58 : UInt8) ∈ l
  · obtain ⟨a, b, rfl, ha⟩ := List.eq_append_cons_of_mem hm
    rw [cut_at ha]
  · rw [cut_free hm] at h; exact absurd rfl h
theorem rg_text {l : List UInt8} {R C S : Int} {hs : List Int} (h1 : rl (Lib.cut l [58]).1 = some [R, C, S]) (h2 : rl (Lib.cut l [58]).2.1 = some hs) : grdS R C S hs = l ↔ gridOk R C S hs = true := by
  have hne : (Lib.cut l [58]).2.1 ≠ [] := fun e => by rw [e, rl_nil] at h2; cases h2
  have hl := cut_split hne
  constructor
  · intro h
    by_cases hg : gridOk R C S hs = true
    · exact hg
    · rw [grdS, if_neg hg] at h
      rw [← h] at hl
      have := congrArg List.length hl
      simp at this
  · intro h
    rw [grdS, if_pos h, grdT, (rl_iff.1 h1).2, (rl_iff.1 h2).2]
    exact hl.symm
theorem mem_join {c : UInt8} {t : UInt8} (h : t ≠ c) : ∀ (ps : List (List UInt8)), t ∈ Lib.join ps [c] → ∃ p ∈ ps, t ∈ p
  | [], h2 => by simp [Lib.join] at h2
  | [p], h2 => ⟨p, by simp, by rwa [Lib.join_one] at h2⟩
  | p :: q :: r, h2 => by
    rw [join_cons2] at h2
    rw [List.mem_append, List.mem_append, List.mem_singleton] at h2
    rcases h2 with h3 | h3 | h2
    · exact ⟨p, List.mem_cons_self .., h3⟩
    · exact absurd h3 h
    · obtain ⟨x, hx, hm⟩ := mem_join h (q :: r) h2
      exact ⟨x, List.mem_cons_of_mem _ hx, hm⟩
theorem lst_free58 (xs : List Int) : (58 : UInt8) ∉ lstT xs := by
  intro h
  unfold lstT at h
  split at h
  · simp at h
  · obtain ⟨p, hp, hm⟩ := mem_join (by decide) _ h
    obtain ⟨n, _, rfl⟩ := List.mem_map.1 hp
    exact free58 n hm
theorem rl_free58 {l : List UInt8} {xs : List Int} (h : rl l = some xs) : (58 : UInt8) ∉ l := by
  rw [← (rl_iff.1 h).2]; exact lst_free58 xs
theorem rg_len {l : List UInt8} (h : (spl 58 l).length ≠ 2) : rg l = none := by
  refine rg_none2 ?_
  by_cases hm : (58 : UInt8) ∈ l
  · obtain ⟨a, b, rfl, ha⟩ := List.eq_append_cons_of_mem hm
    rw [cut_at ha]
    cases hb : rl b with
    | none => rfl
    | some xs =>
      rw [spl_app ha, spl_free (rl_free58 hb)] at h
      exact absurd rfl h
  · rw [cut_free hm]; rfl
theorem rg_mid {l x y : List UInt8} (h : spl 58 l = [x, y]) : (Lib.cut l [58]).1 = x ∧ (Lib.cut l [58]).2.1 = y := by
  have e := spl_join 58 l
  rw [h, join_cons2, Lib.join_one, List.singleton_append] at e
  have hx : (58 : UInt8) ∉ x := fun hm => by
    have h1 := spl_len 58 l
    rw [h, ← e, List.count_append, List.count_cons_self] at h1
    have h2 := List.count_pos_iff.2 hm
    simp at h1
    omega
  rw [← e, cut_at hx]
  exact ⟨rfl, rfl⟩
def RgR (l : List UInt8) (w : World) (e : Ending) (w' : World) : Prop :=
  ∃ A c R C S hs, e = .returned (.tuple #[.agg #[.int .i64 R, .int .i64 C, .int .i64 S, .slice A hs.length c], .bool (rg l).isSome]) ∧ Hid ((R, C, S, hs) = (rg l).getD (0, 0, 0, [])) ∧ Hid (w'.ownsRow w.heap.size 2 1 (.slice A hs.length c) hs.length (hs.map (.int .i64))) ∧ Below w.heap.size w w'
theorem rgr_none {l : List UInt8} {w w' : World} (h : rg l = none) (hb : Below w.heap.size w w') : RgR l w (.returned (.tuple #[.agg #[.int .i64 0, .int .i64 0, .int .i64 0, .slice none 0 0], .bool false])) w' :=
  ⟨none, 0, 0, 0, 0, [], by rw [h]; rfl, by rw [h]; rfl, World.ownsRow_nil _ _ _ _, hb⟩
theorem rgr_some {l : List UInt8} {w w' : World} {R C S : Int} {hs : List Int} {A : Option Addr} {c : Nat} (h : rg l = some (R, C, S, hs)) (ho : w'.ownsRow w.heap.size 2 1 (.slice A hs.length c) hs.length (hs.map (.int .i64))) (hb : Below w.heap.size w w') :
    RgR l w (.returned (.tuple #[.agg #[.int .i64 R, .int .i64 C, .int .i64 S, .slice A hs.length c], .bool true])) w' :=
  ⟨A, c, R, C, S, hs, by rw [h]; rfl, by rw [h]; rfl, ho, hb⟩
abbrev gZ : Array Value := #[.int .i64 0, .int .i64 0, .int .i64 0, .slice none 0 0]
abbrev put4 (wr : World) (b : Nat) (a0 a1 a2 a3 : Value) : World := (((wr.setCell ⟨b, 0, none⟩ a0).setCell ⟨b, 1, none⟩ a1).setCell ⟨b, 2, none⟩ a2).setCell ⟨b, 3, none⟩ a3
theorem put4_below {B b : Nat} {w wr : World} (h : Below B w wr) (hb : B ≤ b) (a0 a1 a2 a3 : Value) : Below B w (put4 wr b a0 a1 a2 a3) :=
  (((h.setCell (p := ⟨b, 0, none⟩) hb a0).setCell (p := ⟨b, 1, none⟩) hb a1).setCell (p := ⟨b, 2, none⟩) hb a2).setCell (p := ⟨b, 3, none⟩) hb a3
theorem put4_own {b base n : Nat} {wr : World} {v : Value} {xs : List Value} (h : wr.ownsRow base 2 1 v n xs) (hb : b < base) (a0 a1 a2 a3 : Value) : (put4 wr b a0 a1 a2 a3).ownsRow base 2 1 v n xs := by
  have hgs : wr.grownBy (put4 wr b a0 a1 a2 a3) (some b) := grown_setCell (p := ⟨b, 3, none⟩) (grown_setCell (p := ⟨b, 2, none⟩) (grown_setCell (p := ⟨b, 1, none⟩) (grown_setCell (p := ⟨b, 0, none⟩) (World.grownBy.refl wr (some b)) rfl a0) rfl a1) rfl a2) rfl a3
  exact h.kept hgs (.inr fun e => by have := (h.lt _ e).1; omega)
theorem z_facts {W : World} {b : Nat} (h : W.heap[b]? = some (.cells gZ 34 (0, 0))) :
    (W.cell? ⟨b, 0, none⟩ = some (.int .i64 0) ∧ W.cell? ⟨b, 1, none⟩ = some (.int .i64 0) ∧ W.cell? ⟨b, 2, none⟩ = some (.int .i64 0) ∧ W.cell? ⟨b, 3, none⟩ = some (.slice none 0 0)) ∧
    (W.frozen? ⟨b, 0, none⟩ = false ∧ W.frozen? ⟨b, 1, none⟩ = false ∧ W.frozen? ⟨b, 2, none⟩ = false ∧ W.frozen? ⟨b, 3, none⟩ = false) :=
  ⟨⟨by simp [World.cell?, h], by simp [World.cell?, h], by simp [World.cell?, h], by simp [World.cell?, h]⟩, Go.Joins.unfrozen_of_block h 0, Go.Joins.unfrozen_of_block h 1, Go.Joins.unfrozen_of_block h 2, Go.Joins.unfrozen_of_block h 3⟩
end Go.Proofs.YthkpffmcafdmeaaDoor
