/-
  Layers: loads, settling.
-/
import Derived.Test.YtlfjjdglffiinaaLyG
import Derived.Test.YtlfjjdglffiinaaLyD
namespace Go.Proofs.Ytlfjjdglffiinaa
open Go.ChangeShapes Go.WideShapes Go.ChangeAt Go.RowKit Go.Deep
set_option linter.unusedVariables false

def wetL (x : Ly) : Int := x.ice + x.water
def loadF (ls : List Ly) (k : Nat) : Int := sumF wetL (ls.drop (k + 1))
def settleD (d l : Int) : Int := if d < 550 then min (d + (550 - d) * l / 10000000) 550 else d
def settleX (l : Int) (x : Ly) : Ly := { x with dens := settleD x.dens l, age := min (x.age + 1) 10000 }
theorem settleD_bd {d l : Int} (hd : 30 ≤ d ∧ d ≤ 900) (hl : 0 ≤ l) : d ≤ settleD d l ∧ settleD d l ≤ 900 := by
  unfold settleD
  split
  · have : 0 ≤ (550 - d) * l := Int.mul_nonneg (by omega) hl
    omega
  · omega
theorem settleD_mono {d l l' : Int} (hl : l ≤ l') : settleD d l ≤ settleD d l' := by
  unfold settleD
  split
  · have : (550 - d) * l ≤ (550 - d) * l' := Int.mul_le_mul_of_nonneg_left hl (by omega)
    omega
  · omega
theorem settleX_ok {l : Int} {x : Ly} (h : LyOk x) (hl : 0 ≤ l) : LyOk (settleX l x) := by
  have := settleD_bd h.d hl
  refine ⟨h.f, h.i, h.v, ⟨?_, ?_⟩, h.g, h.h, ⟨?_, ?_⟩⟩
  · have := h.d; simp only [settleX]; omega
  · simp only [settleX]; omega
  · have := h.a; simp only [settleX]; omega
  · simp only [settleX]; omega
def settledF (ls : List Ly) : List Ly := ls.mapIdx fun k x => settleX (loadF ls k) x
theorem settledF_len (ls : List Ly) : (settledF ls).length = ls.length := by simp [settledF]
theorem settledF_at {ls : List Ly} {k : Nat} {x : Ly} (h : ls[k]? = some x) : (settledF ls)[k]? = some (settleX (loadF ls k) x) := by simp [settledF, h]
theorem wet_bd {ls : List Ly} (h : ∀ x ∈ ls, LyOk x) (hl : ls.length ≤ 16) : 0 ≤ sumF wetL ls ∧ sumF wetL ls ≤ 32000000 := by
  have := sumF_bd wetL 0 2000000 ls fun x hx => by have o := h x hx; have := o.i; have := o.v; unfold wetL; omega
  omega
theorem loadF_bd {ls : List Ly} (h : ∀ x ∈ ls, LyOk x) (hl : ls.length ≤ 16) (k : Nat) : 0 ≤ loadF ls k ∧ loadF ls k ≤ 32000000 :=
  wet_bd (fun x hx => h x (List.mem_of_mem_drop hx)) (by simp; omega)
theorem settledF_ok {ls : List Ly} (h : ∀ x ∈ ls, LyOk x) (hl : ls.length ≤ 16) : ∀ x ∈ settledF ls, LyOk x := by
  intro x hx
  obtain ⟨j, hj⟩ := List.mem_iff_getElem?.1 hx
  have hlt : j < ls.length := by have := (List.getElem?_eq_some_iff.1 hj).1; rw [settledF_len] at this; exact this
  rw [settledF_at (List.getElem?_eq_getElem hlt)] at hj
  injection hj with hj
  subst hj
  exact settleX_ok (h _ (List.getElem_mem hlt)) (loadF_bd h hl j).1
/-- What a map over layers that keeps ice and water keeps. -/
theorem sumF_ext (f g : Ly → Int) : ∀ (a b : List Ly), a.length = b.length → (∀ (k : Nat) (x y : Ly), a[k]? = some x → b[k]? = some y → f x = g y) → sumF f a = sumF g b := by
  intro a
  induction a with
  | nil => intro b hl _; cases b; rfl; simp at hl
  | cons x t ih =>
    intro b hl h
    cases b with
    | nil => simp at hl
    | cons y u =>
      rw [sumF_cons, sumF_cons, h 0 x y rfl rfl, ih u (by simpa using hl) (fun k x y hx hy => h (k + 1) x y (by simpa using hx) (by simpa using hy))]
theorem settledF_sums (ls : List Ly) : sumF Ly.ice (settledF ls) = sumF Ly.ice ls ∧ sumF Ly.water (settledF ls) = sumF Ly.water ls := by
  constructor
  all_goals
    refine sumF_ext _ _ _ _ (settledF_len ls) fun k x y hx hy => ?_
    rw [settledF_at hy] at hx
    injection hx with hx
    subst hx
    rfl
theorem formsF_sums (ls : List Ly) : sumF Ly.ice (formsF ls) = sumF Ly.ice ls ∧ sumF Ly.water (formsF ls) = sumF Ly.water ls := by
  constructor
  all_goals
    refine sumF_ext _ _ _ _ (formsF_len ls) fun k x y hx hy => ?_
    rw [formsF_at hy] at hx
    injection hx with hx
    subst hx
    rfl
/-! ### Hours -/
def heatH (ls : List Ly) (j : Int) : List Ly := if 0 ≤ j then (heatF warmX ls.length (settledF ls) j).1 else (heatF coolX ls.length (settledF ls) (-j)).1
def hourF (ls : List Ly) (j : Int) : List Ly × Int := (formsF (drainF ls.length (heatH ls j) 0).1, (drainF ls.length (heatH ls j) 0).2)
def hoursTo (ls : List Ly) (js : List Int) : List Ly × Int := js.foldl (fun s j => ((hourF s.1 j).1, s.2 + (hourF s.1 j).2)) (ls, 0)
theorem hoursTo_snoc {ls : List Ly} {js : List Int} {k : Nat} {j : Int} (h : js[k]? = some j) :
    hoursTo ls (js.take (k + 1)) = ((hourF (hoursTo ls (js.take k)).1 j).1, (hoursTo ls (js.take k)).2 + (hourF (hoursTo ls (js.take k)).1 j).2) := by
  unfold hoursTo
  rw [List.take_add_one, h, List.foldl_append]
  rfl
theorem hoursTo_one (ls : List Ly) (j : Int) : hoursTo ls [j] = ((hourF ls j).1, 0 + (hourF ls j).2) := rfl
structure HourOk (ls ls' : List Ly) (r : Int) : Prop where
  len : ls'.length = ls.length
  ok : ∀ x ∈ ls', LyOk x
  mass : sumF Ly.ice ls' + sumF Ly.water ls' + r = sumF Ly.ice ls + sumF Ly.water ls
  low : 0 ≤ r
theorem heatH_ok {ls : List Ly} (h : ∀ x ∈ ls, LyOk x) (hl : ls.length ≤ 16) (j : Int) : (heatH ls j).length = ls.length ∧ (∀ x ∈ heatH ls j, LyOk x) ∧ sumF Ly.ice (heatH ls j) + sumF Ly.water (heatH ls j) = sumF Ly.ice ls + sumF Ly.water ls := by
  have hs := settledF_sums ls
  have hso := settledF_ok h hl
  have hsl := settledF_len ls
  unfold heatH
  split
  · have k := heatF_kept (fun x j hx h0 => warmX_kept hx h0) ls.length (settledF ls) j hso (by assumption)
    exact ⟨by rw [k.len, hsl], k.ok, by rw [k.mass, hs.1, hs.2]⟩
  · have k := heatF_kept (fun x j hx h0 => coolX_kept hx h0) ls.length (settledF ls) (-j) hso (by omega)
    exact ⟨by rw [k.len, hsl], k.ok, by rw [k.mass, hs.1, hs.2]⟩
theorem hourF_ok {ls : List Ly} (h : ∀ x ∈ ls, LyOk x) (hl : ls.length ≤ 16) (j : Int) : HourOk ls (hourF ls j).1 (hourF ls j).2 := by
  obtain ⟨h1, h2, h3⟩ := heatH_ok h hl j
  have d := drainF_ok ls.length (heatH ls j) 0 h2 (Int.le_refl _) (by omega)
  have f := formsF_sums (drainF ls.length (heatH ls j) 0).1
  refine ⟨by unfold hourF; rw [formsF_len, d.len, h1], formsF_ok d.ok, ?_, d.low⟩
  unfold hourF
  have := d.ice
  have := d.water
  rw [f.1, f.2]
  omega
theorem hoursTo_ok {ls : List Ly} (h : ∀ x ∈ ls, LyOk x) (hl : ls.length ≤ 16) (js : List Int) : HourOk ls (hoursTo ls js).1 (hoursTo ls js).2 := by
  have : ∀ (js : List Int) (s : List Ly × Int), HourOk ls s.1 s.2 → HourOk ls (js.foldl (fun s j => ((hourF s.1 j).1, s.2 + (hourF s.1 j).2)) s).1 (js.foldl (fun s j => ((hourF s.1 j).1, s.2 + (hourF s.1 j).2)) s).2 := by
    intro js
    induction js with
    | nil => intro s hs; exact hs
    | cons j t ih =>
      intro s hs
      refine ih _ ?_
      have k := hourF_ok hs.ok (by rw [hs.len]; exact hl) j
      exact ⟨by rw [k.len, hs.len], k.ok, by have := k.mass; have := hs.mass; simp only; omega, by have := k.low; have := hs.low; simp only; omega⟩
  exact this js (ls, 0) ⟨rfl, h, by simp, Int.le_refl _⟩
end Go.Proofs.Ytlfjjdglffiinaa
