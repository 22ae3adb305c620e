/-
  Layers: heat from above, draining, as plain functions, and what they keep. No program in sight.
-/
import Derived.Test.YtlfjjdglffiinaaLyM
namespace Go.Proofs.Ytlfjjdglffiinaa
set_option linter.unusedVariables false

def sumF (f : Ly → Int) (ls : List Ly) : Int := (ls.map f).sum
theorem sumF_nil (f : Ly → Int) : sumF f [] = 0 := rfl
theorem sumF_cons (f : Ly → Int) (x : Ly) (ls : List Ly) : sumF f (x :: ls) = f x + sumF f ls := by simp [sumF]
theorem sumF_append (f : Ly → Int) (a b : List Ly) : sumF f (a ++ b) = sumF f a + sumF f b := by simp [sumF]
theorem sumF_set (f : Ly → Int) {ls : List Ly} {k : Nat} {x : Ly} (h : ls[k]? = some x) (y : Ly) : sumF f (ls.set k y) = sumF f ls - f x + f y := by
  induction ls generalizing k with
  | nil => simp at h
  | cons a t ih =>
    cases k with
    | zero =>
      simp at h
      subst h
      simp only [List.set_cons_zero, sumF_cons]
      omega
    | succ k =>
      simp at h
      simp only [List.set_cons_succ, sumF_cons, ih h]
      omega
theorem sumF_take (f : Ly → Int) {ls : List Ly} {k : Nat} {x : Ly} (h : ls[k]? = some x) : sumF f (ls.take (k + 1)) = sumF f (ls.take k) + f x := by
  obtain ⟨hlt, rfl⟩ := List.getElem?_eq_some_iff.1 h
  rw [List.take_succ_eq_append_getElem hlt, sumF_append, sumF_cons, sumF_nil]
  omega
theorem sumF_bd (f : Ly → Int) (lo hi : Int) (ls : List Ly) (h : ∀ x ∈ ls, lo ≤ f x ∧ f x ≤ hi) : lo * ls.length ≤ sumF f ls ∧ sumF f ls ≤ hi * ls.length := by
  induction ls with
  | nil => simp [sumF]
  | cons a t ih =>
    have h1 := h a (by simp)
    have h2 := ih fun x hx => h x (by simp [hx])
    rw [sumF_cons, List.length_cons, show ((t.length + 1 : Nat) : Int) = (t.length : Int) + 1 by omega, Int.mul_add, Int.mul_add]
    omega

def coldN (i g : Int) : Int := (i * 21 * (-g) + 999) / 1000
def coldL (x : Ly) : Int := coldN x.ice x.deg
theorem coldN_bd {i g : Int} (hi : 1 ≤ i ∧ i ≤ 1000000) (hg : -4000 ≤ g ∧ g ≤ 0) : 0 ≤ i * 21 * (-g) ∧ i * 21 * (-g) ≤ 84000000000 ∧ 0 ≤ coldN i g ∧ coldN i g ≤ 84000000 := by
  have h1 : 0 ≤ i * 21 * (-g) := Int.mul_nonneg (by omega) (by omega)
  have h2 : i * 21 * (-g) ≤ 21000000 * 4000 := Int.mul_le_mul (by omega) (by omega) (by omega) (by omega)
  unfold coldN
  omega
theorem coldN_mono {i g i' g' : Int} (hi : 0 ≤ i') (hii : i' ≤ i) (hg' : g' ≤ 0) (hgg : g ≤ g') : coldN i' g' ≤ coldN i g := by
  have h1 : i' * 21 * (-g') ≤ i * 21 * (-g) := Int.mul_le_mul (by omega) (by omega) (by omega) (by omega)
  unfold coldN
  omega
def warmX (x : Ly) (j : Int) : Ly × Int × Bool :=
  if j < coldL x then ({ x with deg := min (x.deg + j * 1000 / (21 * x.ice)) 0 }, 0, false)
  else
    let g := min (min ((j - coldL x) / 334) (x.ice - 1)) (1000000 - x.water)
    ({ x with ice := x.ice - g, water := x.water + g, deg := 0 }, j - coldL x - g * 334, decide (334 ≤ j - coldL x - g * 334))
def coolX (x : Ly) (j : Int) : Ly × Int × Bool :=
  let g := min (min (j / 334) x.water) (1000000 - x.ice)
  let i := x.ice + g
  let r := j - g * 334
  if 0 < x.water - g then ({ x with ice := i, water := x.water - g }, r, false)
  else
    let d := min (r * 1000 / (21 * i)) (x.deg + 4000)
    ({ x with ice := i, water := x.water - g, deg := x.deg - d }, r - min ((d * 21 * i + 999) / 1000) r, decide (x.deg - d = -4000))
/-- What a change of a layer by heat keeps. -/
structure Kept (D C : Ly → Int) (x y : Ly) (j r : Int) : Prop where
  ok : LyOk y
  mass : y.ice + y.water = x.ice + x.water
  low : 0 ≤ r
  up : r ≤ j
  pay : (D x - D y) * 334 ≤ j - r
  less : D y ≤ D x
  cold : C y ≤ C x
theorem warmX_kept {x : Ly} {j : Int} (hx : LyOk x) (h0 : 0 ≤ j) : Kept Ly.ice coldL x (warmX x j).1 j (warmX x j).2.1 := by
  have hc := coldN_bd hx.i hx.g
  have e : coldL x = coldN x.ice x.deg := rfl
  obtain ⟨f, i, v, d, g, h, a⟩ := hx
  unfold warmX
  split
  · have h1 : 0 ≤ j * 1000 / (21 * x.ice) := Int.ediv_nonneg (by omega) (by omega)
    refine ⟨⟨f, i, v, d, ⟨?_, ?_⟩, h, a⟩, rfl, (by first | (simp only; omega) | omega | simp), (by first | (simp only; omega) | omega | simp), (by first | (simp only; omega) | omega | simp), (by first | (simp only; omega) | omega | simp), ?_⟩
    · simp only
      omega
    · simp only
      omega
    · exact coldN_mono (by simp only; omega) (by simp) (by simp only; omega) (by simp only; omega)
  · simp only
    generalize hgq : min (min ((j - coldL x) / 334) (x.ice - 1)) (1000000 - x.water) = q
    have hq : 0 ≤ q ∧ q ≤ x.ice - 1 ∧ q ≤ 1000000 - x.water ∧ q * 334 ≤ j - coldL x := by omega
    refine ⟨⟨f, ⟨by simp only; omega, by simp only; omega⟩, ⟨by simp only; omega, by simp only; omega⟩, d, ⟨by simp, by simp⟩, h, a⟩, (by first | (simp only; omega) | omega | simp), (by first | (simp only; omega) | omega | simp), (by first | (simp only; omega) | omega | simp), (by first | (simp only; omega) | omega | simp), (by first | (simp only; omega) | omega | simp), ?_⟩
    exact coldN_mono (by simp only; omega) (by simp only; omega) (by simp) (by simp only; omega)
theorem coolX_kept {x : Ly} {j : Int} (hx : LyOk x) (h0 : 0 ≤ j) : Kept (fun x => -x.ice) (fun _ => 0) x (coolX x j).1 j (coolX x j).2.1 := by
  obtain ⟨f, i, v, d, g, h, a⟩ := hx
  unfold coolX
  simp only
  generalize hgq : min (min (j / 334) x.water) (1000000 - x.ice) = q
  have hq : 0 ≤ q ∧ q ≤ x.water ∧ q ≤ 1000000 - x.ice ∧ q * 334 ≤ j := by omega
  split
  · exact ⟨⟨f, ⟨by simp only; omega, by simp only; omega⟩, ⟨by simp only; omega, by simp only; omega⟩, d, g, h, a⟩, by simp only; omega, by simp only; omega, by simp only; omega, by simp only; omega, by simp only; omega, by simp⟩
  · have h1 : 0 ≤ (j - q * 334) * 1000 / (21 * (x.ice + q)) := Int.ediv_nonneg (by omega) (by omega)
    generalize (j - q * 334) * 1000 / (21 * (x.ice + q)) = s at h1
    have h2 : 0 ≤ min s (x.deg + 4000) * 21 * (x.ice + q) := Int.mul_nonneg (by omega) (by omega)
    generalize min s (x.deg + 4000) * 21 * (x.ice + q) = p at h2
    exact ⟨⟨f, ⟨by simp only; omega, by simp only; omega⟩, ⟨by simp only; omega, by simp only; omega⟩, d, ⟨by simp only; omega, by simp only; omega⟩, h, a⟩, by simp only; omega, by simp only; omega, by simp only; omega, by simp only; omega, by simp only; omega, by simp⟩

/-- Heat from the top down, through the first m layers. -/
def heatF (ch : Ly → Int → Ly × Int × Bool) : Nat → List Ly → Int → List Ly × Int
  | 0, ls, j => (ls, j)
  | m + 1, ls, j =>
    match ls[m]? with
    | none => (ls, j)
    | some x => if (ch x j).2.2 then heatF ch m (ls.set m (ch x j).1) (ch x j).2.1 else (ls.set m (ch x j).1, (ch x j).2.1)
theorem heatF_go {ch : Ly → Int → Ly × Int × Bool} {m : Nat} {ls : List Ly} {j : Int} {x : Ly} (h : ls[m]? = some x) (hm : (ch x j).2.2 = true) :
    heatF ch (m + 1) ls j = heatF ch m (ls.set m (ch x j).1) (ch x j).2.1 := by simp [heatF, h, hm]
theorem heatF_end {ch : Ly → Int → Ly × Int × Bool} {m : Nat} {ls : List Ly} {j : Int} {x : Ly} (h : ls[m]? = some x) (hm : (ch x j).2.2 = false) :
    heatF ch (m + 1) ls j = (ls.set m (ch x j).1, (ch x j).2.1) := by simp [heatF, h, hm]
theorem mem_set_ok {ls : List Ly} {m : Nat} {y : Ly} (h : ∀ x ∈ ls, LyOk x) (hy : LyOk y) : ∀ x ∈ ls.set m y, LyOk x := by
  intro x hx
  rcases List.mem_or_eq_of_mem_set hx with h1 | h1
  · exact h x h1
  · subst h1; exact hy
structure KeptAll (D C : Ly → Int) (ls ls' : List Ly) (j r : Int) : Prop where
  len : ls'.length = ls.length
  ok : ∀ x ∈ ls', LyOk x
  mass : sumF Ly.ice ls' + sumF Ly.water ls' = sumF Ly.ice ls + sumF Ly.water ls
  low : 0 ≤ r
  up : r ≤ j
  pay : (sumF D ls - sumF D ls') * 334 ≤ j - r
  less : sumF D ls' ≤ sumF D ls
  cold : sumF C ls' ≤ sumF C ls
theorem Kept.all {D C : Ly → Int} {ls : List Ly} {m : Nat} {x y : Ly} {j r : Int} (h : Kept D C x y j r) (hm : ls[m]? = some x) (hok : ∀ x ∈ ls, LyOk x) : KeptAll D C ls (ls.set m y) j r := by
  have e1 := sumF_set Ly.ice hm y
  have e2 := sumF_set Ly.water hm y
  have e3 := sumF_set D hm y
  have e4 := sumF_set C hm y
  obtain ⟨a, b, c, d, e, f, g⟩ := h
  exact ⟨by simp, mem_set_ok hok a, by omega, c, d, by omega, by omega, by omega⟩
theorem KeptAll.trans {D C : Ly → Int} {a b c : List Ly} {j r s : Int} (h : KeptAll D C a b j r) (h' : KeptAll D C b c r s) : KeptAll D C a c j s := by
  obtain ⟨a1, a2, a3, a4, a5, a6, a7, a8⟩ := h
  obtain ⟨b1, b2, b3, b4, b5, b6, b7, b8⟩ := h'
  exact ⟨by omega, b2, by omega, b4, by omega, by omega, by omega, by omega⟩
theorem heatF_kept {D C : Ly → Int} {ch : Ly → Int → Ly × Int × Bool} (hch : ∀ x j, LyOk x → 0 ≤ j → Kept D C x (ch x j).1 j (ch x j).2.1) (m : Nat) (ls : List Ly) (j : Int) (hok : ∀ x ∈ ls, LyOk x) (h0 : 0 ≤ j) :
    KeptAll D C ls (heatF ch m ls j).1 j (heatF ch m ls j).2 := by
  induction m generalizing ls j with
  | zero => exact ⟨rfl, hok, rfl, h0, Int.le_refl _, by simp [heatF], Int.le_refl _, Int.le_refl _⟩
  | succ m ih =>
    cases hx : ls[m]? with
    | none =>
      have : heatF ch (m + 1) ls j = (ls, j) := by simp [heatF, hx]
      rw [this]
      exact ⟨rfl, hok, rfl, h0, Int.le_refl _, by simp, Int.le_refl _, Int.le_refl _⟩
    | some x =>
      have hk := (hch x j (hok x (List.mem_of_getElem? hx)) h0).all hx hok
      cases hm : (ch x j).2.2
      · rw [heatF_end hx hm]; exact hk
      · rw [heatF_go hx hm]; exact hk.trans (ih _ _ hk.ok hk.low)

/-- Water that runs down through the first m layers. -/
def holdN (i v : Int) : Int := min v (i * 60 / 1000)
def drainF : Nat → List Ly → Int → List Ly × Int
  | 0, ls, v => (ls, v)
  | m + 1, ls, v =>
    match ls[m]? with
    | none => (ls, v)
    | some x => drainF m (ls.set m { x with water := holdN x.ice (x.water + v) }) (x.water + v - holdN x.ice (x.water + v))
theorem drainF_go {m : Nat} {ls : List Ly} {v : Int} {x : Ly} (h : ls[m]? = some x) :
    drainF (m + 1) ls v = drainF m (ls.set m { x with water := holdN x.ice (x.water + v) }) (x.water + v - holdN x.ice (x.water + v)) := by simp [drainF, h]
theorem holdN_bd {i v : Int} (hi : 1 ≤ i ∧ i ≤ 1000000) (hv : 0 ≤ v) : 0 ≤ holdN i v ∧ holdN i v ≤ 60000 ∧ holdN i v ≤ v ∧ 1000 * holdN i v ≤ i * 60 := by
  unfold holdN
  omega
structure Drained (ls ls' : List Ly) (v r : Int) (m : Nat) : Prop where
  len : ls'.length = ls.length
  ok : ∀ x ∈ ls', LyOk x
  ice : sumF Ly.ice ls' = sumF Ly.ice ls
  water : sumF Ly.water ls' + r = sumF Ly.water ls + v
  low : 0 ≤ r
  dry : ∀ k x, k < m → ls'[k]? = some x → 1000 * x.water ≤ x.ice * 60
  rest : ∀ k, m ≤ k → ls'[k]? = ls[k]?
theorem drainF_ok (m : Nat) (ls : List Ly) (v : Int) (hok : ∀ x ∈ ls, LyOk x) (h0 : 0 ≤ v) (hml : m ≤ ls.length) : Drained ls (drainF m ls v).1 v (drainF m ls v).2 m := by
  induction m generalizing ls v with
  | zero => exact ⟨rfl, hok, rfl, rfl, h0, fun k x hk => absurd hk (by omega), fun k _ => rfl⟩
  | succ m ih =>
    cases hx : ls[m]? with
    | none =>
      have hlen : ls.length ≤ m := by simpa using hx
      omega
    | some x =>
      have hxo := hok x (List.mem_of_getElem? hx)
      obtain ⟨b1, b2, b3, b4⟩ := holdN_bd (v := x.water + v) hxo.i (by have := hxo.v; omega)
      generalize hh : holdN x.ice (x.water + v) = q at b1 b2 b3 b4
      have hy : LyOk { x with water := q } := ⟨hxo.f, hxo.i, ⟨b1, by simp only; omega⟩, hxo.d, hxo.g, hxo.h, hxo.a⟩
      have e1 := sumF_set Ly.ice hx { x with water := q }
      have e2 := sumF_set Ly.water hx { x with water := q }
      have r := ih (ls.set m { x with water := q }) (x.water + v - q) (mem_set_ok hok hy) (by omega) (by simp; omega)
      rw [drainF_go hx, hh]
      simp only at e1 e2
      refine ⟨by rw [r.len]; simp, r.ok, by rw [r.ice, e1]; omega, by have := r.water; omega, r.low, fun k z hk hz => ?_, fun k hk => ?_⟩
      · by_cases e : k < m
        · exact r.dry k z e hz
        · obtain rfl : k = m := by omega
          have h2 := r.rest k (Nat.le_refl _)
          have hlt := (List.getElem?_eq_some_iff.1 hx).1
          rw [hz] at h2
          simp [hlt] at h2
          subst h2
          exact b4
      · rw [r.rest k (by omega), List.getElem?_set_ne (by omega)]
end Go.Proofs.Ytlfjjdglffiinaa
