/-
  The parts of a line of zones: plain, the reference's side, the program's side.
-/
import Derived.Test.YtbakmcjngadebaaRowsB
import Derived.Test.YtbakmcjngadebaaZoneW
import Derived.Test.YtbakmcjngadebaaZoneX
namespace Go.Proofs.Ytbakmcjngadebaa
open Go.ChangeShapes Go.WideShapes Go.ChangeAt Go.RowKit Go.Deep
set_option linter.unusedVariables false

def zAt (xs : List Int) (i : Nat) : Int := xs.getD i 0
theorem zAt_eq {xs : List Int} {i : Nat} {x : Int} (h : xs[i]? = some x) : zAt xs i = x := by simp [zAt, h]
/-- The parts that are closed after so many zones, and where the open one begins. -/
def cz (xs : List Int) : Nat → Rws × Nat
  | 0 => ([], 0)
  | k + 1 => if k = 0 then ([], 0) else if zAt xs (k - 1) = zAt xs k then cz xs k else ((cz xs k).1 ++ [[zAt xs (k - 1), ((cz xs k).2 : Int), ((k - 1 : Nat) : Int)]], k)
def partsZ (xs : List Int) (k : Nat) : Rws := if k = 0 then [] else (cz xs k).1 ++ [[zAt xs (k - 1), ((cz xs k).2 : Int), ((k - 1 : Nat) : Int)]]
theorem cz_le (xs : List Int) (k : Nat) : (cz xs k).2 ≤ k ∧ (cz xs k).1.length ≤ k := by
  induction k with
  | zero => simp [cz]
  | succ k ih =>
    unfold cz
    by_cases h0 : k = 0
    · rw [if_pos h0]; simp
    · rw [if_neg h0]
      split
      · omega
      · simp; omega
theorem cz_len (xs : List Int) (k : Nat) : k = 0 ∨ (cz xs k).1.length + 1 ≤ k := by
  induction k with
  | zero => exact .inl rfl
  | succ k ih =>
    right
    unfold cz
    by_cases h0 : k = 0
    · rw [if_pos h0]; simp
    · rw [if_neg h0]
      split
      · omega
      · simp; omega
theorem cz_same {xs : List Int} {k : Nat} (h0 : k ≠ 0) (h : zAt xs (k - 1) = zAt xs k) : cz xs (k + 1) = cz xs k := by
  conv => lhs; unfold cz
  rw [if_neg h0, if_pos h]
theorem cz_new {xs : List Int} {k : Nat} (h0 : k ≠ 0) (h : zAt xs (k - 1) ≠ zAt xs k) : cz xs (k + 1) = (partsZ xs k, k) := by
  conv => lhs; unfold cz
  rw [if_neg h0, if_neg h, partsZ, if_neg h0]
theorem partsZ_new {xs : List Int} {k : Nat} (h : k = 0 ∨ zAt xs (k - 1) ≠ zAt xs k) : partsZ xs (k + 1) = partsZ xs k ++ [[zAt xs k, (k : Int), (k : Int)]] := by
  conv => lhs; unfold partsZ
  rw [if_neg (by omega)]
  rcases h with h | h
  · subst h
    simp [cz, partsZ]
  · by_cases h0 : k = 0
    · subst h0
      simp [cz, partsZ]
    · rw [cz_new h0 h]
      simp
theorem partsZ_same {xs : List Int} {k : Nat} (h0 : k ≠ 0) (h : zAt xs (k - 1) = zAt xs k) : partsZ xs (k + 1) = (cz xs k).1 ++ [[zAt xs k, ((cz xs k).2 : Int), (k : Int)]] := by
  conv => lhs; unfold partsZ
  rw [if_neg (by omega), cz_same h0 h]
  simp
theorem partsZ_open {xs : List Int} {k : Nat} (h0 : k ≠ 0) : partsZ xs k = (cz xs k).1 ++ [[zAt xs (k - 1), ((cz xs k).2 : Int), ((k - 1 : Nat) : Int)]] := by rw [partsZ, if_neg h0]
theorem partsZ_len (xs : List Int) (k : Nat) : (partsZ xs k).length ≤ k := by
  unfold partsZ
  split
  · simp
  · have := cz_len xs k
    simp
    omega
/-- Every part has three numbers, all of them small. -/
def Small3 (rs : Rws) : Prop := ∀ r ∈ rs, r.length = 3 ∧ ∀ x ∈ r, -1 ≤ x ∧ x ≤ 64
theorem small_app {rs : Rws} {a b c : Int} (h : Small3 rs) (ha : -1 ≤ a ∧ a ≤ 64) (hb : -1 ≤ b ∧ b ≤ 64) (hc : -1 ≤ c ∧ c ≤ 64) : Small3 (rs ++ [[a, b, c]]) := by
  intro r hr
  rw [List.mem_append] at hr
  rcases hr with hr | hr
  · exact h r hr
  · simp at hr
    subst hr
    refine ⟨rfl, fun x hx => ?_⟩
    simp at hx
    rcases hx with rfl | rfl | rfl <;> assumption
theorem cz_small {xs : List Int} (hz : ∀ i, -1 ≤ zAt xs i ∧ zAt xs i ≤ 64) (k : Nat) (hk : k ≤ 64) : Small3 (cz xs k).1 := by
  induction k with
  | zero => simp [cz, Small3]
  | succ k ih =>
    have ih := ih (by omega)
    have hle := (cz_le xs k).1
    unfold cz
    by_cases h0 : k = 0
    · rw [if_pos h0]; simp [Small3]
    · rw [if_neg h0]
      split
      · exact ih
      · exact small_app ih (hz _) (by omega) (by omega)
theorem partsZ_small {xs : List Int} (hz : ∀ i, -1 ≤ zAt xs i ∧ zAt xs i ≤ 64) {k : Nat} (hk : k ≤ 64) : Small3 (partsZ xs k) := by
  unfold partsZ
  have hle := (cz_le xs k).1
  split
  · simp [Small3]
  · exact small_app (cz_small hz k hk) (hz _) (by omega) (by omega)
theorem small_tot {rs : Rws} (h : Small3 rs) (k : Nat) : totR rs k ≤ 3 * k := by
  induction k with
  | zero => simp [totR]
  | succ k ih =>
    by_cases hk : k < rs.length
    · have e : (rAt rs k).length = 3 := by
        rw [rAt, List.getD_eq_getElem?_getD, List.getElem?_eq_getElem hk]
        exact (h _ (List.getElem_mem hk)).1
      rw [totR_succ hk, e]
      omega
    · have : totR rs (k + 1) = totR rs k := by
        unfold totR
        rw [List.take_of_length_le (by omega), List.take_of_length_le (by omega)]
      omega
def zonesPK (xs : List Int) : Int := if lineB xs = true then 0 else 2
def zonesPR (xs : List Int) : Rws := if lineB xs = true then partsZ xs xs.length else []
theorem zAt_bd {xs : List Int} (h : lineB xs = true) (i : Nat) : -1 ≤ zAt xs i ∧ zAt xs i ≤ 64 := by
  unfold lineB at h
  simp only [Bool.and_eq_true, decide_eq_true_eq] at h
  cases hx : xs[i]? with
  | none => simp [zAt, hx]
  | some x =>
    rw [zAt_eq hx]
    have := allB_iff.1 h.1 i x hx
    omega
theorem line64 {xs : List Int} (h : lineB xs = true) : xs.length ≤ 64 := by
  unfold lineB at h
  simp only [Bool.and_eq_true, decide_eq_true_eq] at h
  exact h.2
theorem zonesPR_ok (xs : List Int) : Small3 (zonesPR xs) ∧ (zonesPR xs).length ≤ 64 := by
  unfold zonesPR
  split
  · rename_i h
    have := partsZ_len xs xs.length
    have h64 := line64 h
    exact ⟨partsZ_small (zAt_bd h) h64, by omega⟩
  · simp [Small3]
/-- The last row's last number is written over. -/
theorem RowsB.setLast {lo : Nat} {w : World} {o : Value} {j : Nat} {rs : Rws} {a b c : Int} (h : RowsB lo w o (j + 1) (rs ++ [[a, b, c]])) :
    ∃ g cap q d, o = .slice (some ⟨g, 0, none⟩) (j + 1) cap ∧ w.cell? ⟨g, j, none⟩ = some (.slice (some ⟨q, 0, none⟩) 3 d) ∧ w.cell? ⟨q, 2, none⟩ = some (.int .i64 c) ∧ w.frozen? ⟨q, 2, none⟩ = false ∧ lo ≤ q ∧
      ∀ v : Int, RowsB lo (w.setCell ⟨q, 2, none⟩ (.int .i64 v)) o (j + 1) (rs ++ [[a, b, v]]) := by
  obtain ⟨cs, f, d, h1, h2, h3⟩ := h
  have hl : rs.length = j := by simpa using h2
  have hlast := h3 j (by omega)
  have er : rAt (rs ++ [[a, b, c]]) j = [a, b, c] := by rw [← hl]; exact rAt_last
  rw [er] at hlast
  obtain ⟨l1, l2, l3⟩ := hlast
  obtain ⟨fr, k1, k2, k3, k4, hrow, hcells⟩ := own_to_rowIs l3
  rw [Nat.mul_one] at hrow
  have k2' : 3 ≤ d j := k2
  have hc2 := hrow.cell (i := 2) (by omega)
  have e2 := hcells 2 (by simp)
  simp at e2
  rw [← e2] at hc2
  rcases h1.2 with ⟨hv, h00⟩ | ⟨g, cap, cur, hv, hb, hg, hnc, hcm, hs, ht⟩
  · omega
  · refine ⟨g, cap, f j, d j, hv, ?_, hc2, hrow.frozen 2, k1, fun v => ?_⟩
    · rw [cell_of_row w g j cur 22 (0, 0) hg]
      have e1 : (cur.toList.take ((j + 1) * 1))[j]? = some (.slice (some ⟨f j, 0, none⟩) 3 (d j)) := by rw [ht]; exact l1
      rw [List.getElem?_take, if_pos (by omega)] at e1
      simpa using e1
    · have hne : o.ownBlock ≠ some (f j) := own_ne h1 l3 (by decide)
      have hgne : g ≠ f j := by
        intro e
        rw [hv] at hne
        simp [Value.ownBlock] at hne
        exact hne e
      refine ⟨cs, f, d, by rw [hv] at h1 ⊢; exact own_setCell h1 (by show f j ≠ g; omega) _, by simp [hl], fun i hi => ?_⟩
      obtain ⟨b1, b2, b3⟩ := h3 i hi
      by_cases e : i = j
      · subst e
        have er' : rAt (rs ++ [[a, b, v]]) i = [a, b, v] := by rw [← hl]; exact rAt_last
        rw [er']
        refine ⟨l1, b2, rowIs_to_own (by rw [Nat.mul_one]; exact hrow.set 2 (.int .i64 v)) k1 k2' k3 rfl (fun t ht => ?_)⟩
        have ht' : t = 0 ∨ t = 1 ∨ t = 2 := by simp at ht; omega
        have hh := hcells t (by simpa using ht)
        rcases ht' with rfl | rfl | rfl
        · simp at hh ⊢; exact hh
        · simp at hh ⊢; exact hh
        · simp
      · have hlt : i < rs.length := by omega
        rw [rAt_lt hlt] at b1 b3 ⊢
        exact ⟨b1, b2, own_setCell b3 (by show f j ≠ f i; exact fun e' => l2 i (by omega) e'.symm) _⟩
end Go.Proofs.Ytbakmcjngadebaa
