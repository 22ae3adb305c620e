/-
  Numbers read from decimal, plain. No program in sight.
-/
import Derived.Test.YthkpffmcafdmeaaDoorDecM
import Derived.Lib.ParseIntBTie
import Derived.Lib.ItoaMem
namespace Go.Proofs.YthkpffmcafdmeaaDoor
set_option linter.unusedVariables false

def digP (l : List UInt8) : Prop := ∀ c ∈ l, 48 ≤ c.toNat ∧ c.toNat ≤ 57
def vlF (a : Nat) (l : List UInt8) : Nat := l.foldl (fun a c => a * 10 + (c.toNat - 48)) a
theorem head_app {l r : List UInt8} (h : l ≠ []) : (l ++ r).head? = l.head? := by
  cases l with
  | nil => exact absurd rfl h
  | cons x t => rfl
theorem vlF_nil (a : Nat) : vlF a [] = a := by simp only [vlF, List.foldl_nil]
theorem vlF_cons (a : Nat) (c : UInt8) (l : List UInt8) : vlF a (c :: l) = vlF (a * 10 + (c.toNat - 48)) l := by simp only [vlF, List.foldl_cons]
theorem vlF_app (a : Nat) (l r : List UInt8) : vlF a (l ++ r) = vlF (vlF a l) r := by simp [vlF, List.foldl_append]
theorem vlF_snoc (a : Nat) (l : List UInt8) (c : UInt8) : vlF a (l ++ [c]) = vlF a l * 10 + (c.toNat - 48) := by rw [vlF_app, vlF_cons, vlF_nil]
theorem vlF_ge (l : List UInt8) : ∀ a, a ≤ vlF a l := by
  induction l with
  | nil => intro a; exact Nat.le_refl _
  | cons c r ih => intro a; rw [vlF_cons]; have := ih (a * 10 + (c.toNat - 48)); omega
theorem vlF_lt (l : List UInt8) : digP l → ∀ a k, a < 10 ^ k → vlF a l < 10 ^ (k + l.length) := by
  induction l with
  | nil => intro _ a k h; simpa [vlF_nil] using h
  | cons c r ih =>
    intro hd a k h
    have hc := hd c (List.mem_cons_self ..)
    rw [vlF_cons, List.length_cons, show k + (r.length + 1) = (k + 1) + r.length by omega]
    refine ih (fun x hx => hd x (List.mem_cons_of_mem _ hx)) _ _ ?_
    rw [Nat.pow_succ]
    have : c.toNat - 48 ≤ 9 := by omega
    omega
/-- Digits as a number is written. -/
structure Can (l : List UInt8) : Prop where
  ne : l ≠ []
  dig : digP l
  lead : l.head? = some 48 → l.length = 1
theorem dig48 {d : Nat} (h : d < 10) : (UInt8.ofNat (48 + d)).toNat = 48 + d := by
  rw [UInt8.toNat_ofNat']; omega
theorem dec_val (u : Nat) : vlF 0 (Lib.decDigits u) = u := by
  induction u using Nat.strongRecOn with
  | ind u ih =>
    rw [Lib.decDigits]
    split
    · rename_i h
      rw [vlF_cons, vlF_nil, dig48 h]; omega
    · rename_i h
      rw [vlF_snoc, ih (u / 10) (by omega), dig48 (Nat.mod_lt _ (by omega))]
      omega
theorem dec_can (u : Nat) : Can (Lib.decDigits u) := by
  induction u using Nat.strongRecOn with
  | ind u ih =>
    rw [Lib.decDigits]
    split
    · rename_i h
      refine ⟨by simp, ?_, by simp⟩
      intro c hc
      rw [List.mem_singleton] at hc
      rw [hc, dig48 h]; omega
    · rename_i h
      have i := ih (u / 10) (by omega)
      refine ⟨by simp, ?_, ?_⟩
      · intro c hc
        rcases List.mem_append.1 hc with hc | hc
        · exact i.dig c hc
        · rw [List.mem_singleton] at hc
          rw [hc, dig48 (Nat.mod_lt _ (by omega))]
          have := Nat.mod_lt u (show 10 > 0 by omega)
          omega
      · intro hh
        rw [head_app i.ne] at hh
        have h1 := i.lead hh
        have hv := dec_val (u / 10)
        generalize Lib.decDigits (u / 10) = D at h1 hh hv
        match D, h1 with
        | [x], _ =>
          simp only [List.head?_cons, Option.some.injEq] at hh
          subst hh
          have : vlF 0 [(48 : UInt8)] = 0 := rfl
          omega
theorem can_dec (l : List UInt8) : Can l → Lib.decDigits (vlF 0 l) = l := by
  obtain ⟨n, hn⟩ : ∃ n, n = l.length := ⟨_, rfl⟩
  induction n generalizing l with
  | zero => intro h; exact absurd (List.length_eq_zero_iff.1 hn.symm) h.ne
  | succ n ih =>
    intro h
    obtain ⟨r, c, rfl⟩ : ∃ r c, l = r ++ [c] := by
      rcases List.eq_nil_or_concat l with h1 | ⟨r, c, h1⟩
      · exact absurd h1 h.ne
      · exact ⟨r, c, by simpa using h1⟩
    have hc := h.dig c (by simp)
    have hcc : UInt8.ofNat c.toNat = c := by
      apply UInt8.toNat_inj.1
      rw [UInt8.toNat_ofNat']
      have := c.toNat_lt
      omega
    rw [vlF_snoc]
    by_cases hr : r = []
    · subst hr
      rw [vlF_nil, Lib.decDigits, dif_pos (by omega)]
      have : 48 + (0 * 10 + (c.toNat - 48)) = c.toNat := by omega
      rw [this, hcc]; rfl
    · have hcr : Can r := ⟨hr, fun x hx => h.dig x (by simp [hx]), fun hh => by
        have h1 := h.lead (by rw [head_app hr]; exact hh)
        rw [List.length_append, List.length_singleton] at h1
        have : r.length = 0 := by omega
        exact absurd (List.length_eq_zero_iff.1 this) hr⟩
      have i := ih r (by simpa using hn) hcr
      have hpos : 1 ≤ vlF 0 r := by
        rcases Nat.eq_zero_or_pos (vlF 0 r) with h0 | h0
        · rw [h0, Lib.decDigits, dif_pos (by omega)] at i
          have h1 := h.lead (by rw [head_app hr, ← i]; rfl)
          rw [← i] at h1
          simp at h1
        · exact h0
      rw [Lib.decDigits, dif_neg (by omega)]
      have e1 : (vlF 0 r * 10 + (c.toNat - 48)) / 10 = vlF 0 r := by omega
      have e2 : 48 + (vlF 0 r * 10 + (c.toNat - 48)) % 10 = c.toNat := by omega
      rw [e1, e2, i, hcc]
theorem dec_len {u : Nat} : (Lib.decDigits u).length ≤ 18 ↔ u < 1000000000000000000 := by
  constructor
  · intro h
    have h1 := vlF_lt _ (dec_can u).dig 0 0 (by omega)
    rw [dec_val] at h1
    have h2 : (10 : Nat) ^ (0 + (Lib.decDigits u).length) ≤ 10 ^ 18 := Nat.pow_le_pow_right (by omega) (by omega)
    have h3 : (10 : Nat) ^ 18 = 1000000000000000000 := by decide
    omega
  · intro h
    rcases Nat.eq_zero_or_pos u with rfl | h0
    · rw [Lib.decDigits, dif_pos (by omega)]; simp
    · rw [decDigits_rev u h0, List.length_reverse]
      exact revD_len (by have h3 : (10 : Nat) ^ 18 = 1000000000000000000 := by decide
                         omega)
theorem parse_dec {M : Nat} (hM : M < 18446744073709551616) (l : List UInt8) : digP l → ∀ a, vlF a l ≤ M → Lib.parseUintM M a l = .ok (vlF a l) := by
  induction l with
  | nil => intro _ a _; rfl
  | cons c r ih =>
    intro hd a h
    have hc := hd c (List.mem_cons_self ..)
    rw [vlF_cons] at h ⊢
    have h1 := vlF_ge r (a * 10 + (c.toNat - 48))
    rw [Lib.parseUintM, if_pos hc, if_neg (by omega), if_neg (by omega)]
    exact ih (fun x hx => hd x (List.mem_cons_of_mem _ hx)) _ h
theorem itoa_cases (n : Int) : (∃ u : Nat, n = u ∧ Lib.itoa n = Lib.decDigits u) ∨ (∃ u : Nat, 0 < u ∧ n = -(u : Int) ∧ Lib.itoa n = 45 :: Lib.decDigits u) := by
  rcases Int.lt_or_le n 0 with h | h
  · right
    obtain ⟨u, rfl⟩ : ∃ u : Nat, n = -(u : Int) := ⟨(-n).toNat, by omega⟩
    exact ⟨u, by omega, rfl, Lib.itoa_neg u (by omega)⟩
  · left
    obtain ⟨u, rfl⟩ : ∃ u : Nat, n = (u : Int) := ⟨n.toNat, by omega⟩
    exact ⟨u, rfl, Lib.itoa_nonneg u⟩
theorem parse_itoa {n : Int} (h0 : -1000000000000000000 < n) (h1 : n < 1000000000000000000) : Lib.parseIntB 64 (Lib.itoa n) = .ok n := by
  rcases itoa_cases n with ⟨u, rfl, e⟩ | ⟨u, hu, rfl, e⟩
  · have hc := dec_can u
    have hv := dec_val u
    rw [e]
    generalize Lib.decDigits u = D at hc hv
    match D, hc.ne with
    | c :: r, _ =>
      have hd := hc.dig c (List.mem_cons_self ..)
      have h43 : ¬ (c.toNat = 43 ∨ c.toNat = 45) := by omega
      have h45 : ¬ c.toNat = 45 := by omega
      have hp : Lib.parseUintM (2 ^ 64 - 1) 0 (c :: r) = .ok u := by
        rw [← hv]; exact parse_dec (by decide) _ hc.dig 0 (by rw [hv]; have : (2 : Nat) ^ 64 - 1 = 18446744073709551615 := by decide
                                                              omega)
      have h63 : (2 : Nat) ^ (64 - 1) = 9223372036854775808 := by decide
      unfold Lib.parseIntB Lib.parseUintB
      simp only [if_neg h43, if_neg (show ¬ (c :: r : List UInt8) = [] by simp)]
      rw [hp]
      simp only [h63]
      rw [if_neg (by omega), if_neg (by omega), if_neg h45]
  · have hc := dec_can u
    have hv := dec_val u
    rw [e]
    have hne := hc.ne
    have hp : Lib.parseUintM (2 ^ 64 - 1) 0 (Lib.decDigits u) = .ok u := by
      conv => rhs; rw [← hv]
      exact parse_dec (by decide) _ hc.dig 0 (by rw [hv]; have : (2 : Nat) ^ 64 - 1 = 18446744073709551615 := by decide
                                                 omega)
    have h45 : (45 : UInt8).toNat = 45 := rfl
    have h63 : (2 : Nat) ^ (64 - 1) = 9223372036854775808 := by decide
    unfold Lib.parseIntB Lib.parseUintB
    simp only [if_pos (show (45 : UInt8).toNat = 43 ∨ (45 : UInt8).toNat = 45 by right; rfl), if_neg hne]
    rw [hp]
    simp only [h63]
    rw [if_neg (by omega), if_neg (by omega), if_pos h45]
/-- The number of a text in decimal of at most 18 digits. -/
def rd (l : List UInt8) : Option Int := match Lib.parseIntB 64 l with
  | .ok v => if Lib.itoa v = l ∧ -1000000000000000000 < v ∧ v < 1000000000000000000 then some v else none
  | _ => none
theorem rd_iff {l : List UInt8} {n : Int} : rd l = some n ↔ Lib.itoa n = l ∧ -1000000000000000000 < n ∧ n < 1000000000000000000 := by
  constructor
  · intro h
    unfold rd at h
    split at h
    · split at h
      · rename_i h2
        cases h
        exact h2
      · cases h
    · cases h
  · rintro ⟨rfl, h0, h1⟩
    unfold rd
    rw [parse_itoa h0 h1]
    simp [h0, h1]
theorem rd_itoa {n : Int} (h0 : -1000000000000000000 < n) (h1 : n < 1000000000000000000) : rd (Lib.itoa n) = some n := rd_iff.2 ⟨rfl, h0, h1⟩
theorem rd_bound {l : List UInt8} {n : Int} (h : rd l = some n) : -1000000000000000000 < n ∧ n < 1000000000000000000 := (rd_iff.1 h).2
theorem can_len {l : List UInt8} (h : Can l) (h18 : l.length ≤ 18) : vlF 0 l < 1000000000000000000 := by
  have := can_dec l h
  exact dec_len.1 (by rw [this]; exact h18)
theorem rd_pos {l : List UInt8} (h : Can l) (h18 : l.length ≤ 18) : rd l = some (vlF 0 l : Int) := by
  have h1 := can_len h h18
  exact rd_iff.2 ⟨by rw [Lib.itoa_nonneg, can_dec l h], by omega, by omega⟩
theorem rd_neg {l : List UInt8} (h : Can l) (h0 : l.head? ≠ some 48) (h18 : l.length ≤ 18) : rd (45 :: l) = some (-(vlF 0 l : Int)) := by
  have h1 := can_len h h18
  have h2 : 1 ≤ vlF 0 l := by
    rcases Nat.eq_zero_or_pos (vlF 0 l) with h3 | h3
    · have h4 := can_dec l h
      rw [h3, Lib.decDigits, dif_pos (by omega)] at h4
      exact absurd (by rw [← h4]; rfl) h0
    · exact h3
  exact rd_iff.2 ⟨by rw [Lib.itoa_neg _ h2, can_dec l h], by omega, by omega⟩
/-- How a text that is a number looks. -/
theorem rd_shape {l : List UInt8} {n : Int} (h : rd l = some n) : (Can l ∧ l.length ≤ 18) ∨ (∃ r, l = 45 :: r ∧ Can r ∧ r.head? ≠ some 48 ∧ r.length ≤ 18) := by
  obtain ⟨e, h0, h1⟩ := rd_iff.1 h
  rcases itoa_cases n with ⟨u, rfl, e2⟩ | ⟨u, hu, rfl, e2⟩
  · left
    rw [← e, e2]
    exact ⟨dec_can u, dec_len.2 (by omega)⟩
  · right
    refine ⟨Lib.decDigits u, by rw [← e, e2], dec_can u, fun hh => ?_, dec_len.2 (by omega)⟩
    have hl := (dec_can u).lead hh
    have hv := dec_val u
    generalize Lib.decDigits u = D at hh hl hv
    match D, hl with
    | [x], _ =>
      simp only [List.head?_cons, Option.some.injEq] at hh
      subst hh
      have : vlF 0 [(48 : UInt8)] = 0 := rfl
      omega
/-- The program's own tests, put together. -/
theorem rd_ok {l : List UInt8} {v : Int} (h : Lib.parseIntB 64 l = .ok v) : rd l = if (Lib.trimPrefix l [45]).length ≤ 18 ∧ Lib.itoa v = l then some v else none := by
  unfold rd
  rw [h]
  show (if _ then _ else _) = _
  by_cases e : Lib.itoa v = l
  · have key : (Lib.trimPrefix l [45]).length ≤ 18 ↔ (-1000000000000000000 < v ∧ v < 1000000000000000000) := by
      rcases itoa_cases v with ⟨u, rfl, e2⟩ | ⟨u, hu, rfl, e2⟩
      · have hp : Lib.trimPrefix l [45] = Lib.decDigits u := by
          rw [← e, e2]
          have hc := dec_can u
          generalize Lib.decDigits u = D at hc
          match D, hc.ne with
          | c :: r, _ =>
            have hd := hc.dig c (List.mem_cons_self ..)
            have : ¬ (45 : UInt8) = c := fun h => by subst h; have : (45 : UInt8).toNat = 45 := rfl
                                                     omega
            simp [Lib.trimPrefix, Lib.hasPrefix, List.isPrefixOf, this]
        rw [hp, dec_len]; omega
      · have hp : Lib.trimPrefix l [45] = Lib.decDigits u := by
          rw [← e, e2]; simp [Lib.trimPrefix, Lib.hasPrefix, List.isPrefixOf]
        rw [hp, dec_len]; omega
    by_cases k : (Lib.trimPrefix l [45]).length ≤ 18
    · rw [if_pos ⟨e, key.1 k⟩, if_pos ⟨k, e⟩]
    · rw [if_neg (fun h => k (key.2 h.2)), if_neg (fun h => k h.1)]
  · rw [if_neg (fun h => e h.1), if_neg (fun h => e h.2)]
theorem rd_other {l : List UInt8} (h : Lib.parseIntB 64 l = Lib.parseIntB 64 []) : rd l = none := by unfold rd; rw [h]; rfl
theorem rd_range {l : List UInt8} (h : Lib.parseIntB 64 l = .range) : rd l = none := by unfold rd; rw [h]
end Go.Proofs.YthkpffmcafdmeaaDoor
