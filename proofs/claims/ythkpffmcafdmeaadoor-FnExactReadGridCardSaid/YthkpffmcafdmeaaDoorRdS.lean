/-
  Numbers read: the reference's.
-/
import Derived.Test.YthkpffmcafdmeaaDoorDecI
import Derived.Test.YthkpffmcafdmeaaDoorTxtB
import Derived.Test.YthkpffmcafdmeaaDoorRdI
namespace Go.Proofs.YthkpffmcafdmeaaDoor
open Go.ChangeShapes Go.WideShapes Go.ChangeAt Go.RowKit Go.Deep
set_option linter.unusedVariables false

theorem rd_no {l : List UInt8} (h1 : ¬ (Can l ∧ l.length ≤ 18)) (h2 : ∀ r, l = 45 :: r → Can r → r.head? ≠ some 48 → r.length ≤ 18 → False) : rd l = none := by
  cases h : rd l with
  | none => rfl
  | some n =>
    rcases rd_shape h with h3 | ⟨r, e, h3, h4, h5⟩
    · exact absurd h3 h1
    · exact absurd (h2 r e h3 h4 h5) id
theorem not_can45 (r : List UInt8) : ¬ Can (45 :: r) := fun h => by
  have := h.dig 45 (List.mem_cons_self ..)
  have e : (45 : UInt8).toNat = 45 := rfl
  omega
/-- Behind a minus. -/
theorem neg_facts {r : List UInt8} (hne : r ≠ []) (h18 : r.length ≤ 18) (h48 : r.head? ≠ some 48) : (digP r → rd (45 :: r) = some (-(vlF 0 r : Int))) ∧ (¬ digP r → rd (45 :: r) = none) := by
  refine ⟨fun hd => rd_neg ⟨hne, hd, fun h => absurd h h48⟩ h48 h18, fun hd => rd_no (fun h => not_can45 r h.1) ?_⟩
  intro r' e hc _ _
  injection e with _ e
  subst e
  exact hd hc.dig
theorem neg_none {r : List UInt8} (h : r = [] ∨ 18 < r.length ∨ r.head? = some 48) : rd (45 :: r) = none := by
  refine rd_no (fun h => not_can45 r h.1) ?_
  intro r' e hc h1 h2
  injection e with _ e
  subst e
  rcases h with h | h | h
  · exact hc.ne h
  · omega
  · exact h1 h
theorem pos_facts {l : List UInt8} (hne : l ≠ []) (h45 : l.head? ≠ some 45) (h18 : l.length ≤ 18) (h48 : l.head? = some 48 → l.length = 1) : (digP l → rd l = some (vlF 0 l : Int)) ∧ (¬ digP l → rd l = none) := by
  refine ⟨fun hd => rd_pos ⟨hne, hd, h48⟩ h18, fun hd => rd_no (fun h => hd h.1.dig) ?_⟩
  intro r' e _ _ _
  subst e
  exact h45 rfl
theorem pos_none {l : List UInt8} (h45 : l.head? ≠ some 45) (h : l = [] ∨ 18 < l.length ∨ (l.head? = some 48 ∧ 1 < l.length)) : rd l = none := by
  refine rd_no (fun hc => ?_) (fun r' e _ _ _ => by subst e; exact h45 rfl)
  rcases h with h | h | ⟨h, h'⟩
  · exact hc.1.ne h
  · omega
  · have := hc.1.lead h; omega
theorem head_get {s : ByteArray} (h : 0 < s.size) : s.data.toList.head? = some s[0] := by
  rw [List.head?_eq_getElem?, List.getElem?_eq_getElem (by simpa using h)]; rfl
theorem drop_get {s : ByteArray} (h : 1 < s.size) : (s.data.toList.drop 1).head? = some s[1] := by
  rw [List.head?_drop, List.getElem?_eq_getElem (by simpa using h)]; rfl
theorem u8_eq {c d : UInt8} (h : c.toNat = d.toNat) : c = d := UInt8.toNat_inj.1 h
def dgb (c : UInt8) : Bool := decide (48 ≤ c.toNat) && decide (c.toNat ≤ 57)
theorem dgb_iff {c : UInt8} : dgb c = true ↔ 48 ≤ c.toNat ∧ c.toNat ≤ 57 := by simp [dgb]
theorem l01Digit_s (c : UInt8) (b : Bool) (w : World) (hb : dgb c = b) :
    Calls Tryd.prog 135 #[.int .u8 (c.toNat : Int)] w fun e w' => e = .returned (.bool b) ∧ w = w' := by
  subst hb
  have hlt := c.toNat_lt
  by_cases h1 : 48 ≤ c.toNat
  · by_cases h2 : c.toNat ≤ 57
    · have e : dgb c = true := dgb_iff.2 ⟨h1, h2⟩
      have h3 : (48 : Int) ≤ (c.toNat : Int) := by omega
      have h4 : (c.toNat : Int) ≤ 57 := by omega
      rw [e]
      go_enter Tryd.func135, Tryd.ntmps135
      go_wp2
      go_ret
      exact ⟨by first | rfl | simp, rfl⟩
    · have e : dgb c = false := by simp [dgb]; omega
      have h3 : (48 : Int) ≤ (c.toNat : Int) := by omega
      have h4 : ¬ (c.toNat : Int) ≤ 57 := by omega
      have h5 : decide ((c.toNat : Int) ≤ 57) = false := by simp; omega
      have h6 : decide (c.toNat ≤ 57) = false := by simpa using h2
      rw [e]
      go_enter Tryd.func135, Tryd.ntmps135
      go_wp2
      go_ret
      exact ⟨by first | rfl | (simp; omega), rfl⟩
  · have e : dgb c = false := by simp [dgb]; omega
    have h4 : ¬ (48 : Int) ≤ (c.toNat : Int) := by omega
    have h5 : decide ((48 : Int) ≤ (c.toNat : Int)) = false := by simp; omega
    have h6 : decide (48 ≤ c.toNat) = false := by simpa using h1
    rw [e]
    go_enter Tryd.func135, Tryd.ntmps135
    go_wp2
    go_ret
    exact ⟨by first | rfl | (simp; omega), rfl⟩
theorem take_dig {l : List UInt8} {k : Nat} {c : UInt8} (h : l[k]? = some c) (hd : digP (l.take k)) (hc : dgb c = true) : digP (l.take (k + 1)) := by
  rw [List.take_add_one, h]
  intro x hx
  rcases List.mem_append.1 hx with hx | hx
  · exact hd x hx
  · simp at hx; subst hx; exact dgb_iff.1 hc
theorem take_val {l : List UInt8} {k : Nat} {c : UInt8} (h : l[k]? = some c) : vlF 0 (l.take (k + 1)) = vlF 0 (l.take k) * 10 + (c.toNat - 48) := by
  rw [List.take_add_one, h]; exact vlF_snoc _ _ _
theorem not_dig {l : List UInt8} {k : Nat} {c : UInt8} (h : l[k]? = some c) (hc : dgb c = false) : ¬ digP l := fun hd => by
  rw [dgb_iff.2 (hd c (List.mem_of_getElem? h))] at hc; cases hc
theorem val_bd {l : List UInt8} (hd : digP l) (h : l.length ≤ 18) : vlF 0 l < 1000000000000000000 := by
  have h1 := vlF_lt l hd 0 0 (by omega)
  have h2 : (10 : Nat) ^ (0 + l.length) ≤ 10 ^ 18 := Nat.pow_le_pow_right (by omega) (by omega)
  have h3 : (10 : Nat) ^ 18 = 1000000000000000000 := by decide
  omega
theorem val_bd17 {l : List UInt8} (hd : digP l) (h : l.length ≤ 17) : vlF 0 l < 100000000000000000 := by
  have h1 := vlF_lt l hd 0 0 (by omega)
  have h2 : (10 : Nat) ^ (0 + l.length) ≤ 10 ^ 17 := Nat.pow_le_pow_right (by omega) (by omega)
  have h3 : (10 : Nat) ^ 17 = 100000000000000000 := by decide
  omega
set_option maxRecDepth 100000 in
set_option maxHeartbeats 6400000 in
theorem l01Number_s (s : ByteArray) (w : World) (hs : s.size ≤ 1000000000) :
    Calls Tryd.prog 115 #[.string s] w fun e w' => e = .returned (.tuple #[.int .i64 (rdV s.data.toList), .bool (rdB s.data.toList)]) ∧ w = w' := by
  obtain ⟨l, hl⟩ : ∃ l, l = s.data.toList := ⟨_, rfl⟩
  have hll : l.length = s.size := by rw [hl, Lib.size_eq]
  rw [← hl]
  have HL := Lib.hid (And.intro hl hll)
  by_cases h0 : 0 < s.size
  rotate_left
  · obtain ⟨r1, r2⟩ := rdV_none (show rd l = none by
      have : l = [] := List.length_eq_zero_iff.1 (by omega)
      rw [this]; rfl)
    rw [r1, r2]
    have hz : s.size = 0 := by omega
    clear r1 r2 hl hll h0 hs
    go_enter Tryd.func115, Tryd.ntmps115
    go_wp2
    go_ret2
    exact ⟨rfl, rfl⟩
  have hhd := head_get h0
  rw [← hl] at hhd
  have h0i : (0 : Int) < (s.size : Int) := by omega
  have hb0 := (s[0]).toNat_lt
  clear hl
  by_cases h45 : (s[0]).toNat = 45
  · have hcons : l = 45 :: l.drop 1 := by
      match l, hhd with
      | c :: r, hhd =>
        simp only [List.head?_cons, Option.some.injEq] at hhd
        rw [show c = 45 from u8_eq (by rw [hhd, h45]; rfl)]; rfl
    have hrl : (l.drop 1).length = s.size - 1 := by rw [List.length_drop, hll]
    have h45i : ((s[0]).toNat : Int) = 45 := by omega
    have HC := Lib.hid hcons
    by_cases h1 : s.size = 1
    · obtain ⟨r1, r2⟩ := rdV_none (show rd l = none by rw [hcons]; exact neg_none (.inl (List.length_eq_zero_iff.1 (by omega))))
      rw [r1, r2]
      have h1i : (s.size : Int) = 1 := by omega
      clear r1 r2 hhd hll hcons hrl h1
      go_enter Tryd.func115, Tryd.ntmps115
      go_wp2
      go_ret2
      exact ⟨rfl, rfl⟩
    have hn1 : ((s.size : Int) == 1) = false := by rw [beq_eq_false_iff_ne]; omega
    have hn1' : (s.size == 1) = false := by rw [beq_eq_false_iff_ne]; omega
    have hg1 : 1 < s.size := by omega
    by_cases h19 : 18 < s.size - 1
    · obtain ⟨r1, r2⟩ := rdV_none (show rd l = none by rw [hcons]; exact neg_none (.inr (.inl (by omega))))
      rw [r1, r2]
      have h19i : (18 : Int) < (s.size : Int) - 1 := by omega
      clear r1 r2 hhd hll hcons hrl h1
      go_enter Tryd.func115, Tryd.ntmps115
      go_wp2
      go_ret2
      exact ⟨rfl, rfl⟩
    have h19i : ¬ (18 : Int) < (s.size : Int) - 1 := by omega
    have hd1 := drop_get hg1
    rw [← HL.out.1] at hd1
    have hb1 := (s[1]).toNat_lt
    by_cases h48 : (s[1]).toNat = 48
    · obtain ⟨r1, r2⟩ := rdV_none (show rd l = none by rw [hcons]; exact neg_none (.inr (.inr (by rw [hd1, show s[1] = (48 : UInt8) from u8_eq (by rw [h48]; rfl)]))))
      rw [r1, r2]
      have h48i : ((s[1]).toNat : Int) = 48 := by omega
      have hg1i : (1 : Int) < (s.size : Int) := by omega
      clear r1 r2 hhd hll hcons hrl h1 hd1
      go_enter Tryd.func115, Tryd.ntmps115
      go_wp2
      go_ret2
      exact ⟨rfl, rfl⟩
    have h48b : (((s[1]).toNat : Int) == 48) = false := by rw [beq_eq_false_iff_ne]; omega
    have h48c : ((s[1]).toNat == 48) = false := by rw [beq_eq_false_iff_ne]; exact h48
    have h48d : decide (((s[1]).toNat : Int) = 48) = false := by simp; omega
    have HF0 := neg_facts (r := l.drop 1) (by intro e; rw [e] at hrl; simp at hrl; omega) (by omega) (by rw [hd1]; intro e; injection e with e; rw [e] at h48; exact h48 rfl)
    rw [← hcons] at HF0
    have HF := Lib.hid HF0
    have HR := Lib.hid (show (l.drop 1).length = s.size - 1 ∧ s.size ≤ 19 from ⟨hrl, by omega⟩)
    clear hhd hll hcons hrl h1 hd1 HF0
    go_enter Tryd.func115, Tryd.ntmps115
    go_wp2_with fail
    go_loop [5, 6] (fun nv iv => ∃ k : Nat, 1 ≤ k ∧ k ≤ s.size ∧ iv = .int .i64 k ∧ nv = .int .i64 (vlF 0 ((l.drop 1).take (k - 1)) : Nat) ∧ Hid (digP ((l.drop 1).take (k - 1)))) (fun _ iv => s.size - (intOf iv).toNat)
    case atStart => exact ⟨1, Nat.le_refl _, by omega, rfl, by rfl, by intro x hx; simp at hx⟩
    case round =>
      obtain ⟨k, hka, hk, rfl, rfl, HD⟩ := hrel
      by_cases hlt : k < s.size
      · have hki : (k : Int) < (s.size : Int) := by omega
        have hget : (l.drop 1)[(k - 1)]? = some s[k] := by
          have h1 : s.data.toList[k]? = some s[k] := by rw [List.getElem?_eq_getElem (by simpa using hlt)]; rfl
          rw [List.getElem?_drop, show 1 + (k - 1) = k by omega, HL.out.1]; exact h1
        have hlen : ((l.drop 1).take (k - 1)).length ≤ 17 := by
          have h1 := List.length_take_le (k - 1) (l.drop 1)
          have h2 := HR.out
          omega
        have hV := val_bd17 HD.out hlen
        have hbk := (s[k]).toNat_lt
        cases hdg : dgb s[k]
        · have HN := Lib.hid (HF.out.2 (not_dig hget hdg))
          have HG := Lib.hid hdg
          clear hget hlen hdg
          go_wp2_with (go_at_call 135; refine (l01Digit_s _ _ _ HG.out).mono ?_; rintro e w' ⟨rfl, rfl⟩)
          go_ret2
          exact ⟨ret_ib (rdV_none HN.out).1.symm (rdV_none HN.out).2.symm, rfl⟩
        · obtain ⟨d1, d2⟩ := dgb_iff.1 hdg
          have HD2 := Lib.hid (show digP ((l.drop 1).take ((k - 1) + 1)) from take_dig hget HD.out hdg)
          have HV2 := Lib.hid (show vlF 0 ((l.drop 1).take ((k - 1) + 1)) = vlF 0 ((l.drop 1).take (k - 1)) * 10 + ((s[k]).toNat - 48) from take_val hget)
          have HG := Lib.hid hdg
          have d3 : (48 : Int) ≤ ((s[k]).toNat : Int) := by omega
          have d4 : ((s[k]).toNat : Int) ≤ 57 := by omega
          obtain ⟨V, hVV⟩ : ∃ V, V = vlF 0 ((l.drop 1).take (k - 1)) := ⟨_, rfl⟩
          rw [← hVV] at hV HV2 ⊢
          clear hget hlen hdg hVV
          go_wp2_with (go_at_call 135; refine (l01Digit_s _ _ _ HG.out).mono ?_; rintro e w' ⟨rfl, rfl⟩)
          go_round
          case rel => exact ⟨k + 1, by omega, by omega, by go_num, by rw [show k + 1 - 1 = k - 1 + 1 by omega, HV2.out]; congr 1; omega, by rw [show k + 1 - 1 = k - 1 + 1 by omega]; exact HD2.out⟩
          case measure => simp [intOf]; omega
      · have hke : k = s.size := by omega
        have hall : (l.drop 1).take (k - 1) = l.drop 1 := List.take_of_length_le (by have h2 := HR.out; omega)
        have HS := Lib.hid (HF.out.1 (by have := HD.out; rwa [hall] at this))
        have hV := val_bd (l := l.drop 1) (by have := HD.out; rwa [hall] at this) (by have h2 := HR.out; omega)
        rw [hall]
        obtain ⟨V, hVV⟩ : ∃ V, V = vlF 0 (l.drop 1) := ⟨_, rfl⟩
        rw [← hVV] at HS hV ⊢
        clear hVV hall
        go_wp2_with fail
        go_ret2
        exact ⟨ret_ib (rdV_some HS.out).1.symm (rdV_some HS.out).2.symm, rfl⟩
  · have h45b : (((s[0]).toNat : Int) == 45) = false := by rw [beq_eq_false_iff_ne]; omega
    have h45c : ((s[0]).toNat == 45) = false := by rw [beq_eq_false_iff_ne]; exact h45
    have h45d : decide (((s[0]).toNat : Int) = 45) = false := by simp; omega
    have hh45 : l.head? ≠ some 45 := by rw [hhd]; intro e; injection e with e; rw [e] at h45; exact h45 rfl
    have hnz : ((s.size : Int) == 0) = false := by rw [beq_eq_false_iff_ne]; omega
    have hnz' : (s.size == 0) = false := by rw [beq_eq_false_iff_ne]; omega
    by_cases h19 : 18 < s.size
    · obtain ⟨r1, r2⟩ := rdV_none (pos_none hh45 (.inr (.inl (by omega))))
      rw [r1, r2]
      have h19i : (18 : Int) < (s.size : Int) := by omega
      clear r1 r2 hhd hll hh45
      go_enter Tryd.func115, Tryd.ntmps115
      go_wp2
      go_ret2
      exact ⟨rfl, rfl⟩
    have h19i : ¬ (18 : Int) < (s.size : Int) := by omega
    have h19d : decide (18 < s.size) = false := by simpa using h19
    by_cases h48 : (s[0]).toNat = 48 ∧ 1 < s.size
    · obtain ⟨r1, r2⟩ := rdV_none (pos_none hh45 (.inr (.inr ⟨by rw [hhd, show s[0] = (48 : UInt8) from u8_eq (by rw [h48.1]; rfl)], by omega⟩)))
      rw [r1, r2]
      have h48i : ((s[0]).toNat : Int) = 48 := by omega
      have hg1i : (1 : Int) < (s.size : Int) := by omega
      clear r1 r2 hhd hll hh45 h48
      go_enter Tryd.func115, Tryd.ntmps115
      go_wp2
      go_ret2
      exact ⟨rfl, rfl⟩
    have HF := Lib.hid (pos_facts (l := l) (by intro e; rw [e] at hll; simp at hll; omega) hh45 (by omega) (by
      intro e
      rw [hhd] at e
      injection e with e
      rw [e] at h48
      have h49 : (48 : UInt8).toNat = 48 := rfl
      omega))
    have HR := Lib.hid (show l.length = s.size ∧ s.size ≤ 18 from ⟨hll, by omega⟩)
    by_cases h49 : (s[0]).toNat = 48
    · have h50 : ¬ 1 < s.size := fun h => h48 ⟨h49, h⟩
      have h50i : ¬ (1 : Int) < (s.size : Int) := by omega
      have h50d : decide (1 < s.size) = false := by simpa using h50
      have h49i : ((s[0]).toNat : Int) = 48 := by omega
      clear hhd hll hh45 h48 h49
      go_enter Tryd.func115, Tryd.ntmps115
      go_wp2_with fail
      go_loop [5, 6] (fun nv iv => ∃ k : Nat, 0 ≤ k ∧ k ≤ s.size ∧ iv = .int .i64 k ∧ nv = .int .i64 (vlF 0 ((l).take k) : Nat) ∧ Hid (digP ((l).take k))) (fun _ iv => s.size - (intOf iv).toNat)
      case atStart => exact ⟨0, Nat.le_refl _, by omega, rfl, by rfl, by intro x hx; simp at hx⟩
      case round =>
        obtain ⟨k, hka, hk, rfl, rfl, HD⟩ := hrel
        by_cases hlt : k < s.size
        · have hki : (k : Int) < (s.size : Int) := by omega
          have hget : (l)[k]? = some s[k] := by
            have h1 : s.data.toList[k]? = some s[k] := by rw [List.getElem?_eq_getElem (by simpa using hlt)]; rfl
            rw [HL.out.1]; exact h1
          have hlen : ((l).take k).length ≤ 17 := by
            have h1 := List.length_take_le k (l)
            have h2 := HR.out
            omega
          have hV := val_bd17 HD.out hlen
          have hbk := (s[k]).toNat_lt
          cases hdg : dgb s[k]
          · have HN := Lib.hid (HF.out.2 (not_dig hget hdg))
            have HG := Lib.hid hdg
            clear hget hlen hdg
            go_wp2_with (go_at_call 135; refine (l01Digit_s _ _ _ HG.out).mono ?_; rintro e w' ⟨rfl, rfl⟩)
            go_ret2
            exact ⟨ret_ib (rdV_none HN.out).1.symm (rdV_none HN.out).2.symm, rfl⟩
          · obtain ⟨d1, d2⟩ := dgb_iff.1 hdg
            have HD2 := Lib.hid (show digP ((l).take (k + 1)) from take_dig hget HD.out hdg)
            have HV2 := Lib.hid (show vlF 0 ((l).take (k + 1)) = vlF 0 ((l).take k) * 10 + ((s[k]).toNat - 48) from take_val hget)
            have HG := Lib.hid hdg
            have d3 : (48 : Int) ≤ ((s[k]).toNat : Int) := by omega
            have d4 : ((s[k]).toNat : Int) ≤ 57 := by omega
            obtain ⟨V, hVV⟩ : ∃ V, V = vlF 0 ((l).take k) := ⟨_, rfl⟩
            rw [← hVV] at hV HV2 ⊢
            clear hget hlen hdg hVV
            go_wp2_with (go_at_call 135; refine (l01Digit_s _ _ _ HG.out).mono ?_; rintro e w' ⟨rfl, rfl⟩)
            go_round
            case rel => exact ⟨k + 1, by omega, by omega, by go_num, by rw [show k + 1 = k + 1 by omega, HV2.out]; congr 1; omega, by rw [show k + 1 = k + 1 by omega]; exact HD2.out⟩
            case measure => simp [intOf]; omega
        · have hke : k = s.size := by omega
          have hall : (l).take k = l := List.take_of_length_le (by have h2 := HR.out; omega)
          have HS := Lib.hid (HF.out.1 (by have := HD.out; rwa [hall] at this))
          have hV := val_bd (l := l) (by have := HD.out; rwa [hall] at this) (by have h2 := HR.out; omega)
          rw [hall]
          obtain ⟨V, hVV⟩ : ∃ V, V = vlF 0 (l) := ⟨_, rfl⟩
          rw [← hVV] at HS hV ⊢
          clear hVV hall
          go_wp2_with fail
          go_ret2
          exact ⟨ret_ib (rdV_some HS.out).1.symm (rdV_some HS.out).2.symm, rfl⟩
    · have h49b : (((s[0]).toNat : Int) == 48) = false := by rw [beq_eq_false_iff_ne]; omega
      have h49c : ((s[0]).toNat == 48) = false := by rw [beq_eq_false_iff_ne]; exact h49
      have h49d : decide (((s[0]).toNat : Int) = 48) = false := by simp; omega
      clear hhd hll hh45 h48
      go_enter Tryd.func115, Tryd.ntmps115
      go_wp2_with fail
      go_loop [5, 6] (fun nv iv => ∃ k : Nat, 0 ≤ k ∧ k ≤ s.size ∧ iv = .int .i64 k ∧ nv = .int .i64 (vlF 0 ((l).take k) : Nat) ∧ Hid (digP ((l).take k))) (fun _ iv => s.size - (intOf iv).toNat)
      case atStart => exact ⟨0, Nat.le_refl _, by omega, rfl, by rfl, by intro x hx; simp at hx⟩
      case round =>
        obtain ⟨k, hka, hk, rfl, rfl, HD⟩ := hrel
        by_cases hlt : k < s.size
        · have hki : (k : Int) < (s.size : Int) := by omega
          have hget : (l)[k]? = some s[k] := by
            have h1 : s.data.toList[k]? = some s[k] := by rw [List.getElem?_eq_getElem (by simpa using hlt)]; rfl
            rw [HL.out.1]; exact h1
          have hlen : ((l).take k).length ≤ 17 := by
            have h1 := List.length_take_le k (l)
            have h2 := HR.out
            omega
          have hV := val_bd17 HD.out hlen
          have hbk := (s[k]).toNat_lt
          cases hdg : dgb s[k]
          · have HN := Lib.hid (HF.out.2 (not_dig hget hdg))
            have HG := Lib.hid hdg
            clear hget hlen hdg
            go_wp2_with (go_at_call 135; refine (l01Digit_s _ _ _ HG.out).mono ?_; rintro e w' ⟨rfl, rfl⟩)
            go_ret2
            exact ⟨ret_ib (rdV_none HN.out).1.symm (rdV_none HN.out).2.symm, rfl⟩
          · obtain ⟨d1, d2⟩ := dgb_iff.1 hdg
            have HD2 := Lib.hid (show digP ((l).take (k + 1)) from take_dig hget HD.out hdg)
            have HV2 := Lib.hid (show vlF 0 ((l).take (k + 1)) = vlF 0 ((l).take k) * 10 + ((s[k]).toNat - 48) from take_val hget)
            have HG := Lib.hid hdg
            have d3 : (48 : Int) ≤ ((s[k]).toNat : Int) := by omega
            have d4 : ((s[k]).toNat : Int) ≤ 57 := by omega
            obtain ⟨V, hVV⟩ : ∃ V, V = vlF 0 ((l).take k) := ⟨_, rfl⟩
            rw [← hVV] at hV HV2 ⊢
            clear hget hlen hdg hVV
            go_wp2_with (go_at_call 135; refine (l01Digit_s _ _ _ HG.out).mono ?_; rintro e w' ⟨rfl, rfl⟩)
            go_round
            case rel => exact ⟨k + 1, by omega, by omega, by go_num, by rw [show k + 1 = k + 1 by omega, HV2.out]; congr 1; omega, by rw [show k + 1 = k + 1 by omega]; exact HD2.out⟩
            case measure => simp [intOf]; omega
        · have hke : k = s.size := by omega
          have hall : (l).take k = l := List.take_of_length_le (by have h2 := HR.out; omega)
          have HS := Lib.hid (HF.out.1 (by have := HD.out; rwa [hall] at this))
          have hV := val_bd (l := l) (by have := HD.out; rwa [hall] at this) (by have h2 := HR.out; omega)
          rw [hall]
          obtain ⟨V, hVV⟩ : ∃ V, V = vlF 0 (l) := ⟨_, rfl⟩
          rw [← hVV] at HS hV ⊢
          clear hVV hall
          go_wp2_with fail
          go_ret2
          exact ⟨ret_ib (rdV_some HS.out).1.symm (rdV_some HS.out).2.symm, rfl⟩
end Go.Proofs.YthkpffmcafdmeaaDoor
