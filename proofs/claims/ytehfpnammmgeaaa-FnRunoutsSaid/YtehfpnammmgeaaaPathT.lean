/-
  The least tangent whose stop lies within a distance.
-/
import Derived.Test.YtehfpnammmgeaaaPathF
namespace Go.Proofs.Ytehfpnammmgeaaa
open Go.ChangeShapes Go.WideShapes Go.ChangeAt Go.RowKit Go.Deep
set_option linter.unusedVariables false

theorem firstI_cases (p : Int → Bool) (lo hi : Int) : (∃ m, lo ≤ m ∧ m ≤ hi ∧ p m = true ∧ (∀ x, lo ≤ x → x < m → p x = false) ∧ firstI p lo hi = m) ∨ (firstI p lo hi = -1 ∧ ∀ x, lo ≤ x → x ≤ hi → p x = false) := by
  cases e : (List.range (hi + 1 - lo).toNat).find? (fun j : Nat => p (lo + (j : Int))) with
  | none =>
    refine .inr ⟨by unfold firstI; rw [e], fun x h1 h2 => ?_⟩
    rw [List.find?_eq_none] at e
    have := e (x - lo).toNat (by rw [List.mem_range]; omega)
    rw [show lo + (((x - lo).toNat : Nat) : Int) = x by omega] at this
    simpa using this
  | some j =>
    have e0 := e
    rw [List.find?_range_eq_some] at e
    obtain ⟨e1, e2, e3⟩ := e
    rw [List.mem_range] at e2
    refine .inl ⟨lo + (j : Int), by omega, by omega, e1, fun x h1 h2 => ?_, by unfold firstI; rw [e0]⟩
    have := e3 (x - lo).toNat (by omega)
    rw [show lo + (((x - lo).toNat : Nat) : Int) = x by omega] at this
    simpa using this
def tanP (ps : Pth) (d t : Int) : Bool := decide (0 ≤ stopV ps t ∧ stopV ps t ≤ d)
theorem tanP_iff {ps : Pth} {d t : Int} (hd : d ≤ lastD ps) : tanP ps d t = true ↔ ∃ x, 1 ≤ x ∧ x ≤ d ∧ stopP ps t x = true := by
  unfold tanP stopV
  rcases firstI_cases (stopP ps t) 1 (lastD ps) with ⟨m, h1, h2, h3, h4, h5⟩ | ⟨h1, h2⟩
  · rw [h5, decide_eq_true_iff]
    constructor
    · rintro ⟨a, b⟩
      exact ⟨m, h1, b, h3⟩
    · rintro ⟨x, a, b, c⟩
      refine ⟨by omega, ?_⟩
      rcases Int.lt_or_le x m with h | h
      · rw [h4 x a h] at c; cases c
      · omega
  · rw [h1, decide_eq_true_iff]
    constructor
    · rintro ⟨a, b⟩; omega
    · rintro ⟨x, a, b, c⟩
      rw [h2 x a (by omega)] at c; cases c
theorem stopP_mono {ps : Pth} {t s x : Int} (hx : 1 ≤ x) (h : t ≤ s) (hp : stopP ps t x = true) : stopP ps s x = true := by
  unfold stopP aboveV lineV at *
  rw [decide_eq_true_iff] at *
  have : t * x ≤ s * x := Int.mul_le_mul_of_nonneg_right h (by omega)
  omega
theorem tanP_mono {ps : Pth} {d t s : Int} (hd : d ≤ lastD ps) (h : t ≤ s) (hp : tanP ps d s = false) : tanP ps d t = false := by
  cases e : tanP ps d t
  · rfl
  · obtain ⟨x, h1, h2, h3⟩ := (tanP_iff hd).1 e
    have := (tanP_iff hd).2 ⟨x, h1, h2, stopP_mono h1 h h3⟩
    rw [this] at hp; cases hp
def tfV (ps : Pth) (d : Int) : Int := firstI (tanP ps d) 1 3000
def tfA (ps : Pth) (d : Int) : Int := if codeP ps 1 d = 0 then (if tfV ps d < 0 then 0 else tfV ps d) else 0
def tfC (ps : Pth) (d : Int) : Int := if codeP ps 1 d = 0 then (if tfV ps d < 0 then 3 else 0) else codeP ps 1 d
theorem in1 : inB 1 1 3000 = true := inB_iff.2 ⟨by omega, by omega⟩
set_option maxRecDepth 100000 in
set_option maxHeartbeats 3200000 in
theorem TangentFor_s (A : Option Addr) (n c : Nat) (d : Int) (ps : Pth) (w : World) (h : Pts w A n ps) :
    Calls Try.prog 35 #[.slice A n c, .int .i64 d] w fun e w' => e = .returned (.tuple #[.int .i64 (tfA ps d), .int .i64 (tfC ps d)]) ∧ Below w.heap.size w w' := by
  cases hp : pathOk ps
  · have HA := hid_and (show tfA ps d = 0 by simp [tfA, codeP, hp]) (show tfC ps d = 1 by simp [tfC, codeP, hp])
    go_enter Try.func35, Try.ntmps35
    go_wp2_with fail
    refine (l14Ok_any _ _ _ ps _ h).mono ?_
    rintro e w1 ⟨rfl, hb⟩
    go_wp2_with fail
    go_ret2
    exact ⟨ret_int2 (by rw [HA.out.1]) (by rw [HA.out.2]), hb⟩
  · have HP := Lib.hid hp
    cases h2 : inB d 0 (lastD ps)
    · have HA := hid_and (show tfA ps d = 0 by simp [tfA, codeP, hp, in1, h2]) (show tfC ps d = 2 by simp [tfC, codeP, hp, in1, h2])
      go_enter Try.func35, Try.ntmps35
      go_wp2_with fail
      refine (l14Ok_any _ _ _ ps _ h).mono ?_
      rintro e w1 ⟨rfl, hb⟩
      have hh := h.below hb
      go_wp2_with fail
      refine (l14Distance_any _ _ _ _ ps _ hh HP.out).mono ?_
      rintro e w2 ⟨rfl, q, rfl⟩
      go_wp2_with fail
      go_ret2
      exact ⟨ret_int2 (by rw [HA.out.1]) (by rw [HA.out.2]), below_drewN hb _⟩
    · have hd := inB_iff.1 h2
      have hd2 := hd.2
      have hc0 := codeP_of hp in1 h2
      have HF := hid_and (show tfA ps d = (if tfV ps d < 0 then 0 else tfV ps d) by unfold tfA; rw [if_pos hc0]) (show tfC ps d = (if tfV ps d < 0 then 3 else 0) by unfold tfC; rw [if_pos hc0])
      clear hc0
      go_enter Try.func35, Try.ntmps35
      go_wp2_with fail
      refine (l14Ok_any _ _ _ ps _ h).mono ?_
      rintro e w1 ⟨rfl, hb⟩
      have hh := h.below hb
      go_wp2_with fail
      refine (l14Distance_any _ _ _ _ ps _ hh HP.out).mono ?_
      rintro e w2 ⟨rfl, q0, rfl⟩
      go_wp2_with fail
      go_loopw [6, 7] (fun lv hv wr => ∃ (l hi : Int) (q : Nat), 0 ≤ l ∧ l < hi ∧ hi ≤ 3001 ∧ lv = .int .i64 l ∧ hv = .int .i64 hi ∧ wr = w1.drewN q ∧ Hid ((∀ x, 1 ≤ x → x ≤ l → tanP ps d x = false) ∧ (hi ≤ 3000 → tanP ps d hi = true))) (fun lv hv _ => (intOf hv - intOf lv).toNat)
      case atStart => exact ⟨0, 3001, _, by omega, by omega, by omega, rfl, rfl, rfl, hid_and (fun x a b => by omega) (fun a => by omega)⟩
      case round =>
        obtain ⟨l, hi, q, hl1, hl2, hl3, rfl, rfl, rfl, HM⟩ := hrel
        by_cases hlt : 1 < hi - l
        · obtain ⟨m, hm⟩ : ∃ m, m = (l + hi) / 2 := ⟨_, rfl⟩
          have hm1 : l < m ∧ m < hi := by omega
          have HMM := Lib.hid hm
          clear hm
          cases ht : tanP ps d m
          · have HT := Lib.hid ht
            have hst : stopV ps m < 0 ∨ (0 ≤ stopV ps m ∧ d < stopV ps m) := by
              unfold tanP at ht
              rw [decide_eq_false_iff_not] at ht
              omega
            clear ht
            rcases hst with hs | ⟨hs1, hs2⟩
            all_goals
              go_wp2_with fail
              rw [← HMM.out]
              refine (l14Stop_any _ _ _ _ ps _ (hh.drewN _) HP.out (by omega) (by omega)).mono ?_
              rintro e w3 ⟨rfl, q3, rfl⟩
              go_wp2_with fail
              go_roundw
              case rel => exact ⟨m, hi, _, by omega, by omega, by omega, rfl, rfl, rfl, hid_and (fun x a b => tanP_mono hd2 b HT.out) HM.out.2⟩
              case measure => simp [intOf]; omega
          · have HT := Lib.hid ht
            obtain ⟨hs1, hs2⟩ : 0 ≤ stopV ps m ∧ stopV ps m ≤ d := by
              unfold tanP at ht
              rwa [decide_eq_true_iff] at ht
            clear ht
            go_wp2_with fail
            rw [← HMM.out]
            refine (l14Stop_any _ _ _ _ ps _ (hh.drewN _) HP.out (by omega) (by omega)).mono ?_
            rintro e w3 ⟨rfl, q3, rfl⟩
            go_wp2_with fail
            go_roundw
            case rel => exact ⟨l, m, _, by omega, by omega, by omega, rfl, rfl, rfl, hid_and HM.out.1 (fun _ => HT.out)⟩
            case measure => simp [intOf]; omega
        · obtain rfl : hi = l + 1 := by omega
          by_cases hbig : 3000 < l + 1
          · have HI := Lib.hid (show tfV ps d = -1 from firstI_no (fun x a b => HM.out.1 x a (by omega)))
            go_wp2_with fail
            go_ret2
            exact ⟨ret_int2 (by rw [HF.out.1, HI.out]; rfl) (by rw [HF.out.2, HI.out]; rfl), below_drewN hb _⟩
          · have HI := Lib.hid (show tfV ps d = l + 1 from firstI_eq (by omega) (by omega) (HM.out.2 (by omega)) (fun x a b => HM.out.1 x a (by omega)))
            go_wp2_with fail
            go_ret2
            exact ⟨ret_int2 (by rw [HF.out.1, HI.out, if_neg (by omega)]) (by rw [HF.out.2, HI.out, if_neg (by omega)]), below_drewN hb _⟩
end Go.Proofs.Ytehfpnammmgeaaa
