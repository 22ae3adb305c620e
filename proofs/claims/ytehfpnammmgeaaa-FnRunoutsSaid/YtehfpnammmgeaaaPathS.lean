/-
  The contracts of StopOf.
-/
import Derived.Test.YtehfpnammmgeaaaPathY
namespace Go.Proofs.Ytehfpnammmgeaaa
open Go.ChangeShapes Go.WideShapes Go.ChangeAt Go.RowKit Go.Deep
set_option linter.unusedVariables false

def stopA (ps : Pth) (t : Int) : Int := if codeP ps t 0 = 0 then (if stopV ps t < 0 then 0 else stopV ps t) else 0
def stopC (ps : Pth) (t : Int) : Int := if codeP ps t 0 = 0 then (if stopV ps t < 0 then 3 else 0) else codeP ps t 0
theorem inB_zero {ps : Pth} (hp : pathOk ps = true) : inB 0 0 (lastD ps) = true := inB_iff.2 ⟨by omega, by have := lastD_bd hp; omega⟩
set_option maxRecDepth 100000 in
set_option maxHeartbeats 800000 in
theorem StopOf_i (A : Option Addr) (n c : Nat) (t : Int) (ps : Pth) (w : World) (h : Pts w A n ps) :
    Calls Try.prog 22 #[.slice A n c, .int .i64 t] w fun e w' => e = .returned (.tuple #[.int .i64 (stopA ps t), .int .i64 (stopC ps t)]) ∧ Below w.heap.size w w' := by
  by_cases h0 : codeP ps t 0 = 0
  · obtain ⟨hp, ht, hd⟩ := codeP_ok h0
    have ht' := inB_iff.1 ht
    have H0 := hid_and h0 hp
    clear h0 hp ht hd
    go_enter Try.func22, Try.ntmps22
    go_wp2_with fail
    refine (pathCode_any _ _ _ _ _ ps _ h).mono ?_
    rintro e w1 ⟨rfl, hb⟩
    have hh := h.below hb
    rw [H0.out.1]
    go_wp2_with fail
    refine (stopOf_any _ _ _ _ ps _ hh H0.out.2 (by omega) (by omega)).mono ?_
    rintro e w2 ⟨hpost, hb2⟩
    have HB := Lib.hid (hb.trans (hb2.mono hb.size))
    clear hb hb2 hh h
    rcases hpost with ⟨m, h1, h2, h3, h4, rfl⟩ | ⟨h1, rfl⟩
    · have hI : stopV ps t = m := firstI_eq h1 h2 h3 h4
      have HA := hid_and (show stopA ps t = m by simp only [stopA, H0.out.1, hI]; simp; omega) (show stopC ps t = 0 by simp only [stopC, H0.out.1, hI]; simp; omega)
      clear h3 h4 hI
      go_wp2_with (go_at_call 51; refine (orNotFound_yes _ _).mono ?_; rintro e w' ⟨rfl, rfl⟩)
      go_ret2
      exact ⟨ret_int2 (by rw [HA.out.1]) (by rw [HA.out.2]), HB.out⟩
    · have hI : stopV ps t = -1 := firstI_no h1
      have HA := hid_and (show stopA ps t = 0 by simp only [stopA, H0.out.1, hI]; simp) (show stopC ps t = 3 by simp only [stopC, H0.out.1, hI]; simp)
      clear h1 hI
      go_wp2_with (go_at_call 51; refine (orNotFound_no _ _).mono ?_; rintro e w' ⟨rfl, rfl⟩)
      go_ret2
      exact ⟨ret_int2 (by rw [HA.out.1]) (by rw [HA.out.2]), HB.out⟩
  · have hne : (codeP ps t 0 != 0) = true := by simpa using h0
    have HA := hid_and (show stopA ps t = 0 by simp [stopA, h0]) (show stopC ps t = codeP ps t 0 by simp [stopC, h0])
    clear h0
    go_enter Try.func22, Try.ntmps22
    go_wp2_with fail
    refine (pathCode_any _ _ _ _ _ ps _ h).mono ?_
    rintro e w1 ⟨rfl, hb⟩
    go_wp2_with fail
    go_ret2
    exact ⟨ret_int2 (by rw [HA.out.1]) (by rw [HA.out.2]), hb⟩
set_option maxRecDepth 100000 in
set_option maxHeartbeats 800000 in
theorem StopOf_s (A : Option Addr) (n c : Nat) (t : Int) (ps : Pth) (w : World) (h : Pts w A n ps) :
    Calls Try.prog 34 #[.slice A n c, .int .i64 t] w fun e w' => e = .returned (.tuple #[.int .i64 (stopA ps t), .int .i64 (stopC ps t)]) ∧ Below w.heap.size w w' := by
  cases hp : pathOk ps
  · have HA := hid_and (show stopA ps t = 0 by simp [stopA, codeP, hp]) (show stopC ps t = 1 by simp [stopC, codeP, hp])
    go_enter Try.func34, Try.ntmps34
    go_wp2_with fail
    refine (l14Ok_any _ _ _ ps _ h).mono ?_
    rintro e w1 ⟨rfl, hb⟩
    go_wp2_with fail
    go_ret2
    exact ⟨ret_int2 (by rw [HA.out.1]) (by rw [HA.out.2]), hb⟩
  · have HP := Lib.hid hp
    have hz := inB_zero hp
    cases h1 : inB t 1 3000
    · have HA := hid_and (show stopA ps t = 0 by simp [stopA, codeP, hp, h1]) (show stopC ps t = 2 by simp [stopC, codeP, hp, h1])
      clear hz
      go_enter Try.func34, Try.ntmps34
      go_wp2_with fail
      refine (l14Ok_any _ _ _ ps _ h).mono ?_
      rintro e w1 ⟨rfl, hb⟩
      go_wp2_with ((go_at_call 42; refine (l14Is_any _ _).mono ?_; rintro e w' ⟨rfl, rfl⟩))
      go_ret2
      exact ⟨ret_int2 (by rw [HA.out.1]) (by rw [HA.out.2]), hb⟩
    · have ht := inB_iff.1 h1
      have hc0 := codeP_of hp h1 hz
      by_cases hneg : stopV ps t < 0
      · have HA := hid_and (show stopA ps t = 0 by simp [stopA, hc0, hneg]) (show stopC ps t = 3 by simp [stopC, hc0, hneg])
        clear hz hc0
        go_enter Try.func34, Try.ntmps34
        go_wp2_with fail
        refine (l14Ok_any _ _ _ ps _ h).mono ?_
        rintro e w1 ⟨rfl, hb⟩
        have hh := h.below hb
        go_wp2_with ((go_at_call 42; refine (l14Is_any _ _).mono ?_; rintro e w' ⟨rfl, rfl⟩))
        refine (l14Stop_any _ _ _ _ ps _ hh HP.out (by omega) (by omega)).mono ?_
        rintro e w2 ⟨rfl, q, rfl⟩
        go_wp2_with fail
        go_ret2
        exact ⟨ret_int2 (by rw [HA.out.1]) (by rw [HA.out.2]), below_drewN hb _⟩
      · have HA := hid_and (show stopA ps t = stopV ps t by simp [stopA, hc0, hneg]) (show stopC ps t = 0 by simp [stopC, hc0, hneg])
        clear hz hc0
        go_enter Try.func34, Try.ntmps34
        go_wp2_with fail
        refine (l14Ok_any _ _ _ ps _ h).mono ?_
        rintro e w1 ⟨rfl, hb⟩
        have hh := h.below hb
        go_wp2_with ((go_at_call 42; refine (l14Is_any _ _).mono ?_; rintro e w' ⟨rfl, rfl⟩))
        refine (l14Stop_any _ _ _ _ ps _ hh HP.out (by omega) (by omega)).mono ?_
        rintro e w2 ⟨rfl, q, rfl⟩
        go_wp2_with fail
        go_ret2
        exact ⟨ret_int2 (by rw [HA.out.1]) (by rw [HA.out.2]), below_drewN hb _⟩

/-! ### RunoutOf -/
def runA (ps : Pth) (a b : Int) : Int := if alphaC ps a b = 0 then stopA ps (alphaA ps a b) else 0
def runC (ps : Pth) (a b : Int) : Int := if alphaC ps a b = 0 then stopC ps (alphaA ps a b) else alphaC ps a b
theorem RunoutOf_i (A : Option Addr) (n c : Nat) (a b : Int) (ps : Pth) (w : World) (h : Pts w A n ps) :
    Calls Try.prog 24 #[.slice A n c, .int .i64 a, .int .i64 b] w fun e w' => e = .returned (.tuple #[.int .i64 (runA ps a b), .int .i64 (runC ps a b)]) ∧ Below w.heap.size w w' := by
  by_cases h0 : alphaC ps a b = 0
  · have HA := hid_and (show runA ps a b = stopA ps (alphaA ps a b) by simp [runA, h0]) (show runC ps a b = stopC ps (alphaA ps a b) by simp [runC, h0])
    have H0 := Lib.hid h0
    clear h0
    go_enter Try.func24, Try.ntmps24
    go_wp2_with fail
    refine (AlphaOf_i _ _ _ _ _ ps _ h).mono ?_
    rintro e w1 ⟨rfl, hb⟩
    have hh := h.below hb
    rw [H0.out]
    go_wp2_with fail
    refine (StopOf_i _ _ _ _ ps _ hh).mono ?_
    rintro e w2 ⟨rfl, hb2⟩
    go_wp2_with fail
    go_ret2
    exact ⟨ret_int2 (by rw [HA.out.1]) (by rw [HA.out.2]), hb.trans (hb2.mono hb.size)⟩
  · have hne : (alphaC ps a b != 0) = true := by simpa using h0
    have HA := hid_and (show runA ps a b = 0 by simp [runA, h0]) (show runC ps a b = alphaC ps a b by simp [runC, h0])
    clear h0
    go_enter Try.func24, Try.ntmps24
    go_wp2_with fail
    refine (AlphaOf_i _ _ _ _ _ ps _ h).mono ?_
    rintro e w1 ⟨rfl, hb⟩
    go_wp2_with fail
    go_ret2
    exact ⟨ret_int2 (by rw [HA.out.1]) (by rw [HA.out.2]), hb⟩
theorem RunoutOf_s (A : Option Addr) (n c : Nat) (a b : Int) (ps : Pth) (w : World) (h : Pts w A n ps) :
    Calls Try.prog 40 #[.slice A n c, .int .i64 a, .int .i64 b] w fun e w' => e = .returned (.tuple #[.int .i64 (runA ps a b), .int .i64 (runC ps a b)]) ∧ Below w.heap.size w w' := by
  by_cases h0 : alphaC ps a b = 0
  · have HA := hid_and (show runA ps a b = stopA ps (alphaA ps a b) by simp [runA, h0]) (show runC ps a b = stopC ps (alphaA ps a b) by simp [runC, h0])
    have H0 := Lib.hid h0
    clear h0
    go_enter Try.func40, Try.ntmps40
    go_wp2_with fail
    refine (l14Alpha_any _ _ _ _ _ ps _ h).mono ?_
    rintro e w1 ⟨rfl, hb⟩
    have hh := h.below hb
    rw [H0.out]
    go_wp2_with fail
    refine (StopOf_s _ _ _ _ ps _ hh).mono ?_
    rintro e w2 ⟨rfl, hb2⟩
    go_wp2_with fail
    go_ret2
    exact ⟨ret_int2 (by rw [HA.out.1]) (by rw [HA.out.2]), hb.trans (hb2.mono hb.size)⟩
  · have hne : (alphaC ps a b != 0) = true := by simpa using h0
    have HA := hid_and (show runA ps a b = 0 by simp [runA, h0]) (show runC ps a b = alphaC ps a b by simp [runC, h0])
    clear h0
    go_enter Try.func40, Try.ntmps40
    go_wp2_with fail
    refine (l14Alpha_any _ _ _ _ _ ps _ h).mono ?_
    rintro e w1 ⟨rfl, hb⟩
    go_wp2_with fail
    go_ret2
    exact ⟨ret_int2 (by rw [HA.out.1]) (by rw [HA.out.2]), hb⟩
end Go.Proofs.Ytehfpnammmgeaaa
