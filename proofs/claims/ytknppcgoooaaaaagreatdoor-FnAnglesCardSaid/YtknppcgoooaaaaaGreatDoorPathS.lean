/-
  The contracts of StopOf.
-/
import Derived.Test.YtknppcgoooaaaaaGreatDoorPathY
namespace Go.Proofs.YtknppcgoooaaaaaGreatDoor
open Go.ChangeShapes Go.WideShapes Go.ChangeAt Go.RowKit Go.Deep
set_option linter.unusedVariables false

def stopA (ps : Pth) (t : Int) : Int := if codeP ps t 0 = 0 then (if stopV ps t < 0 then 0 else stopV ps t) else 0
def stopC (ps : Pth) (t : Int) : Int := if codeP ps t 0 = 0 then (if stopV ps t < 0 then 3 else 0) else codeP ps t 0
theorem inB_zero {ps : Pth} (hp : pathOk ps = true) : inB 0 0 (lastD ps) = true := inB_iff.2 ⟨by omega, by have := lastD_bd hp; omega⟩
set_option maxRecDepth 100000 in
set_option maxHeartbeats 800000 in
theorem StopOf_i (A : Option Addr) (n c : Nat) (t : Int) (ps : Pth) (w : World) (h : Pts w A n ps) :
    Calls Tryz.prog 7 #[.slice A n c, .int .i64 t] w fun e w' => e = .returned (.tuple #[.int .i64 (stopA ps t), .int .i64 (stopC ps t)]) ∧ Below w.heap.size w w' := by
  by_cases h0 : codeP ps t 0 = 0
  · obtain ⟨hp, ht, hd⟩ := codeP_ok h0
    have ht' := inB_iff.1 ht
    have H0 := hid_and h0 hp
    clear h0 hp ht hd
    go_enter Tryz.func7, Tryz.ntmps7
    go_wp2_with fail
    refine (pathCode_any _ _ _ _ _ ps _ h).mono ?_
    rintro e w1 ⟨rfl, hb⟩
    have hh := h.below hb
    rw [H0.out.1]
    go_wp2_with fail
    refine (stopOf_any _ _ _ _ ps _ hh H0.out.2 (by omega) (by omega)).mono ?_
    rintro e w2 ⟨hpost, hb2⟩
    have HB := Lib.hid (hb.trans (hb2.mono hb.size))
    clear hb hb2 hh h
    rcases hpost with ⟨m, h1, h2, h3, h4, rfl⟩ | ⟨h1, rfl⟩
    · have hI : stopV ps t = m := firstI_eq h1 h2 h3 h4
      have HA := hid_and (show stopA ps t = m by simp only [stopA, H0.out.1, hI]; simp; omega) (show stopC ps t = 0 by simp only [stopC, H0.out.1, hI]; simp; omega)
      clear h3 h4 hI
      go_wp2_with (go_at_call 38; refine (orNotFound_yes _ _).mono ?_; rintro e w' ⟨rfl, rfl⟩)
      go_ret2
      exact ⟨ret_int2 (by rw [HA.out.1]) (by rw [HA.out.2]), HB.out⟩
    · have hI : stopV ps t = -1 := firstI_no h1
      have HA := hid_and (show stopA ps t = 0 by simp only [stopA, H0.out.1, hI]; simp) (show stopC ps t = 3 by simp only [stopC, H0.out.1, hI]; simp)
      clear h1 hI
      go_wp2_with (go_at_call 38; refine (orNotFound_no _ _).mono ?_; rintro e w' ⟨rfl, rfl⟩)
      go_ret2
      exact ⟨ret_int2 (by rw [HA.out.1]) (by rw [HA.out.2]), HB.out⟩
  · have hne : (codeP ps t 0 != 0) = true := by simpa using h0
    have HA := hid_and (show stopA ps t = 0 by simp [stopA, h0]) (show stopC ps t = codeP ps t 0 by simp [stopC, h0])
    clear h0
    go_enter Tryz.func7, Tryz.ntmps7
    go_wp2_with fail
    refine (pathCode_any _ _ _ _ _ ps _ h).mono ?_
    rintro e w1 ⟨rfl, hb⟩
    go_wp2_with fail
    go_ret2
    exact ⟨ret_int2 (by rw [HA.out.1]) (by rw [HA.out.2]), hb⟩

/-! ### RunoutOf -/
def runA (ps : Pth) (a b : Int) : Int := if alphaC ps a b = 0 then stopA ps (alphaA ps a b) else 0
def runC (ps : Pth) (a b : Int) : Int := if alphaC ps a b = 0 then stopC ps (alphaA ps a b) else alphaC ps a b
end Go.Proofs.YtknppcgoooaaaaaGreatDoor
