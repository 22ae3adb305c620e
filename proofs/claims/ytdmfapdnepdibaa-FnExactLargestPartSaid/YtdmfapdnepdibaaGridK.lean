/-
  Whether one of the steps to the cells around a cell has a property: slices.ContainsFunc at whatever closure.
-/
import Derived.Test.YtdmfapdnepdibaaGridT
import Derived.Test.YtdmfapdnepdibaaGridH
import Derived.Shelf.Abstract
namespace Go.Proofs.Ytdmfapdnepdibaa
open Go.ChangeShapes Go.WideShapes Go.ChangeAt Go.RowKit Go.Deep
set_option linter.unusedVariables false

def stepV (C S : Int) (hs : List Int) (k : Int) (a : Nat) : Value := .agg #[.int .i64 (nbAt C k a), .int .i64 a, .int .i64 (fallAt C S hs k a)]
def StepsAt (w : World) (A : Option Addr) (C S : Int) (hs : List Int) (k : Int) (l : List Nat) : Prop :=
  ∀ (j a : Nat), l[j]? = some a → ∃ gs, A = some ⟨gs, 0, none⟩ ∧ w.cell? ⟨gs, j * 3, none⟩ = some (.int .i64 (nbAt C k a)) ∧ w.cell? ⟨gs, j * 3 + 1, none⟩ = some (.int .i64 a) ∧ w.cell? ⟨gs, j * 3 + 2, none⟩ = some (.int .i64 (fallAt C S hs k a))
theorem StepsAt.below {w w' : World} {A : Option Addr} {C S : Int} {hs : List Int} {k : Int} {l : List Nat} (h : StepsAt w A C S hs k l) (hb : Below w.heap.size w w') : StepsAt w' A C S hs k l := by
  intro j a hj
  obtain ⟨gs, e, c0, c1, c2⟩ := h j a hj
  exact ⟨gs, e, cell_kept hb c0, cell_kept hb c1, cell_kept hb c2⟩
theorem StepsAt.of_own {w : World} {base e c : Nat} {A : Option Addr} {C S : Int} {hs : List Int} {k : Int} {l : List Nat} (h : w.ownsRow base e 3 (.slice A l.length c) l.length (stepsOf C S hs k l)) : StepsAt w A C S hs k l := by
  intro j a hj
  have hlt := (List.getElem?_eq_some_iff.1 hj).1
  obtain ⟨gs, hgs⟩ : ∃ gs, A = some ⟨gs, 0, none⟩ := by
    rcases h.2 with ⟨hv, h00⟩ | ⟨g, cap, cur, hv, _⟩
    · omega
    · simp only [Value.slice.injEq] at hv
      exact ⟨g, hv.1⟩
  subst hgs
  obtain ⟨f, hbg, hnc, hcm, _, hrow0, hf⟩ := own_to_rowIs h
  have hat := fun o ho => (hf (j * 3 + o) (by omega)).symm.trans (stepsOf_at C S hs k _ hj o ho)
  have a0 := hat 0 (by omega)
  have a1 := hat 1 (by omega)
  have a2 := hat 2 (by omega)
  simp only [stepCells, Nat.add_zero] at a0 a1 a2
  injection a0 with a0
  injection a1 with a1
  injection a2 with a2
  refine ⟨gs, rfl, ?_, ?_, ?_⟩
  · rw [← a0]; exact hrow0.cell (i := j * 3) (by omega)
  · rw [← a1]; exact hrow0.cell (i := j * 3 + 1) (by omega)
  · rw [← a2]; exact hrow0.cell (i := j * 3 + 2) (by omega)
theorem any_no {l : List Nat} {p : Nat → Bool} (h : ∀ (j a : Nat), j < l.length → l[j]? = some a → p a = false) : l.any p = false := by
  rw [List.any_eq_false]
  intro a ha
  obtain ⟨j, hj⟩ := List.mem_iff_getElem?.1 ha
  simp [h j a (List.getElem?_eq_some_iff.1 hj).1 hj]
theorem any_yes {l : List Nat} {p : Nat → Bool} {j a : Nat} (hj : l[j]? = some a) (h : p a = true) : l.any p = true := List.any_eq_true.2 ⟨a, List.mem_of_getElem? hj, h⟩
set_option maxRecDepth 100000 in
set_option maxHeartbeats 800000 in
theorem indexFunc_steps (A : Option Addr) (C S : Int) (hs : List Int) (k : Int) (l : List Nat) (n c : Nat) (F : Nat) (caps : Array Value) (p : Nat → Bool) (w : World) (hl : l.length = n) (hn : n ≤ 8) (eg : ∀ args w, (callFunc F args).run Try.prog w = .ok (.enter F args) w) (h : StepsAt w A C S hs k l)
    (hf : ∀ (j a : Nat) (W : World), l[j]? = some a → Below w.heap.size w W → Calls Try.prog F (#[stepV C S hs k a] ++ caps) W fun e W' => e = .returned (.bool (p a)) ∧ Below W.heap.size W W') :
    Calls Try.prog 78 #[.slice A n c, .func (.func F) #[] caps] w fun e w' => HasPost (l.any p) e ∧ Below w.heap.size w w' := by
  have HF := Lib.hid hf
  have HS := Lib.hid h
  have HL := Lib.hid hl
  clear hf h hl
  go_enter Try.func78, Try.ntmps78
  go_wp2_with fail
  go_loopw [4, 8] (fun _ i wr => ∃ j : Nat, j ≤ n ∧ i = .int .i64 j ∧ Below w.heap.size w wr ∧ Hid (∀ (i a : Nat), i < j → l[i]? = some a → p a = false)) (fun _ i _ => n - (intOf i).toNat)
  case atStart => exact ⟨0, Nat.zero_le _, rfl, Below.refl _ _, fun i a hi => absurd hi (by omega)⟩
  case round =>
    obtain ⟨j, hj, rfl, hbl, HK⟩ := hrel
    by_cases hlt : j < n
    · obtain ⟨a, Ha⟩ : ∃ a, Hid (l[j]? = some a) := ⟨_, List.getElem?_eq_getElem (by rw [HL.out]; exact hlt)⟩
      obtain ⟨gs, rfl, c0, c1, c2⟩ := HS.out.below hbl j a Ha.out
      have hji : (j : Int) < (n : Int) := by omega
      have HB := Lib.hid hbl
      clear hbl
      cases hp : p a
      · go_wp2_with fail
        refine (HF.out j a _ Ha.out HB.out).mono ?_
        rintro e w2 ⟨rfl, hb2⟩
        rw [hp]
        have HB2 := Lib.hid (HB.out.trans (hb2.mono HB.out.size))
        clear hb2 c0 c1 c2
        go_wp2_with fail
        go_roundw
        case rel => exact ⟨j + 1, by omega, by go_num, HB2.out, fun i b hi hb => by
          by_cases e : i = j
          · subst e
            have := Ha.out.symm.trans hb
            injection this with this
            rw [← this]; exact hp
          · exact HK.out i b (by omega) hb⟩
        case measure => simp [intOf]; omega
      · go_wp2_with fail
        refine (HF.out j a _ Ha.out HB.out).mono ?_
        rintro e w2 ⟨rfl, hb2⟩
        rw [hp]
        have HB2 := Lib.hid (HB.out.trans (hb2.mono HB.out.size))
        have HP := Lib.hid hp
        clear hb2 c0 c1 c2 hp
        go_wp2_with fail
        go_ret
        exact ⟨⟨_, rfl, .inr ⟨by omega, any_yes Ha.out HP.out⟩⟩, HB2.out⟩
    · obtain rfl : j = n := by omega
      have HB := Lib.hid hbl
      clear hlt hbl
      go_wp2_with fail
      go_ret
      exact ⟨⟨-1, rfl, .inl ⟨rfl, any_no fun i a hi ha => HK.out i a (by rw [← HL.out]; exact hi) ha⟩⟩, HB.out⟩
theorem containsFunc_steps (A : Option Addr) (C S : Int) (hs : List Int) (k : Int) (l : List Nat) (n c : Nat) (F : Nat) (caps : Array Value) (p : Nat → Bool) (w : World) (hl : l.length = n) (hn : n ≤ 8) (eg : ∀ args w, (callFunc F args).run Try.prog w = .ok (.enter F args) w) (h : StepsAt w A C S hs k l)
    (hf : ∀ (j a : Nat) (W : World), l[j]? = some a → Below w.heap.size w W → Calls Try.prog F (#[stepV C S hs k a] ++ caps) W fun e W' => e = .returned (.bool (p a)) ∧ Below W.heap.size W W') :
    Calls Try.prog 48 #[.slice A n c, .func (.func F) #[] caps] w fun e w' => e = .returned (.bool (l.any p)) ∧ Below w.heap.size w w' := by
  have HF := Lib.hid hf
  clear hf
  go_enter Try.func48, Try.ntmps48
  go_wp2_with fail
  refine (indexFunc_steps A C S hs k l n _ F caps p _ hl hn eg h HF.out).mono ?_
  rintro e w' ⟨⟨r, rfl, hr⟩, hb⟩
  have HB := Lib.hid hb
  clear hb
  rcases hr with ⟨rfl, hr⟩ | ⟨h0, hr⟩
  all_goals
    have HR := Lib.hid hr
    clear hr
    go_wp2_with fail
    go_ret
    exact ⟨ret_bool (by rw [HR.out]), HB.out⟩
end Go.Proofs.Ytdmfapdnepdibaa
