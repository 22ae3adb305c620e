/-
  Layers: draining in place; heat from above, heat lost upwards, drained profiles.
-/
import Derived.Test.YtlfjjdglffiinaaLyC
namespace Go.Proofs.Ytlfjjdglffiinaa
open Go.ChangeShapes Go.WideShapes Go.ChangeAt Go.RowKit Go.Deep
set_option linter.unusedVariables false

set_option maxRecDepth 100000 in
set_option maxHeartbeats 800000 in
theorem drain_t (E base : Nat) (A : Option Addr) (n c : Nat) (ls : List Ly) (w : World) (H : LBag w E base A n c ls) :
    Calls Try.prog 37 #[.slice A n c] w fun e w' => e = .returned (.int .i64 (drainF n ls 0).2) ∧ LBag w' E base A n c (drainF n ls 0).1 ∧ (∀ W, Below base W w → base ≤ w.heap.size → Below base W w') := by
  have hn := H.2.1
  have HH := Lib.hid H
  clear H
  go_enter Try.func37, Try.ntmps37
  go_wp2_with fail
  go_loopw [3, 4, 5, 6] (fun vv kv _ _ wr => ∃ (m : Nat) (ls' : List Ly) (v : Int), m ≤ n ∧ kv = .int .i64 ((m : Int) - 1) ∧ vv = .int .i64 v ∧ 0 ≤ v ∧ v + 1000000 * (m : Int) ≤ 1000000 * (n : Int) ∧ LBag wr E base A n c ls' ∧ Hid (drainF n ls 0 = drainF m ls' v) ∧ Hid (∀ W, Below base W w → base ≤ w.heap.size → Below base W wr ∧ base ≤ wr.heap.size)) (fun _ kv _ _ _ => (intOf kv + 1).toNat)
  case atStart => exact ⟨n, ls, 0, Nat.le_refl _, rfl, rfl, by omega, by omega, HH.out, rfl, fun W h1 h2 => ⟨h1, h2⟩⟩
  case round =>
    clear HH
    obtain ⟨m, ls', v, hm, rfl, rfl, hv0, hv1, hbag, HE, HB⟩ := hrel
    cases m with
    | zero =>
      have HR := Lib.hid hbag
      clear hbag
      go_wp2_with fail
      go_ret
      exact ⟨ret_int (by rw [HE.out]; rfl), by rw [HE.out]; exact HR.out, fun W h1 h2 => (HB.out W h1 h2).1⟩
    | succ m =>
      obtain ⟨h1, h2, h3, h4⟩ := hbag
      obtain ⟨g, rfl, hbg, hrow⟩ := h4 (by omega)
      obtain ⟨x, hx⟩ : ∃ x, ls'[m]? = some x := ⟨_, List.getElem?_eq_getElem (by omega)⟩
      have hok := h3 x (List.mem_of_getElem? hx)
      have HE2 := Lib.hid (HE.out.trans (drainF_go hx))
      obtain ⟨f, i, wa, d, t, h, a⟩ := x
      have b1 := hok.i
      have b2 := hok.v
      simp only at b1 b2
      have hb := holdN_bd (v := wa + v) b1 (by omega)
      obtain ⟨q, hq⟩ : ∃ q, holdN i (wa + v) = q := ⟨_, rfl⟩
      have hqv : q = if i * 60 / 1000 < wa + v then i * 60 / 1000 else wa + v := by rw [← hq]; unfold holdN; split <;> omega
      rw [hq] at hb
      have HE3 := Lib.hid (show drainF n ls 0 = drainF m (ls'.set m ⟨f, i, q, d, t, h, a⟩) (wa + v - q) by rw [HE2.out]; simp only [hq])
      have hoy : LyOk ⟨f, i, q, d, t, h, a⟩ := ⟨hok.f, hok.i, ⟨hb.1, by simp only; omega⟩, hok.d, hok.g, hok.h, hok.a⟩
      have HA := Lib.hid (And.intro hx (And.intro hoy (And.intro hrow (And.intro h1 (And.intro h3 hbg)))))
      obtain ⟨c0, c1, c2, c3, c4, c5, c6⟩ := hrow.lyAt hx
      simp only at c0 c1 c2 c3 c4 c5 c6
      have f2 := hrow.free (m * 7 + 2)
      have hlt := hrow.lt
      have hmi : (m : Int) < (n : Int) := by omega
      have hms : (((m + 1 : Nat) : Int) - 1) = (m : Int) := by omega
      rw [hms]
      have HS := Lib.hid (hrow.set_water hx q)
      clear hx hok hrow h1 h3 h4 hms hq HE2 hoy c0 c3 c4 c5 c6 HE
      have hv2 : v ≤ 16000000 := by omega
      by_cases hle : i * 60 / 1000 < wa + v
      all_goals
        have HQ := Lib.hid hqv
        clear hqv
        go_wp2_with fail
        go_roundw
        case rel =>
          have hqe := HQ.out
          first | rw [if_pos hle] at hqe | rw [if_neg hle] at hqe
          refine ⟨m, _, wa + v - q, by omega, rfl, by rw [hqe]; try (congr 1; omega), by omega, by omega, ⟨by simp [HA.out.2.2.2.1], h2, mem_set_ok HA.out.2.2.2.2.1 HA.out.2.1, fun _ => ⟨g, rfl, hbg, ?_⟩⟩, HE3, fun W k1 k2 => ⟨?_, ?_⟩⟩
          · rw [← hqe]; exact HS.out
          · exact below_grown (HB.out W k1 k2).1 (grown_setCell (p := ⟨g, m * 7 + 2, none⟩) (World.grownBy.refl _ (some g)) rfl _) (HB.out W k1 k2).2 hbg
          · simpa [World.setCell] using (HB.out W k1 k2).2
        case measure => simp [intOf]
theorem warm_heat : HeatAt 35 warmX := fun E g cap k ls x j w h1 h2 h3 h4 h5 => warm_t E g cap k ls x j w h1 h2 h3 h4 h5
theorem cool_heat : HeatAt 36 coolX := fun E g cap k ls x j w h1 h2 h3 h4 h5 => cool_t E g cap k ls x j w h1 h2 h3 h4 h5
set_option maxRecDepth 100000 in
theorem WarmTop_t (A : Option Addr) (n c : Nat) (ls : List Ly) (j : Int) (w : World) (H : Lys w A n ls) (hj0 : 0 ≤ j) (hj1 : j ≤ 100000000) :
    Calls Try.prog 11 #[.slice A n c, .int .i64 j] w fun e w' => ∃ A' c', e = .returned (.tuple #[.slice A' n c', .int .i64 (heatF warmX n ls j).2, .int .i64 0]) ∧ LBag w' 35 w.heap.size A' n c' (heatF warmX n ls j).1 ∧ Below w.heap.size w w' := by
  have HH := Lib.hid H
  clear H
  go_enter Try.func11, Try.ntmps11
  go_wp2_with fail
  refine (ValidProfile_t _ _ _ ls _ HH.out).mono ?_
  rintro e w1 ⟨rfl, hb1⟩
  have H1 := Lib.hid hb1
  clear hb1
  go_wp2_with (go_at_call 32; refine (within_t _ _ _ _ (by omega) (by omega)).mono ?_; rintro e w' ⟨rfl, rfl⟩)
  refine (cloneLy_t _ _ _ ls _ (HH.out.below H1.out)).mono ?_
  rintro e w2 ⟨A', c', rfl, hbag, hb2⟩
  have H2 := Lib.hid (And.intro (hbag.base H1.out.size) (H1.out.trans (hb2.mono H1.out.size)))
  clear hbag hb2
  go_wp2_with fail
  refine (heatFromTop_t _ warmX Ly.ice coldL _ _ _ _ _ ls j _ (enters_of Try.func35 (by kernel_rfl) rfl) warm_heat (fun x j hx h0 => warmX_kept hx h0) H2.out.1 hj0 hj1).mono ?_
  rintro e w3 ⟨rfl, hbag3, hb3⟩
  have H3 := Lib.hid (And.intro hbag3 (hb3 _ H2.out.2 H2.out.2.size))
  clear hbag3 hb3
  go_wp2_with fail
  go_ret3
  exact ⟨A', c', rfl, H3.out.1, H3.out.2⟩
set_option maxRecDepth 100000 in
theorem CoolTop_t (A : Option Addr) (n c : Nat) (ls : List Ly) (j : Int) (w : World) (H : Lys w A n ls) (hj0 : 0 ≤ j) (hj1 : j ≤ 100000000) :
    Calls Try.prog 12 #[.slice A n c, .int .i64 j] w fun e w' => ∃ A' c', e = .returned (.tuple #[.slice A' n c', .int .i64 (heatF coolX n ls j).2, .int .i64 0]) ∧ LBag w' 35 w.heap.size A' n c' (heatF coolX n ls j).1 ∧ Below w.heap.size w w' := by
  have HH := Lib.hid H
  clear H
  go_enter Try.func12, Try.ntmps12
  go_wp2_with fail
  refine (ValidProfile_t _ _ _ ls _ HH.out).mono ?_
  rintro e w1 ⟨rfl, hb1⟩
  have H1 := Lib.hid hb1
  clear hb1
  go_wp2_with (go_at_call 32; refine (within_t _ _ _ _ (by omega) (by omega)).mono ?_; rintro e w' ⟨rfl, rfl⟩)
  refine (cloneLy_t _ _ _ ls _ (HH.out.below H1.out)).mono ?_
  rintro e w2 ⟨A', c', rfl, hbag, hb2⟩
  have H2 := Lib.hid (And.intro (hbag.base H1.out.size) (H1.out.trans (hb2.mono H1.out.size)))
  clear hbag hb2
  go_wp2_with fail
  refine (heatFromTop_t _ coolX (fun x => -x.ice) (fun _ => 0) _ _ _ _ _ ls j _ (enters_of Try.func36 (by kernel_rfl) rfl) cool_heat (fun x j hx h0 => coolX_kept hx h0) H2.out.1 hj0 hj1).mono ?_
  rintro e w3 ⟨rfl, hbag3, hb3⟩
  have H3 := Lib.hid (And.intro hbag3 (hb3 _ H2.out.2 H2.out.2.size))
  clear hbag3 hb3
  go_wp2_with fail
  go_ret3
  exact ⟨A', c', rfl, H3.out.1, H3.out.2⟩
set_option maxRecDepth 100000 in
theorem DrainProfile_t (A : Option Addr) (n c : Nat) (ls : List Ly) (w : World) (H : Lys w A n ls) :
    Calls Try.prog 13 #[.slice A n c] w fun e w' => ∃ A' c', e = .returned (.tuple #[.slice A' n c', .int .i64 (drainF n ls 0).2, .int .i64 0]) ∧ LBag w' 35 w.heap.size A' n c' (drainF n ls 0).1 ∧ Below w.heap.size w w' := by
  have HH := Lib.hid H
  clear H
  go_enter Try.func13, Try.ntmps13
  go_wp2_with fail
  refine (ValidProfile_t _ _ _ ls _ HH.out).mono ?_
  rintro e w1 ⟨rfl, hb1⟩
  have H1 := Lib.hid hb1
  clear hb1
  go_wp2_with fail
  refine (cloneLy_t _ _ _ ls _ (HH.out.below H1.out)).mono ?_
  rintro e w2 ⟨A', c', rfl, hbag, hb2⟩
  have H2 := Lib.hid (And.intro (hbag.base H1.out.size) (H1.out.trans (hb2.mono H1.out.size)))
  clear hbag hb2
  go_wp2_with fail
  refine (drain_t _ _ _ _ _ ls _ H2.out.1).mono ?_
  rintro e w3 ⟨rfl, hbag3, hb3⟩
  have H3 := Lib.hid (And.intro hbag3 (hb3 _ H2.out.2 H2.out.2.size))
  clear hbag3 hb3
  go_wp2_with fail
  go_ret3
  exact ⟨A', c', rfl, H3.out.1, H3.out.2⟩
end Go.Proofs.Ytlfjjdglffiinaa
