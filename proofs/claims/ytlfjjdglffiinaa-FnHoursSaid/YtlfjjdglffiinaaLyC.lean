/-
  Layers: copies, heat and draining in place.
-/
import Derived.Test.YtlfjjdglffiinaaLyI
namespace Go.Proofs.Ytlfjjdglffiinaa
open Go.ChangeShapes Go.WideShapes Go.ChangeAt Go.RowKit Go.Deep
set_option linter.unusedVariables false

set_option maxRecDepth 100000 in
set_option maxHeartbeats 400000 in
theorem cloneLy_t (A : Option Addr) (n c : Nat) (ls : List Ly) (w : World) (H : Lys w A n ls) :
    Calls Try.prog 33 #[.slice A n c] w fun e w' => ∃ A' c', e = .returned (.slice A' n c') ∧ LBag w' 35 w.heap.size A' n c' ls ∧ Below w.heap.size w w' := by
  have hn := H.2.1
  cases A with
  | none =>
    obtain rfl : n = 0 := by
      rcases Nat.eq_zero_or_pos n with h | h
      · exact h
      · obtain ⟨b, off, e, _⟩ := H.2.2.2 h
        cases e
    have HL := Lib.hid H
    have hnil := fun W => Lib.run_eql_slice_nil (P := Try.prog) W 24 35 none 0 c 0 0 Try.underlying24
    clear H
    go_enter Try.func33, Try.ntmps33
    go_wp2_with fail
    go_ret
    exact ⟨none, 0, rfl, ⟨HL.out.1, hn, HL.out.2.2.1, fun h => absurd h (by omega)⟩, Below.refl _ _⟩
  | some a =>
    have HL := Lib.hid H.1
    have HK := Lib.hid H.2.2.1
    have HC := Lib.hid (H.below ((Below.refl _ _).alloc (Nat.le_refl _) (.cells #[] 35))).cells
    have hown := World.ownsRow_lit (base := w.heap.size) (e := 35) (size := 7) w #[] 0 (Nat.le_refl _) (by simp) rfl
    have hnil := fun W => Lib.run_eql_slice_nil (P := Try.prog) W 24 35 (some a) n c 0 0 Try.underlying24
    obtain ⟨i0, hi, hz0, hz1, hz2⟩ := info_parts info_ly
    have HO := Lib.hid hown
    clear hown H
    go_enter Try.func33, Try.ntmps33
    go_wp2_with (at_builtin; refine wpList_append_own _ rfl _ _ 24 rfl w.heap.size 35 i0 (.agg #[.int .i64 0, .int .i64 0, .int .i64 0, .int .i64 0, .int .i64 0, .int .i64 0, .int .i64 0]) 7 56 Try.underlying24 hi hz0 hz1 hz2 rfl (by decide) _ 0 [] rfl HO.out a n c (lyCells ls) rfl (by rw [lyCells_length, HL.out]) HC.out (lyCells_one _) (by unfold maxLen; omega) (by omega) (by simp) ?_; intro v' w1 hown1 hgrow1 hv1)
    go_ret
    obtain ⟨A', c', rfl, _⟩ := own_form hown1
    rw [Nat.zero_add, List.nil_append] at hown1
    exact ⟨A', c', by rw [Nat.zero_add]; rfl, LBag.of_own hown1 HL.out hn HK.out, ((Below.refl _ _).alloc (Nat.le_refl _) _).grown hgrow1 (by simp) (fun k hk => (HO.out.lt k hk).1)⟩
theorem below_grownBy {w w' : World} (h : Below w.heap.size w w') (r : Option Nat) : w.grownBy w' r := ⟨h.os, h.tape, h.output, h.size, fun k hk _ => h.block k hk⟩
set_option maxRecDepth 100000 in
set_option maxHeartbeats 1600000 in
theorem warm_t (E g cap k : Nat) (ls : List Ly) (x : Ly) (j : Int) (w : World) (HR : LRow w E g cap ls) (hk : ls[k]? = some x) (hx : LyOk x) (hj0 : 0 ≤ j) (hj1 : j ≤ 100000000) :
    Calls Try.prog 35 #[.pointer (some ⟨g, k * 7, none⟩), .int .i64 j] w fun e w' => e = .returned (.tuple #[.int .i64 (warmX x j).2.1, .bool (warmX x j).2.2]) ∧ LRow w' E g cap (ls.set k (warmX x j).1) ∧ w.grownBy w' (some g) := by
  obtain ⟨f, i, v, d, t, h, a⟩ := x
  have hb : Lb f i v d t h a := ⟨hx.f, hx.i, hx.v, hx.d, hx.g, hx.h, hx.a⟩
  have HH := Lib.hid (And.intro HR (And.intro hk hb))
  obtain ⟨c0, c1, c2, c3, c4, c5, c6⟩ := HR.lyAt hk
  simp only at c0 c1 c2 c3 c4 c5 c6
  have hc := coldN_bd hx.i hx.g
  have b1 := hx.i
  have b2 := hx.v
  have b4 := hx.g
  simp only at hc b1 b2 b4
  clear HR hk hb hx
  by_cases hlt : j < coldN i t
  · have HW := Lib.hid (show warmX ⟨f, i, v, d, t, h, a⟩ j = ({ form := f, ice := i, water := v, dens := d, deg := min (t + j * 1000 / (21 * i)) 0, hard := h, age := a }, 0, false) from by simp [warmX, coldL, hlt])
    go_enter Try.func35, Try.ntmps35
    go_wp2_with fail
    refine (cold_t _ _ _ _ _ _ _ _ HH.out.2.2).mono ?_
    rintro e w1 ⟨rfl, hb1⟩
    have HB1 := Lib.hid hb1
    have HR1 := Lib.hid (HH.out.1.below hb1)
    obtain ⟨c0, c1, c2, c3, c4, c5, c6⟩ := HR1.out.lyAt HH.out.2.1
    simp only at c0 c1 c2 c3 c4 c5 c6
    have f4 := HR1.out.free (k * 7 + 4)
    clear hb1 c0 c2 c3 c5 c6
    have q0 : 0 ≤ j * 1000 / (21 * i) := Int.ediv_nonneg (by omega) (by omega)
    have q1 : j * 1000 / (21 * i) ≤ j * 1000 := Int.ediv_le_self _ (by omega)
    go_wp2_with fail
    go_region
    all_goals go_wp2_with fail
    all_goals go_ret2
    all_goals rw [HW.out]
    · exact ⟨rfl, by rw [show min (t + j * 1000 / (21 * i)) 0 = 0 by omega]; exact (HR1.out.set_deg HH.out.2.1 0).drewN 1, grown_drewN (grown_setCell (below_grownBy HB1.out _) rfl _) 1⟩
    · exact ⟨rfl, by rw [show min (t + j * 1000 / (21 * i)) 0 = t + j * 1000 / (21 * i) by omega]; exact (HR1.out.set_deg HH.out.2.1 _).drewN 1, grown_drewN (grown_setCell (below_grownBy HB1.out _) rfl _) 1⟩
  · have HW := Lib.hid (show ∀ q, min (min ((j - coldN i t) / 334) (i - 1)) (1000000 - v) = q → warmX ⟨f, i, v, d, t, h, a⟩ j = ({ form := f, ice := i - q, water := v + q, dens := d, deg := 0, hard := h, age := a }, j - coldN i t - q * 334, decide (334 ≤ j - coldN i t - q * 334)) from by intro q hq; simp [warmX, coldL, hlt, hq])
    obtain ⟨q, hq⟩ : ∃ q, min (min ((j - coldN i t) / 334) (i - 1)) (1000000 - v) = q := ⟨_, rfl⟩
    have hif : (if 1000000 - v < if i - 1 < (j - coldN i t) / 334 then i - 1 else (j - coldN i t) / 334 then 1000000 - v else if i - 1 < (j - coldN i t) / 334 then i - 1 else (j - coldN i t) / 334) = q := by rw [← hq]; (repeat' split) <;> omega
    have hqb : 0 ≤ q ∧ q ≤ i - 1 ∧ q ≤ 1000000 - v ∧ q * 334 ≤ j - coldN i t := by omega
    rw [HW.out q hq]
    have HIF := Lib.hid hif
    have HQB := Lib.hid hqb
    clear hif hq HW hqb
    go_enter Try.func35, Try.ntmps35
    go_wp2_with fail
    refine (cold_t _ _ _ _ _ _ _ _ HH.out.2.2).mono ?_
    rintro e w1 ⟨rfl, hb1⟩
    have HB1 := Lib.hid hb1
    have HR1 := Lib.hid (HH.out.1.below hb1)
    obtain ⟨c0, c1, c2, c3, c4, c5, c6⟩ := HR1.out.lyAt HH.out.2.1
    simp only at c0 c1 c2 c3 c4 c5 c6
    have f4 := HR1.out.free (k * 7 + 4)
    clear hb1 c0 c3 c5 c6
    go_wp2_with fail
    generalize hwr : World.setCell _ _ _ = wr
    have HR2 := Lib.hid (show LRow wr E g cap (ls.set k ⟨f, i, v, d, 0, h, a⟩) ∧ w.grownBy wr (some g) from by
      rw [← hwr]
      exact ⟨HR1.out.set_deg HH.out.2.1 0, grown_setCell (below_grownBy HB1.out _) rfl _⟩)
    have HK2 := Lib.hid (LRow.at_set (y := ⟨f, i, v, d, 0, h, a⟩) HH.out.2.1)
    clear hwr f4 c1 c2 c4
    obtain ⟨c0, c1, c2, c3, c4, c5, c6⟩ := HR2.out.1.lyAt HK2.out
    simp only at c0 c1 c2 c3 c4 c5 c6
    have f1 := HR2.out.1.free (k * 7 + 1)
    have f2 := HR2.out.1.free (k * 7 + 2)
    clear c0 c3 c4 c5 c6
    go_quiet (fail)
    rw [HIF.out]
    have hqb := HQB.out
    go_wp2_with fail
    go_ret2
    have hs1 := HR2.out.1.set_ice HK2.out (i - q)
    have hs2 := hs1.set_water (LRow.at_set HK2.out) (v + q)
    rw [set_set, set_set] at hs2
    exact ⟨rfl, hs2.drewN 1, grown_drewN (grown_setCell (grown_setCell HR2.out.2 rfl _) rfl _) _⟩
set_option maxRecDepth 100000 in
set_option maxHeartbeats 1600000 in
theorem cool_t (E g cap k : Nat) (ls : List Ly) (x : Ly) (j : Int) (w : World) (HR : LRow w E g cap ls) (hk : ls[k]? = some x) (hx : LyOk x) (hj0 : 0 ≤ j) (hj1 : j ≤ 100000000) :
    Calls Try.prog 36 #[.pointer (some ⟨g, k * 7, none⟩), .int .i64 j] w fun e w' => e = .returned (.tuple #[.int .i64 (coolX x j).2.1, .bool (coolX x j).2.2]) ∧ LRow w' E g cap (ls.set k (coolX x j).1) ∧ w.grownBy w' (some g) := by
  obtain ⟨f, i, v, d, t, h, a⟩ := x
  obtain ⟨c0, c1, c2, c3, c4, c5, c6⟩ := HR.lyAt hk
  simp only at c0 c1 c2 c3 c4 c5 c6
  have f1 := HR.free (k * 7 + 1)
  have f2 := HR.free (k * 7 + 2)
  have f4 := HR.free (k * 7 + 4)
  have b1 := hx.i
  have b2 := hx.v
  have b4 := hx.g
  simp only at b1 b2 b4
  obtain ⟨q, hq⟩ : ∃ q, min (min (j / 334) v) (1000000 - i) = q := ⟨_, rfl⟩
  have hif : (if 1000000 - i < if v < j / 334 then v else j / 334 then 1000000 - i else if v < j / 334 then v else j / 334) = q := by rw [← hq]; (repeat' split) <;> omega
  have hqb : 0 ≤ q ∧ q ≤ v ∧ q ≤ 1000000 - i ∧ q * 334 ≤ j := by omega
  have hs1 := HR.set_water hk (v - q)
  have hs2 := hs1.set_ice (LRow.at_set hk) (i + q)
  rw [set_set] at hs2
  have HS := Lib.hid hs2
  have HK2 := Lib.hid (LRow.at_set (y := ⟨f, i + q, v - q, d, t, h, a⟩) hk)
  have HW := Lib.hid (show coolX ⟨f, i, v, d, t, h, a⟩ j = if 0 < v - q then (⟨f, i + q, v - q, d, t, h, a⟩, j - q * 334, false) else (⟨f, i + q, v - q, d, t - min ((j - q * 334) * 1000 / (21 * (i + q))) (t + 4000), h, a⟩, (j - q * 334) - min ((min ((j - q * 334) * 1000 / (21 * (i + q))) (t + 4000) * 21 * (i + q) + 999) / 1000) (j - q * 334), decide (t - min ((j - q * 334) * 1000 / (21 * (i + q))) (t + 4000) = -4000)) from by simp [coolX, hq])
  have HIF := Lib.hid hif
  have HQB := Lib.hid hqb
  clear hif hq HR hk hx hs1 hs2 c0 c3 c5 c6 hqb
  by_cases hlt : 0 < v - q
  · have HW2 := Lib.hid (HW.out.trans (if_pos hlt))
    rw [HW2.out]
    have HLT := Lib.hid hlt
    clear HW2 HW hlt
    go_enter Try.func36, Try.ntmps36
    go_wp2_with fail
    go_quiet (fail)
    rw [HIF.out]
    have hqb := HQB.out
    have hlt := HLT.out
    go_wp2_with fail
    go_ret2
    exact ⟨rfl, HS.out, grown_setCell (p := ⟨g, k * 7 + 1, none⟩) (grown_setCell (p := ⟨g, k * 7 + 2, none⟩) (grown_drewN (World.grownBy.refl w (some g)) _) rfl _) rfl _⟩
  · have HW2 := Lib.hid (HW.out.trans (if_neg hlt))
    rw [HW2.out]
    have HLT := Lib.hid hlt
    clear HW2 HW hlt
    go_enter Try.func36, Try.ntmps36
    go_wp2_with fail
    go_quiet (fail)
    rw [HIF.out]
    have hqb := HQB.out
    have hlt := HLT.out
    go_wp2_with fail
    generalize hwr : World.setCell _ _ _ = wr
    have HR2 := Lib.hid (show LRow wr E g cap (ls.set k ⟨f, i + q, v - q, d, t, h, a⟩) ∧ w.grownBy wr (some g) from by
      rw [← hwr]
      exact ⟨HS.out, grown_setCell (p := ⟨g, k * 7 + 1, none⟩) (grown_setCell (p := ⟨g, k * 7 + 2, none⟩) (grown_drewN (World.grownBy.refl w (some g)) _) rfl _) rfl _⟩)
    clear hwr f1 f2 f4 c1 c2 c4
    obtain ⟨c0, c1, c2, c3, c4, c5, c6⟩ := HR2.out.1.lyAt HK2.out
    simp only at c0 c1 c2 c3 c4 c5 c6
    have f4 := HR2.out.1.free (k * 7 + 4)
    clear c0 c2 c3 c5 c6
    obtain ⟨J, hJ⟩ : ∃ J, J = j - q * 334 := ⟨_, rfl⟩
    obtain ⟨I, hI⟩ : ∃ I, I = i + q := ⟨_, rfl⟩
    rw [← hJ]
    rw [← hI] at c1
    have hJb : 0 ≤ J ∧ J ≤ 100000000 := by omega
    have hIb : 1 ≤ I ∧ I ≤ 1000000 := by omega
    have hsd0 : 0 ≤ J * 1000 / (21 * I) := Int.ediv_nonneg (by omega) (by omega)
    have hsd1 : J * 1000 / (21 * I) ≤ J * 1000 := Int.ediv_le_self _ (by omega)
    have HJI := Lib.hid (And.intro hJ hI)
    clear hJ hI hqb hlt b1 b2
    obtain ⟨D, hD⟩ : ∃ D, min (J * 1000 / (21 * I)) (t + 4000) = D := ⟨_, rfl⟩
    have hif2 : (if t + 4000 < J * 1000 / (21 * I) then t + 4000 else J * 1000 / (21 * I)) = D := by rw [← hD]; split <;> omega
    have hDb : 0 ≤ D ∧ D ≤ 4000 ∧ D ≤ t + 4000 := by omega
    have HIF2 := Lib.hid hif2
    have HDD := Lib.hid (And.intro hDb hD)
    clear hif2 hDb hD
    go_quiet (fail)
    rw [HIF2.out]
    have hDb := HDD.out.1
    have hm1 : 0 ≤ D * 21 * I := Int.mul_nonneg (by omega) (by omega)
    have hm2 : D * 21 * I ≤ 84000 * 1000000 := Int.mul_le_mul (by omega) (by omega) (by omega) (by omega)
    have hwd : IntKind.i64.wrap (D * 21) = D * 21 := IntWalk.i64_in _ (by omega)
    clear hsd0 hsd1
    go_wp2_with fail
    refine (divUp_t _ _ hm1 (by omega)).mono ?_
    rintro e w2 ⟨rfl, rfl⟩
    obtain ⟨U, hU⟩ : ∃ U, U = (D * 21 * I + 999) / 1000 := ⟨_, rfl⟩
    have hUb : 0 ≤ U ∧ U ≤ 84000001 := by omega
    rw [← hU]
    have HU := Lib.hid hU
    clear hU hm1 hm2 hwd
    have HS3 := HR2.out.1.set_deg HK2.out (t - D)
    rw [set_set, ← HJI.out.2] at HS3
    have HS4 := Lib.hid HS3
    clear HS3
    go_wp2_with fail
    all_goals
      go_quiet (fail)
      go_wp2_with fail
      go_ret2
      rw [← HJI.out.1, ← HJI.out.2, HDD.out.2, ← HU.out]
      exact ⟨ret_ib (by omega) (by rfl), HS4.out.drewN 1, grown_drewN (grown_setCell (p := ⟨g, k * 7 + 4, none⟩) (grown_drewN HR2.out.2 _) rfl _) _⟩
/-- What a change of a layer by heat is to do. -/
def HeatAt (F : Nat) (ch : Ly → Int → Ly × Int × Bool) : Prop :=
  ∀ (E g cap k : Nat) (ls : List Ly) (x : Ly) (j : Int) (w : World), LRow w E g cap ls → ls[k]? = some x → LyOk x → 0 ≤ j → j ≤ 100000000 →
    Calls Try.prog F #[.pointer (some ⟨g, k * 7, none⟩), .int .i64 j] w fun e w' => e = .returned (.tuple #[.int .i64 (ch x j).2.1, .bool (ch x j).2.2]) ∧ LRow w' E g cap (ls.set k (ch x j).1) ∧ w.grownBy w' (some g)
set_option maxRecDepth 100000 in
set_option maxHeartbeats 800000 in
theorem heatFromTop_t (F : Nat) (ch : Ly → Int → Ly × Int × Bool) (D C : Ly → Int) (E base : Nat) (A : Option Addr) (n c : Nat) (ls : List Ly) (j : Int) (w : World) (eg : ∀ args w, (callFunc F args).run Try.prog w = .ok (.enter F args) w) (hf : HeatAt F ch)
    (hch : ∀ x j, LyOk x → 0 ≤ j → Kept D C x (ch x j).1 j (ch x j).2.1) (H : LBag w E base A n c ls) (hj0 : 0 ≤ j) (hj1 : j ≤ 100000000) :
    Calls Try.prog 34 #[.slice A n c, .int .i64 j, .func (.func F) #[] #[]] w fun e w' => e = .returned (.int .i64 (heatF ch n ls j).2) ∧ LBag w' E base A n c (heatF ch n ls j).1 ∧ (∀ W, Below base W w → base ≤ w.heap.size → Below base W w') := by
  have HF := Lib.hid hf
  have HCH := Lib.hid hch
  have hn := H.2.1
  have HH := Lib.hid H
  clear hf hch H
  go_enter Try.func34, Try.ntmps34
  go_wp2_with fail
  go_loopw [1, 7] (fun jv kv wr => ∃ (m : Nat) (ls' : List Ly) (j' : Int), m ≤ n ∧ kv = .int .i64 ((m : Int) - 1) ∧ jv = .int .i64 j' ∧ 0 ≤ j' ∧ j' ≤ 100000000 ∧ LBag wr E base A n c ls' ∧ Hid (heatF ch n ls j = heatF ch m ls' j') ∧ Hid (∀ W, Below base W w → base ≤ w.heap.size → Below base W wr ∧ base ≤ wr.heap.size)) (fun _ kv _ => (intOf kv + 1).toNat)
  case atStart => exact ⟨n, ls, j, Nat.le_refl _, rfl, rfl, hj0, hj1, HH.out, rfl, fun W h1 h2 => ⟨h1, h2⟩⟩
  case round =>
    clear HH
    obtain ⟨m, ls', j', hm, rfl, rfl, hj0', hj1', hbag, HE, HB⟩ := hrel
    cases m with
    | zero =>
      have HR := Lib.hid hbag
      clear hbag
      go_wp2_with fail
      go_ret
      exact ⟨ret_int (by rw [HE.out]; rfl), by rw [HE.out]; exact HR.out, fun W h1 h2 => (HB.out W h1 h2).1⟩
    | succ m =>
      obtain ⟨h1, h2, h3, h4⟩ := hbag
      obtain ⟨g, rfl, hbg, hrow⟩ := h4 (by omega)
      obtain ⟨x, hx⟩ : ∃ x, ls'[m]? = some x := ⟨_, List.getElem?_eq_getElem (by omega)⟩
      have hok := h3 x (List.mem_of_getElem? hx)
      have HK := Lib.hid (HCH.out x j' hok hj0')
      have hlo := HK.out.low
      have hup := HK.out.up
      have HA := Lib.hid (And.intro hx (And.intro hok (And.intro hrow (And.intro h1 (And.intro h3 hbg)))))
      have hlt := hrow.lt
      have hmi : (m : Int) < (n : Int) := by omega
      have hms : (((m + 1 : Nat) : Int) - 1) = (m : Int) := by omega
      rw [hms]
      clear hx hok hrow h1 h3 h4 hms
      cases hmore : (ch x j').2.2
      · have HE2 := Lib.hid (HE.out.trans (heatF_end HA.out.1 hmore))
        have HM := Lib.hid hmore
        clear hmore
        go_wp2_with fail
        refine (HF.out E g c m ls' x j' _ HA.out.2.2.1 HA.out.1 HA.out.2.1 hj0' hj1').mono ?_
        rintro e w2 ⟨rfl, hrow2, hgr2⟩
        rw [HM.out]
        generalize hr : (ch x j').2.1 = r at hlo hup
        have HRR := Lib.hid hr
        have HZ := Lib.hid (And.intro hrow2 hgr2)
        clear hr hrow2 hgr2
        go_wp2_with fail
        go_ret
        exact ⟨ret_int (by rw [HE2.out, ← HRR.out]), by rw [HE2.out]; exact ⟨by simp [HA.out.2.2.2.1], h2, mem_set_ok HA.out.2.2.2.2.1 HK.out.ok, fun _ => ⟨g, rfl, hbg, HZ.out.1⟩⟩, fun W k1 k2 => below_grown (HB.out W k1 k2).1 HZ.out.2 (HB.out W k1 k2).2 hbg⟩
      · have HE2 := Lib.hid (HE.out.trans (heatF_go HA.out.1 hmore))
        have HM := Lib.hid hmore
        clear hmore
        go_wp2_with fail
        refine (HF.out E g c m ls' x j' _ HA.out.2.2.1 HA.out.1 HA.out.2.1 hj0' hj1').mono ?_
        rintro e w2 ⟨rfl, hrow2, hgr2⟩
        rw [HM.out]
        generalize hr : (ch x j').2.1 = r at hlo hup
        have HRR := Lib.hid hr
        have HZ := Lib.hid (And.intro hrow2 hgr2)
        clear hr hrow2 hgr2
        go_wp2_with fail
        go_roundw
        case rel => exact ⟨m, _, r, by omega, rfl, rfl, by omega, by omega, ⟨by simp [HA.out.2.2.2.1], h2, mem_set_ok HA.out.2.2.2.2.1 HK.out.ok, fun _ => ⟨g, rfl, hbg, HZ.out.1⟩⟩, by rw [HE2.out, HRR.out]; exact Lib.hid rfl, fun W k1 k2 => ⟨below_grown (HB.out W k1 k2).1 HZ.out.2 (HB.out W k1 k2).2 hbg, Nat.le_trans (HB.out W k1 k2).2 HZ.out.2.size⟩⟩
        case measure => simp [intOf]
end Go.Proofs.Ytlfjjdglffiinaa
