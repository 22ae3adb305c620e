/-
  The zones of a line, both sides.
-/
import Derived.Test.YtbakmcjngadebaaEvR
namespace Go.Proofs.Ytbakmcjngadebaa
open Go.ChangeShapes Go.WideShapes Go.ChangeAt Go.RowKit Go.Deep
set_option linter.unusedVariables false

/-- The worst zone of a cell over the first events. -/
def zwF (c : Nat) (t : Int) (e : Ev) : Int := max t (zoneV (e.2.getD c 0) e.1)
def zw (es : List Ev) (c k : Nat) : Int := (es.take k).foldl (zwF c) 0
theorem zw_snoc {es : List Ev} {c k : Nat} {e : Ev} (h : es[k]? = some e) : zw es c (k + 1) = zwF c (zw es c k) e := by
  unfold zw
  rw [List.take_add_one, h, List.foldl_append]
  rfl
theorem zoneV_bd (p y : Int) : 0 ≤ zoneV p y ∧ zoneV p y ≤ 3 := by
  unfold zoneV
  (repeat' split) <;> omega
theorem zw_bd (es : List Ev) (c k : Nat) : 0 ≤ zw es c k ∧ zw es c k ≤ 3 := by
  induction k with
  | zero => simp [zw]
  | succ k ih =>
    cases hx : es[k]? with
    | none =>
      have : zw es c (k + 1) = zw es c k := by
        unfold zw
        rw [List.take_add_one, hx]
        simp
      rw [this]
      exact ih
    | some e =>
      rw [zw_snoc hx]
      unfold zwF
      have := zoneV_bd (e.2.getD c 0) e.1
      omega
def zonesL (es : List Ev) (m : Nat) : List Int := (List.range m).map fun c : Nat => zw es c es.length
theorem zonesL_len (es : List Ev) (m : Nat) : (zonesL es m).length = m := by simp [zonesL]
theorem zonesL_succ (es : List Ev) (m : Nat) : zonesL es (m + 1) = zonesL es m ++ [zw es m es.length] := by simp [zonesL, List.range_succ]
def zonesC (es : List Ev) : Int := if evOk es = true then (if es.length = 0 then 3 else 0) else 1
def zonesR (es : List Ev) : List Int := if zonesC es = 0 then zonesL es (pAt es 0).length else []
theorem zonesC_ok {es : List Ev} (h : zonesC es = 0) : evOk es = true ∧ es.length ≠ 0 := by
  unfold zonesC at h
  by_cases h1 : evOk es = true
  · rw [if_pos h1] at h
    by_cases h2 : es.length = 0
    · rw [if_pos h2] at h; omega
    · exact ⟨h1, h2⟩
  · rw [if_neg h1] at h; omega
theorem zonesR_ok (es : List Ev) : (∀ y ∈ zonesR es, -9223372036854775808 ≤ y ∧ y ≤ 9223372036854775807) ∧ (zonesR es).length ≤ 1048576 := by
  unfold zonesR
  by_cases h : zonesC es = 0
  · rw [if_pos h]
    obtain ⟨h1, h2⟩ := zonesC_ok h
    refine ⟨fun y hy => ?_, ?_⟩
    · simp [zonesL] at hy
      obtain ⟨c, _, rfl⟩ := hy
      have := zw_bd es c es.length
      omega
    · rw [zonesL_len]
      have := evI_iff.1 ((evOk_iff.1 h1).2 0 (by omega))
      omega
  · rw [if_neg h]
    simp
set_option maxRecDepth 100000 in
set_option maxHeartbeats 2000000 in
theorem ZonesOf_s (A : Option Addr) (n c : Nat) (es : List Ev) (w : World) (h : Evs w A n es) :
    Calls Try.prog 52 #[.slice A n c] w fun e w' => ResI 2 w (zonesR es) (zonesC es) e w' := by
  have hn := h.2.1
  have HL := Lib.hid h.1
  cases h1 : evOk es
  · have HA := Lib.hid (show zonesR es = [] ∧ zonesC es = 1 by simp [zonesR, zonesC, h1])
    go_enter Try.func52, Try.ntmps52
    go_wp2_with fail
    refine (l16Ok_any _ _ _ es _ h).mono ?_
    rintro e w1 ⟨rfl, q1, rfl⟩
    rw [h1]
    go_wp2_with fail
    go_ret2
    rw [HA.out.1, HA.out.2]
    exact ResI.nil (below_drewN (Below.refl _ _) _)
  · have HO := Lib.hid h1
    by_cases hn0 : n = 0
    · have HA := Lib.hid (show zonesR es = [] ∧ zonesC es = 3 by simp [zonesR, zonesC, h1, HL.out, hn0])
      subst hn0
      go_enter Try.func52, Try.ntmps52
      go_wp2_with fail
      refine (l16Ok_any _ _ _ es _ h).mono ?_
      rintro e w1 ⟨rfl, q1, rfl⟩
      rw [h1]
      go_wp2_with fail
      go_ret2
      rw [HA.out.1, HA.out.2]
      exact ResI.nil (below_drewN (Below.refl _ _) _)
    · obtain ⟨b, off, y0, P0, m0, d0, ps0, rfl, HX0, hd1, hd2, hy0, hp0⟩ := h.at_ (show 0 < n by omega)
      simp only [Nat.zero_mul, Nat.add_zero] at hd1 hd2
      have hm63 := hp0.2.1
      have HM0 := Lib.hid (show (pAt es 0).length = m0 by rw [pAt_eq HX0.out, hp0.1])
      obtain ⟨hm0, hm64⟩ : 0 < m0 ∧ m0 ≤ 64 := by have := ev_facts h1 HX0.out; rw [hp0.1] at this; omega
      have hnp : 0 < n := by omega
      have hn0' : ¬ (n : Int) = 0 := by omega
      have h8 := (evOk_iff.1 h1).1
      rw [HL.out] at h8
      have HA := Lib.hid (show zonesR es = zonesL es m0 ∧ zonesC es = 0 by
        have : zonesC es = 0 := by simp [zonesC, h1, HL.out]; omega
        exact ⟨by rw [zonesR, if_pos this, HM0.out], this⟩)
      have HH := Lib.hid (And.intro h (And.intro hd1 hd2))
      clear hp0 hd1 hd2
      go_enter Try.func52, Try.ntmps52
      go_wp2_with fail
      refine (l16Ok_any _ _ _ es _ h).mono ?_
      rintro e w1 ⟨rfl, q1, rfl⟩
      rw [h1]
      clear h h1
      go_wp2_with fail
      have hown0 := World.ownsRow_lit (base := w.heap.size) (e := 2) (size := 1) (w.drewN q1) #[] 0 (Nat.le_refl _) (by simp) rfl
      have hb0 := (below_drewN (Below.refl w.heap.size w) q1).alloc (Nat.le_refl _) (.cells #[] 2)
      rw [show ((n : Int) == 0) = false by simpa using hn0']
      go_loopw [4, 5] (fun o i wr => ∃ k : Nat, k ≤ m0 ∧ i = .int .i64 k ∧ Below w.heap.size w wr ∧ wr.ownsRow w.heap.size 2 1 o k ((zonesL es k).map (.int .i64))) (fun _ i _ => m0 - (intOf i).toNat)
      case atStart => exact ⟨0, Nat.zero_le _, rfl, hb0, hown0⟩
      case round =>
        clear hown0 hb0
        obtain ⟨k, hk, rfl, hbl, hown⟩ := hrel
        have hd2 := cell_kept hbl HH.out.2.2
        have HB := Lib.hid (And.intro hbl hown)
        have hki0 : 0 < n := hnp
        by_cases hlt : k < m0
        · have hcm : (k : Int) < (m0 : Int) := by omega
          clear hbl hown
          go_wp2_with fail
          go_loopw [6, 7] (fun t i w2 => ∃ j q : Nat, j ≤ n ∧ i = .int .i64 j ∧ w2 = wr.drewN q ∧ t = .int .i64 (zw es k j)) (fun _ i _ => n - (intOf i).toNat)
          case atStart => exact ⟨0, 0, Nat.zero_le _, rfl, rfl, by simp [zw]⟩
          case round =>
            obtain ⟨j, q, hj, rfl, rfl, rfl⟩ := hrel
            obtain ⟨t, ht⟩ : ∃ t, t = zw es k j := ⟨_, rfl⟩
            rw [← ht]
            have HT := Lib.hid ht
            clear ht
            by_cases hjn : j < n
            · obtain ⟨b', off', y, P, m, d, ps, hAA, HX, hc1, hc2, hy, hp⟩ := (HH.out.1.below HB.out.1).at_ hjn
              obtain ⟨rfl, rfl⟩ : b = b' ∧ off = off' := by
                injection hAA with hAA
                injection hAA with e1 e2 _
                exact ⟨e1, e2⟩
              obtain ⟨f1, f2, f3, f4, f5⟩ := ev_facts HO.out HX.out
              rw [HM0.out, hp.1] at f5
              subst f5
              obtain ⟨b2, off2, x, rfl, HX2, hcx, hx1, hx2⟩ := hp.at_ hlt
              have HS := Lib.hid (show zw es k (j + 1) = max t (zoneV x y) by
                have hx' := HX2.out
                rw [zw_snoc HX.out, ← HT.out, zwF]
                simp [hx'])
              have hki : (j : Int) < (n : Int) := by omega
              clear hp f4 hAA
              go_wp2_with fail
              go_quiet ((first | (go_at_call 95; exact quiet_add_left (zoneOf_s _ _ _)) | (go_at_call 67; exact quiet_add_left (l00Max_any _ _ _))))
              go_wp2_with fail
              go_roundw
              case rel => exact ⟨j + 1, _, by omega, by go_num, rfl, by rw [HS.out]⟩
              case measure => simp [intOf]; omega
            · obtain rfl : j = n := by omega
              clear hjn
              have HZ := Lib.hid (show zonesL es (k + 1) = zonesL es k ++ [t] by rw [zonesL_succ, HL.out, HT.out])
              have HO2 := Lib.hid (And.intro (below_drewN HB.out.1 q) (own_drewN HB.out.2 q))
              clear hd2
              go_wp2_with (at_builtin; refine wp_app_int rfl (.tmp 46) (.tmp 48) 22 rfl w.heap.size 2 Try.underlying22 info_int _ _ (zonesL es k) _ rfl HO2.out.2 rfl (by omega) HO2.out.1.size ?_; intro v' w3 hown3 hgrow3 hv3)
              obtain ⟨g, cc, rfl⟩ := hv3
              have HF := Lib.hid (And.intro (HO2.out.1.grown hgrow3 HO2.out.1.size (own_blk HO2.out.2)) hown3)
              clear hown3 hgrow3
              go_wp2_with fail
              go_roundw
              case rel => exact ⟨k + 1, by omega, by go_num, HF.out.1, by rw [HZ.out]; exact HF.out.2⟩
              case measure => simp [intOf]; omega
        · obtain rfl : k = m0 := by omega
          clear hlt
          obtain ⟨A', c', rfl, _⟩ := own_form hown
          clear hbl hown
          go_wp2_with fail
          go_ret2
          rw [HA.out.1, HA.out.2]
          have hll := zonesL_len es k
          exact ⟨A', c', by rw [hll]; rfl, by rw [hll]; exact Fresh.of_own HB.out.2, HB.out.1⟩
set_option maxRecDepth 100000 in
set_option maxHeartbeats 2000000 in
theorem ZonesOf_i (A : Option Addr) (n c : Nat) (es : List Ev) (w : World) (h : Evs w A n es) :
    Calls Try.prog 53 #[.slice A n c] w fun e w' => ResI 2 w (zonesR es) (zonesC es) e w' := by
  have hn := h.2.1
  have HL := Lib.hid h.1
  cases h1 : evOk es
  · have HA := Lib.hid (show zonesR es = [] ∧ zonesC es = 1 by simp [zonesR, zonesC, h1])
    go_enter Try.func53, Try.ntmps53
    go_wp2_with fail
    refine (ValidEvents_i _ _ _ es _ h).mono ?_
    rintro e w1 ⟨rfl, hb1⟩
    rw [h1]
    go_wp2_with fail
    go_ret2
    rw [HA.out.1, HA.out.2]
    exact ResI.nil hb1
  · have HO := Lib.hid h1
    by_cases hn0 : n = 0
    · have HA := Lib.hid (show zonesR es = [] ∧ zonesC es = 3 by simp [zonesR, zonesC, h1, HL.out, hn0])
      subst hn0
      go_enter Try.func53, Try.ntmps53
      go_wp2_with fail
      refine (ValidEvents_i _ _ _ es _ h).mono ?_
      rintro e w1 ⟨rfl, hb1⟩
      rw [h1]
      go_wp2_with fail
      go_ret2
      rw [HA.out.1, HA.out.2]
      exact ResI.nil hb1
    · obtain ⟨b, off, y0, P0, m0, d0, ps0, rfl, HX0, hd1, hd2, hy0, hp0⟩ := h.at_ (show 0 < n by omega)
      simp only [Nat.zero_mul, Nat.add_zero] at hd1 hd2
      have hm63 := hp0.2.1
      have HM0 := Lib.hid (show (pAt es 0).length = m0 by rw [pAt_eq HX0.out, hp0.1])
      obtain ⟨hm0, hm64⟩ : 0 < m0 ∧ m0 ≤ 64 := by have := ev_facts h1 HX0.out; rw [hp0.1] at this; omega
      have hnp : 0 < n := by omega
      have hn0' : ¬ (n : Int) = 0 := by omega
      have h8 := (evOk_iff.1 h1).1
      rw [HL.out] at h8
      have HA := Lib.hid (show zonesR es = zonesL es m0 ∧ zonesC es = 0 by
        have : zonesC es = 0 := by simp [zonesC, h1, HL.out]; omega
        exact ⟨by rw [zonesR, if_pos this, HM0.out], this⟩)
      have hmk := fun W => run_make_row' (P := Try.prog) 22 2 (.int .i64 0) 8 Try.underlying22 info_int rfl .i64 .i64 m0 (by omega) (by omega) W
      have HH := Lib.hid h
      clear hp0
      go_enter Try.func53, Try.ntmps53
      go_wp2_with fail
      refine (ValidEvents_i _ _ _ es _ h).mono ?_
      rintro e w1 ⟨rfl, hb1⟩
      rw [h1]
      replace hd2 := cell_kept hb1 hd2
      have HB1 := Lib.hid hb1
      clear h h1 hd1 hb1
      go_wp2_with fail
      rw [show ((n : Int) == 0) = false by simpa using hn0']
      clear hd2 hmk
      go_loopw [25] (fun i wr => ∃ k : Nat, k ≤ n ∧ i = .int .i64 k ∧ Below w.heap.size w wr ∧ wr.rowIs w1.heap.size 2 m0 (fun j => .int .i64 (zw es j k))) (fun i _ => n - (intOf i).toNat)
      case atStart => exact ⟨0, Nat.zero_le _, rfl, HB1.out.trans (((Below.refl w1.heap.size w1).alloc (Nat.le_refl _) _).mono HB1.out.size), (World.rowIs_made _ _ _ _).congr (fun _ _ => by simp [zw])⟩
      case round =>
        obtain ⟨k, hk, rfl, hbl, hrow⟩ := hrel
        by_cases hlt : k < n
        · obtain ⟨b', off', y, P, m, d, ps, hAA, HX, hc1, hc2, hy, hp⟩ := HH.out.at_ hlt
          replace hc1 := cell_kept hbl hc1
          replace hc2 := cell_kept hbl hc2
          obtain ⟨rfl, rfl⟩ : b = b' ∧ off = off' := by
            injection hAA with hAA
            injection hAA with e1 e2 _
            exact ⟨e1, e2⟩
          obtain ⟨f1, f2, f3, f4, f5⟩ := ev_facts HO.out HX.out
          rw [HM0.out, hp.1] at f5
          subst f5
          have hglt := hrow.lt
          have HB := Lib.hid (And.intro hbl (And.intro hrow hp))
          obtain ⟨wo, hwo⟩ : ∃ wo, wo = wr := ⟨_, rfl⟩
          have hki : (k : Int) < (n : Int) := by omega
          clear hbl hrow hp f4 hAA
          go_wp2_with fail
          obtain ⟨wq, hwq⟩ : ∃ wq, wq = wr.alloc (.cells #[.int .i64 y, .slice P m d] 68) := ⟨_, rfl⟩
          have hbx : Below wr.heap.size wr wq := by rw [hwq]; exact (Below.refl wr.heap.size wr).alloc (Nat.le_refl _) _
          have hx0 : wq.cell? ⟨wr.heap.size, 0, none⟩ = some (.int .i64 y) := by rw [hwq]; exact (box_ev wr y P m d _).1
          have HW := Lib.hid (And.intro hbx hx0)
          have HBQ := Lib.hid (HB.out.1.trans (hbx.mono HB.out.1.size))
          have hgq : w.heap.size ≤ w1.heap.size := HB1.out.size
          rw [← hwq]
          clear hwq hbx hx0 hc1 hc2
          go_loopw [32] (fun i w2 => ∃ j : Nat, j ≤ m ∧ i = .int .i64 j ∧ wq.grownBy w2 (some w1.heap.size) ∧ w2.rowIs w1.heap.size 2 m (fun t => .int .i64 (if t < j then zw es t (k + 1) else zw es t k))) (fun i _ => m - (intOf i).toNat)
          case atStart => exact ⟨0, Nat.zero_le _, rfl, World.grownBy.refl _ _, (HB.out.2.1.of_block (HW.out.1.block _ hglt)).congr (fun _ _ => by simp)⟩
          case round =>
            obtain ⟨j, hj, rfl, hgr, hrow⟩ := hrel
            by_cases hjm : j < m
            · obtain ⟨b2, off2, x, rfl, HX2, hcx, hx1, hx2⟩ := HB.out.2.2.at_ hjm
              have HBW := Lib.hid (HBQ.out.grown hgr HBQ.out.size (fun g' e => by injection e with e; omega))
              replace hcx := cell_kept HBW.out hcx
              have hxb := hgr.cell HW.out.2 (fun e => by injection e with e; simp at e; omega)
              have hz := hrow.cell (i := j) hjm
              have hzf := hrow.frozen j
              rw [if_neg (by omega)] at hz
              obtain ⟨t, ht⟩ : ∃ t, t = zw es j k := ⟨_, rfl⟩
              rw [← ht] at hz
              have HS := Lib.hid (show zw es j (k + 1) = if t < zoneV x y then zoneV x y else t by
                have hx' := HX2.out
                rw [zw_snoc HX.out, ← ht, zwF]
                simp [hx']
                omega)
              have HR := Lib.hid (And.intro hgr hrow)
              have hji : (j : Int) < (m : Int) := by omega
              clear ht hgr hrow
              go_wp2_with fail
              refine wp_region_still_tail 12 (by kernel_rfl) (by kernel_rfl) ?_
              simp only [List.take_succ_cons, List.take_zero, List.drop_succ_cons, List.drop_zero]
              repeat still_step
              still_call ((zoneOf_i x y _).mono fun e w'' ⟨h1, h2⟩ => ⟨h1, h2.symm⟩)
              repeat still_step
              refine wpStill_nil ?_
              change wpList _ _ _ _ _ wr.drew
              have hzd : wr.drew.cell? ⟨w1.heap.size, j, none⟩ = some (.int .i64 t) := hz
              have hzfd : wr.drew.frozen? ⟨w1.heap.size, j, none⟩ = false := hzf
              have HS2 := Lib.hid (And.intro (HR.out.2.set j (.int .i64 (if t < zoneV x y then zoneV x y else t))) (grown_setCell HR.out.1 (p := ⟨w1.heap.size, j, none⟩) rfl (.int .i64 (if t < zoneV x y then zoneV x y else t))))
              go_wp2_with fail
              go_roundw
              case rel => exact ⟨j + 1, by omega, by go_num, grown_drewN HS2.out.2 1, (rowIs_drewN HS2.out.1 1).congr (fun i hi => by
                by_cases e : i = j
                · subst e
                  simp only [if_true]
                  rw [if_pos (show i < i + 1 by omega), HS.out]
                · simp only [if_neg e]
                  by_cases e2 : i < j
                  · rw [if_pos e2, if_pos (by omega)]
                  · rw [if_neg e2, if_neg (by omega)])⟩
              case measure => simp [intOf]; omega
            · obtain rfl : j = m := by omega
              clear hjm
              have HF := Lib.hid (And.intro (HBQ.out.grown hgr HBQ.out.size (fun g' e => by injection e with e; omega)) (hrow.congr (g := fun t => .int .i64 (zw es t (k + 1))) (fun i hi => by rw [if_pos hi])))
              clear hgr hrow
              go_wp2_with fail
              go_roundw
              case rel => exact ⟨k + 1, by omega, by go_num, HF.out.1, HF.out.2⟩
              case measure => simp [intOf]; omega
        · obtain rfl : k = n := by omega
          clear hlt
          have HF := Lib.hid (And.intro hbl (rowIs_to_own (n := m0) (cap := m0) (size := 1) (base := w.heap.size) (xs := (zonesL es m0).map (.int .i64)) (by simpa using hrow) HB1.out.size (Nat.le_refl _) (by unfold maxLen; omega) (by simp [zonesL_len]) (fun j hj => by
            have hj' : j < m0 := by omega
            simp [zonesL, hj', HL.out])))
          clear hbl hrow
          go_wp2_with fail
          go_ret2
          rw [HA.out.1, HA.out.2]
          have hll := zonesL_len es m0
          exact ⟨some ⟨w1.heap.size, 0, none⟩, m0, by rw [hll]; rfl, by rw [hll]; exact Fresh.of_own HF.out.2, HF.out.1⟩
end Go.Proofs.Ytbakmcjngadebaa
