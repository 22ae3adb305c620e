/-
  The parts of a line of zones: both sides.
-/
import Derived.Test.YtbakmcjngadebaaZonP
namespace Go.Proofs.Ytbakmcjngadebaa
open Go.ChangeShapes Go.WideShapes Go.ChangeAt Go.RowKit Go.Deep
set_option linter.unusedVariables false

set_option maxRecDepth 100000 in
set_option maxHeartbeats 2000000 in
theorem ZoneParts_s (A : Option Addr) (n c : Nat) (xs : List Int) (w : World) (h : Ints w A n xs) :
    Calls Try.prog 25 #[.slice A n c] w fun e w' => ResR w (zonesPR xs) (zonesPK xs) e w' := by
  have HL := Lib.hid h.1
  cases h1 : lineB xs
  · have HA := Lib.hid (show zonesPR xs = [] ∧ zonesPK xs = 2 by simp [zonesPR, zonesPK, h1])
    go_enter Try.func25, Try.ntmps25
    go_wp2_with fail
    refine (l16Line_any _ _ _ xs _ h).mono ?_
    rintro e w1 ⟨rfl, q1, rfl⟩
    rw [h1]
    go_wp2_with fail
    go_ret2
    rw [HA.out.1, HA.out.2]
    exact ResR.nil (below_drewN (Below.refl _ _) _)
  · have h64 := line64 h1
    rw [HL.out] at h64
    have HA := Lib.hid (show zonesPR xs = partsZ xs n ∧ zonesPK xs = 0 by simp [zonesPR, zonesPK, h1, HL.out])
    have HO := Lib.hid h1
    go_enter Try.func25, Try.ntmps25
    go_wp2_with fail
    refine (l16Line_any _ _ _ xs _ h).mono ?_
    rintro e w1 ⟨rfl, q1, rfl⟩
    rw [h1]
    clear h1
    go_wp2_with fail
    have hown0 := World.ownsRow_lit (base := w.heap.size) (e := 22) (size := 1) (w.drewN q1) #[] 0 (Nat.le_refl _) (by simp) rfl
    have hb0 := (below_drewN (Below.refl w.heap.size w) q1).alloc (Nat.le_refl _) (.cells #[] 22)
    go_loopw [4, 5, 6] (fun o fv i wr => ∃ (k F j : Nat) (rs : Rws), k ≤ n ∧ F ≤ 64 ∧ i = .int .i64 k ∧ fv = .int .i64 F ∧ Below w.heap.size w wr ∧ Hid (RowsB w.heap.size wr o j rs) ∧ Hid (j ≤ k) ∧ Hid (k < n → rs = (cz xs (k + 1)).1 ∧ F = (cz xs (k + 1)).2) ∧ Hid (k = n → rs = partsZ xs n)) (fun _ _ i _ => n - (intOf i).toNat)
    case atStart =>
      exact ⟨0, 0, 0, [], Nat.zero_le _, by omega, rfl, rfl, hb0, RowsB.nil hown0, by show 0 ≤ 0; omega, fun _ => by simp [cz], fun e => by rw [← e]; simp [partsZ]⟩
    case round =>
      clear hown0 hb0
      obtain ⟨k, F, j, rs, hk, hF, rfl, rfl, hbl, HB, HJ, HC, HE⟩ := hrel
      by_cases hlt : k < n
      · obtain ⟨b, off, x, rfl, HX, hc, hx1, hx2⟩ := (h.below hbl).at_ hlt
        obtain ⟨cs, f, d, r1, r2, r3⟩ := HB.out
        have HR := Lib.hid (And.intro r1 (And.intro r2 r3))
        have HBL := Lib.hid hbl
        have hjk : j ≤ k := HJ.out
        have hbw : b < wr.heap.size := cell_lt hc
        clear r1 r2 r3
        have hkk : IntKind.i64.wrap ((k : Int) + 1) = (k : Int) + 1 := IntWalk.i64_in _ (by omega)
        have hk0 : (0 : Int) ≤ (k : Int) + 1 := by omega
        have hk1 : ((k : Int) + 1).toNat = k + 1 := by omega
        by_cases hk2 : k + 1 < n
        · obtain ⟨b', off', y, hAA, HY, hd, hy1, hy2⟩ := (h.below hbl).at_ hk2
          obtain ⟨rfl, rfl⟩ : b = b' ∧ off = off' := by
            injection hAA with hAA
            injection hAA with e1 e2 _
            exact ⟨e1, e2⟩
          have hkn : decide ((k : Int) + 1 < (n : Int)) = true := by simp; omega
          have hkn2 : decide (k + 1 < n) = true := by simp; omega
          have hkn3 : (k : Int) + 1 < (n : Int) := by omega
          have hki : (k : Int) < (n : Int) := by omega
          clear h hbl hAA
          by_cases hxy : y = x
          · have HS := Lib.hid (show zAt xs (k + 1 - 1) = zAt xs (k + 1) by rw [Nat.add_sub_cancel, zAt_eq HX.out, zAt_eq HY.out, hxy])
            subst hxy
            go_wp2_with fail
            go_quiet (fail)
            go_wp2_with fail
            go_roundw
            case rel => exact ⟨k + 1, F, j, rs, by omega, hF, by go_num, rfl, below_drewN HBL.out _, HB.out.drewN _, by show j ≤ k + 1; omega, fun _ => by rw [cz_same (by omega) HS.out]; exact HC.out hlt, fun e => by omega⟩
            case measure => simp [intOf]; omega
          · have HS := Lib.hid (show zAt xs (k + 1 - 1) ≠ zAt xs (k + 1) by rw [Nat.add_sub_cancel, zAt_eq HX.out, zAt_eq HY.out]; exact fun e => hxy e.symm)
            have HP := Lib.hid (show rs ++ [[x, (F : Int), (k : Int)]] = partsZ xs (k + 1) by
              rw [partsZ_open (by omega), (HC.out hlt).1, (HC.out hlt).2, Nat.add_sub_cancel, zAt_eq HX.out])
            have hxy' : (y == x) = false := by simpa using hxy
            have hxy2 : decide (y = x) = false := by simpa using hxy
            go_wp2_with fail
            go_quiet (fail)
            have hin : ∀ W : World, Below W.heap.size W (W.alloc (.cells #[.int .i64 x, .int .i64 F, .int .i64 k] 2)) := fun W => (Below.refl _ _).alloc (Nat.le_refl _) _
            have HI := Lib.hid hin
            clear hin
            go_wp2_with (at_builtin; refine wp_app (wr := (wr.drewN nq).alloc (.cells #[.int .i64 x, .int .i64 F, .int .i64 k] 2)) rfl (.tmp 34) (.tmp 42) 34 rfl w.heap.size 22 (.slice none 0 0) 1 24 Try.underlying34 info_rows rfl (by omega) _ j cs (by rfl) ((own_drewN HR.out.1 nq).alloc _) [.slice (some ⟨wr.heap.size, 0, none⟩) 3 3] rfl (by first | rfl | (show Value.slice (some ⟨_, 0, none⟩) 1 1 = Value.slice (some ⟨_, 0, none⟩) 1 1; simp)) (by intro u hu; simp at hu; subst hu; rfl) (by unfold maxLen; omega) (by omega) (Nat.le_trans HBL.out.size (by simp)) ?_; intro v' w4 hown4 hgrow4 hv4)
            have hrow3 := World.ownsRow_lit (base := w.heap.size) (e := 2) (size := 1) (wr.drewN nq) #[.int .i64 x, .int .i64 F, .int .i64 k] 3 HBL.out.size (by unfold maxLen; omega) rfl
            have HF := Lib.hid (And.intro (RowsB.app (w := wr.drewN nq) (q := wr.heap.size) (c := 3) (r := [x, (F : Int), (k : Int)]) (own_drewN HR.out.1 nq) HR.out.2.1 (fun i hi => HR.out.2.2 i hi) (HI.out _) (Nat.le_refl _) hrow3 hown4 hgrow4) (((below_drewN HBL.out nq).trans ((HI.out (wr.drewN nq)).mono HBL.out.size)).grown hgrow4 (Nat.le_trans HBL.out.size (by simp)) (own_blk HR.out.1)))
            clear hown4 hgrow4 hrow3
            go_wp2_with fail
            go_roundw
            case rel => exact ⟨k + 1, k + 1, j + 1, _, by omega, by omega, by go_num, by go_num, HF.out.2, HF.out.1, by show j + 1 ≤ k + 1; omega, fun _ => by rw [HP.out, cz_new (by omega) HS.out]; exact ⟨rfl, rfl⟩, fun e => by omega⟩
            case measure => simp [intOf]; omega
        · have hkn : decide ((k : Int) + 1 < (n : Int)) = false := by simp; omega
          have hkn2 : decide (k + 1 < n) = false := by simp; omega
          have hkn3 : ¬ (k : Int) + 1 < (n : Int) := by omega
          have hki : (k : Int) < (n : Int) := by omega
          have HP := Lib.hid (show rs ++ [[x, (F : Int), (k : Int)]] = partsZ xs (k + 1) by
            rw [partsZ_open (by omega), (HC.out hlt).1, (HC.out hlt).2, Nat.add_sub_cancel, zAt_eq HX.out])
          clear h hbl
          go_wp2_with fail
          go_quiet (fail)
          have hin : ∀ W : World, Below W.heap.size W (W.alloc (.cells #[.int .i64 x, .int .i64 F, .int .i64 k] 2)) := fun W => (Below.refl _ _).alloc (Nat.le_refl _) _
          have HI := Lib.hid hin
          clear hin
          go_wp2_with (at_builtin; refine wp_app (wr := (wr.drewN nq).alloc (.cells #[.int .i64 x, .int .i64 F, .int .i64 k] 2)) rfl (.tmp 34) (.tmp 42) 34 rfl w.heap.size 22 (.slice none 0 0) 1 24 Try.underlying34 info_rows rfl (by omega) _ j cs (by rfl) ((own_drewN HR.out.1 nq).alloc _) [.slice (some ⟨wr.heap.size, 0, none⟩) 3 3] rfl (by first | rfl | (show Value.slice (some ⟨_, 0, none⟩) 1 1 = Value.slice (some ⟨_, 0, none⟩) 1 1; simp)) (by intro u hu; simp at hu; subst hu; rfl) (by unfold maxLen; omega) (by omega) (Nat.le_trans HBL.out.size (by simp)) ?_; intro v' w4 hown4 hgrow4 hv4)
          have hrow3 := World.ownsRow_lit (base := w.heap.size) (e := 2) (size := 1) (wr.drewN nq) #[.int .i64 x, .int .i64 F, .int .i64 k] 3 HBL.out.size (by unfold maxLen; omega) rfl
          have HF := Lib.hid (And.intro (RowsB.app (w := wr.drewN nq) (q := wr.heap.size) (c := 3) (r := [x, (F : Int), (k : Int)]) (own_drewN HR.out.1 nq) HR.out.2.1 (fun i hi => HR.out.2.2 i hi) (HI.out _) (Nat.le_refl _) hrow3 hown4 hgrow4) (((below_drewN HBL.out nq).trans ((HI.out (wr.drewN nq)).mono HBL.out.size)).grown hgrow4 (Nat.le_trans HBL.out.size (by simp)) (own_blk HR.out.1)))
          clear hown4 hgrow4 hrow3
          go_wp2_with fail
          go_roundw
          case rel => exact ⟨k + 1, k + 1, j + 1, _, by omega, by omega, by go_num, by go_num, HF.out.2, HF.out.1, by show j + 1 ≤ k + 1; omega, fun e => by omega, fun e => by rw [HP.out, e]⟩
          case measure => simp [intOf]; omega
      · obtain rfl : k = n := by omega
        clear hlt
        obtain ⟨cs, f, d, r1, r2, r3⟩ := HB.out
        obtain ⟨A', c', rfl, _⟩ := own_form r1
        have HBL := Lib.hid hbl
        have HRS := Lib.hid (HE.out rfl)
        have HJL := Lib.hid r2
        have hjk : j ≤ k := HJ.out
        clear r1 r2 r3 hbl h
        go_wp2_with fail
        go_ret2
        rw [HA.out.1, HA.out.2, ← HRS.out]
        exact ⟨A', c', by rw [HJL.out]; rfl, by rw [HJL.out]; exact HB.out.fin (by omega) rfl, HBL.out⟩
set_option maxRecDepth 100000 in
set_option maxHeartbeats 2000000 in
theorem ZoneParts_i (A : Option Addr) (n c : Nat) (xs : List Int) (w : World) (h : Ints w A n xs) :
    Calls Try.prog 26 #[.slice A n c] w fun e w' => ResR w (zonesPR xs) (zonesPK xs) e w' := by
  have HL := Lib.hid h.1
  cases h1 : lineB xs
  · have HA := Lib.hid (show zonesPR xs = [] ∧ zonesPK xs = 2 by simp [zonesPR, zonesPK, h1])
    go_enter Try.func26, Try.ntmps26
    go_wp2_with fail
    refine (zonesOk_any _ _ _ xs _ h).mono ?_
    rintro e w1 ⟨rfl, hb1⟩
    rw [h1]
    go_wp2_with fail
    go_ret2
    rw [HA.out.1, HA.out.2]
    exact ResR.nil hb1
  · have h64 := line64 h1
    rw [HL.out] at h64
    have HA := Lib.hid (show zonesPR xs = partsZ xs n ∧ zonesPK xs = 0 by simp [zonesPR, zonesPK, h1, HL.out])
    go_enter Try.func26, Try.ntmps26
    go_wp2_with fail
    refine (zonesOk_any _ _ _ xs _ h).mono ?_
    rintro e w1 ⟨rfl, hb1⟩
    rw [h1]
    replace h := h.below hb1
    have HB1 := Lib.hid hb1
    clear h1 hb1
    go_wp2_with fail
    go_loopw [4, 12] (fun o i wr => ∃ (k j : Nat) (rs : Rws), k ≤ n ∧ i = .int .i64 k ∧ Below w1.heap.size w1 wr ∧ Hid (RowsB w1.heap.size wr o j rs) ∧ Hid (j ≤ k) ∧ Hid (rs = partsZ xs k)) (fun _ i _ => n - (intOf i).toNat)
    case atStart => exact ⟨0, 0, [], Nat.zero_le _, rfl, Below.refl _ _, RowsB.nil ⟨rfl, .inl ⟨rfl, rfl⟩⟩, by show 0 ≤ 0; omega, by show ([] : Rws) = partsZ xs 0; simp [partsZ]⟩
    case round =>
      obtain ⟨k, j, rs, hk, rfl, hbl, HB, HJ, HE⟩ := hrel
      by_cases hlt : k < n
      · obtain ⟨b, off, x, rfl, HX, hc, hx1, hx2⟩ := (h.below hbl).at_ hlt
        obtain ⟨cs, f, d, r1, r2, r3⟩ := HB.out
        have HR := Lib.hid (And.intro r1 (And.intro r2 r3))
        have HBL := Lib.hid hbl
        have hjk : j ≤ k := HJ.out
        clear r1 r2 r3
        have hki : (k : Int) < (n : Int) := by omega
        by_cases hk0 : k = 0
        · have HNW := Lib.hid (show k = 0 ∨ zAt xs (k - 1) ≠ zAt xs k from .inl hk0)
          have hk0' : ((k : Int) == 0) = true := by simp; omega
          rw [hk0, Nat.add_zero] at hc
          have hcc : wr.cell? ⟨b, off + k, none⟩ = some (.int .i64 x) := by rw [hk0]; exact hc
          clear h hbl hc hk0
          have HP := Lib.hid (show rs ++ [[x, (k : Int), (k : Int)]] = partsZ xs (k + 1) by
            rw [partsZ_new HNW.out, HE.out, zAt_eq HX.out])
          have hin : ∀ W : World, Below W.heap.size W (W.alloc (.cells #[.int .i64 x, .int .i64 k, .int .i64 k] 2)) := fun W => (Below.refl _ _).alloc (Nat.le_refl _) _
          have HI := Lib.hid hin
          clear hin
          go_wp2_with (at_builtin; refine wp_app (wr := wr.alloc (.cells #[.int .i64 x, .int .i64 k, .int .i64 k] 2)) rfl (.tmp 28) (.tmp 33) 34 rfl w1.heap.size 22 (.slice none 0 0) 1 24 Try.underlying34 info_rows rfl (by omega) _ j cs (by rfl) (HR.out.1.alloc _) [.slice (some ⟨wr.heap.size, 0, none⟩) 3 3] rfl (by first | rfl | (show Value.slice (some ⟨_, 0, none⟩) 1 1 = Value.slice (some ⟨_, 0, none⟩) 1 1; simp)) (by intro u hu; simp at hu; subst hu; rfl) (by unfold maxLen; omega) (by omega) (Nat.le_trans HBL.out.size (by simp)) ?_; intro v' w4 hown4 hgrow4 hv4; have hrow3 := World.ownsRow_lit (base := w1.heap.size) (e := 2) (size := 1) wr #[.int .i64 x, .int .i64 k, .int .i64 k] 3 HBL.out.size (by unfold maxLen; omega) rfl; have HF := Lib.hid (And.intro (RowsB.app (w := wr) (q := wr.heap.size) (c := 3) (r := [x, (k : Int), (k : Int)]) HR.out.1 HR.out.2.1 (fun i hi => HR.out.2.2 i hi) (HI.out _) (Nat.le_refl _) hrow3 hown4 hgrow4) ((HBL.out.trans ((HI.out wr).mono HBL.out.size)).grown hgrow4 (Nat.le_trans HBL.out.size (by simp)) (own_blk HR.out.1))); obtain ⟨g, cap, q, dd, rfl, hc1, hc2, hf2, hq, hset⟩ := HF.out.1.setLast; have HSET := Lib.hid (And.intro hset hq); clear hown4 hgrow4 hrow3 hset hq hv4)
          go_roundw
          case rel => exact ⟨k + 1, j + 1, _, by omega, by go_num, HF.out.2.setCell HSET.out.2 _, HSET.out.1 k, by show j + 1 ≤ k + 1; omega, HP.out⟩
          case measure => simp [intOf]; omega
        · obtain ⟨b', off', y, hAA, HY, hd, hy1, hy2⟩ := (h.below hbl).at_ (show k - 1 < n by omega)
          obtain ⟨rfl, rfl⟩ : b = b' ∧ off = off' := by
            injection hAA with hAA
            injection hAA with e1 e2 _
            exact ⟨e1, e2⟩
          have hk1 : ((k : Int) - 1).toNat = k - 1 := by omega
          have hk2 : (0 : Int) ≤ (k : Int) - 1 := by omega
          have hk2' : (1 : Int) ≤ (k : Int) := by omega
          have hk3 : (k : Int) - 1 < (n : Int) := by omega
          have hk5 : ((k : Int) == 0) = false := by simp; omega
          clear h hbl hAA
          by_cases hxy : x = y
          · have HNW := Lib.hid (show zAt xs (k - 1) = zAt xs k by rw [zAt_eq HX.out, zAt_eq HY.out, hxy])
            subst hxy
            obtain ⟨j0, hj0⟩ : ∃ j0, j = j0 + 1 := ⟨(cz xs k).1.length, by
              have := HR.out.2.1
              rw [HE.out, partsZ_open (by omega)] at this
              simp at this
              omega⟩
            subst hj0
            have hrb := HB.out
            rw [HE.out, partsZ_open (by omega)] at hrb
            obtain ⟨g, cap, q, dd, rfl, hc1, hc2, hf2, hq, hset⟩ := hrb.setLast
            have HSET := Lib.hid (And.intro hset hq)
            have HP := Lib.hid (show (cz xs k).1 ++ [[zAt xs (k - 1), ((cz xs k).2 : Int), (k : Int)]] = partsZ xs (k + 1) by
              rw [partsZ_same (by omega) HNW.out, HNW.out])
            clear hset hq hrb
            go_wp2_with fail
            go_roundw
            case rel => exact ⟨k + 1, j0 + 1, _, by omega, by go_num, HBL.out.setCell HSET.out.2 _, HSET.out.1 k, by show j0 + 1 ≤ k + 1; omega, HP.out⟩
            case measure => simp [intOf]; omega
          · have HNW := Lib.hid (show k = 0 ∨ zAt xs (k - 1) ≠ zAt xs k from .inr (by rw [zAt_eq HX.out, zAt_eq HY.out]; exact fun e => hxy e.symm))
            have hx3 : (x == y) = false := by simpa using hxy
            have hx4 : (x != y) = true := by simpa using hxy
            clear hxy
            have HP := Lib.hid (show rs ++ [[x, (k : Int), (k : Int)]] = partsZ xs (k + 1) by
              rw [partsZ_new HNW.out, HE.out, zAt_eq HX.out])
            have hin : ∀ W : World, Below W.heap.size W (W.alloc (.cells #[.int .i64 x, .int .i64 k, .int .i64 k] 2)) := fun W => (Below.refl _ _).alloc (Nat.le_refl _) _
            have HI := Lib.hid hin
            clear hin
            go_wp2_with (at_builtin; refine wp_app (wr := wr.alloc (.cells #[.int .i64 x, .int .i64 k, .int .i64 k] 2)) rfl (.tmp 28) (.tmp 33) 34 rfl w1.heap.size 22 (.slice none 0 0) 1 24 Try.underlying34 info_rows rfl (by omega) _ j cs (by rfl) (HR.out.1.alloc _) [.slice (some ⟨wr.heap.size, 0, none⟩) 3 3] rfl (by first | rfl | (show Value.slice (some ⟨_, 0, none⟩) 1 1 = Value.slice (some ⟨_, 0, none⟩) 1 1; simp)) (by intro u hu; simp at hu; subst hu; rfl) (by unfold maxLen; omega) (by omega) (Nat.le_trans HBL.out.size (by simp)) ?_; intro v' w4 hown4 hgrow4 hv4; have hrow3 := World.ownsRow_lit (base := w1.heap.size) (e := 2) (size := 1) wr #[.int .i64 x, .int .i64 k, .int .i64 k] 3 HBL.out.size (by unfold maxLen; omega) rfl; have HF := Lib.hid (And.intro (RowsB.app (w := wr) (q := wr.heap.size) (c := 3) (r := [x, (k : Int), (k : Int)]) HR.out.1 HR.out.2.1 (fun i hi => HR.out.2.2 i hi) (HI.out _) (Nat.le_refl _) hrow3 hown4 hgrow4) ((HBL.out.trans ((HI.out wr).mono HBL.out.size)).grown hgrow4 (Nat.le_trans HBL.out.size (by simp)) (own_blk HR.out.1))); obtain ⟨g, cap, q, dd, rfl, hc1, hc2, hf2, hq, hset⟩ := HF.out.1.setLast; have HSET := Lib.hid (And.intro hset hq); clear hown4 hgrow4 hrow3 hset hq hv4)
            go_roundw
            case rel => exact ⟨k + 1, j + 1, _, by omega, by go_num, HF.out.2.setCell HSET.out.2 _, HSET.out.1 k, by show j + 1 ≤ k + 1; omega, HP.out⟩
            case measure => simp [intOf]; omega
      · obtain rfl : k = n := by omega
        clear hlt
        obtain ⟨cs, f, d, r1, r2, r3⟩ := HB.out
        obtain ⟨A', c', rfl, _⟩ := own_form r1
        have HBL := Lib.hid (And.intro hbl (HB1.out.trans (hbl.mono HB1.out.size)))
        have HJL := Lib.hid r2
        have hjk : j ≤ k := HJ.out
        clear r1 r2 r3 hbl h
        go_wp2_with fail
        go_ret2
        rw [HA.out.1, HA.out.2, ← HE.out]
        exact ⟨A', c', by rw [HJL.out]; rfl, by rw [HJL.out]; exact (HB.out.base HB1.out.size).fin (by omega) rfl, HBL.out.2⟩
theorem zonesPR_okr (xs : List Int) : (∀ r ∈ zonesPR xs, ∀ x ∈ r, -9223372036854775808 ≤ x ∧ x ≤ 9223372036854775807) ∧ (zonesPR xs).length ≤ 1048576 ∧ totR (zonesPR xs) (zonesPR xs).length ≤ 1048576 ∧ ∀ i, i < (zonesPR xs).length → (rAt (zonesPR xs) i).length ≤ 1000000000 := by
  obtain ⟨h1, h2⟩ := zonesPR_ok xs
  refine ⟨fun r hr x hx => by have := (h1 r hr).2 x hx; omega, by omega, by have := small_tot h1 (zonesPR xs).length; omega, fun i hi => ?_⟩
  rw [rAt, List.getD_eq_getElem?_getD, List.getElem?_eq_getElem hi]
  have := (h1 _ (List.getElem_mem hi)).1
  simp only [Option.getD_some]
  omega
end Go.Proofs.Ytbakmcjngadebaa
