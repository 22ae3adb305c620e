/-
  The contracts of where a mass stops on a valid path.
-/
import Derived.Test.YtknppcgoooaaaaaGreatDoorPathA
namespace Go.Proofs.YtknppcgoooaaaaaGreatDoor
open Go.ChangeShapes Go.WideShapes Go.ChangeAt Go.RowKit Go.Deep
set_option linter.unusedVariables false

theorem lineN_bd {x0 y0 x1 y1 x : Int} (h1 : 0 ≤ y0 ∧ y0 ≤ 9000000) (h2 : 0 ≤ y1 ∧ y1 ≤ 9000000) (h3 : 0 ≤ x0 ∧ x0 ≤ 20000) (h4 : 0 ≤ x1 ∧ x1 ≤ 20000) : -200000000000 ≤ lineN x0 y0 x1 y1 x ∧ lineN x0 y0 x1 y1 x ≤ 200000000000 := by
  unfold lineN
  split
  · omega
  · split
    · omega
    · have hm := mul_abs (a := y1 - y0) (b := x - x0) (A := 9000000) (B := 20000) (by omega) (by omega) (by omega) (by omega) (by omega)
      have hd := divN_bd ((y1 - y0) * (x - x0)) (x1 - x0) (by omega)
      unfold absI at hd
      split at hd <;> omega
theorem groundV_bd {ps : Pth} (hp : pathOk ps = true) {d : Int} (hd : d ≤ lastD ps) : -200000000000 ≤ groundV ps d ∧ groundV ps d ≤ 200000000000 := by
  have hg := gIdx_ok hp hd
  have h1 := pathOk_pts hp (i := gIdx ps d) hg.2.1
  have h2 := pathOk_pts hp (i := gIdx ps d - 1) (by omega)
  unfold groundV betw
  exact lineN_bd (by omega) (by omega) (by omega) (by omega)
theorem gIdx_mono {ps : Pth} (hp : pathOk ps = true) {d e : Int} (hde : d ≤ e) (he : e ≤ lastD ps) : gIdx ps d ≤ gIdx ps e := by
  have h1 := gIdx_ok hp (show d ≤ lastD ps by omega)
  have h2 := gIdx_ok hp he
  rcases Nat.lt_or_ge (gIdx ps e) (gIdx ps d) with h | h
  · have := h1.2.2.2 (gIdx ps e) h2.1 h
    omega
  · exact h
/-- How far the energy line is above the ground. -/
def aboveV (ps : Pth) (t d : Int) : Int := lineV ps t d - groundV ps d
def stopP (ps : Pth) (t d : Int) : Bool := decide (aboveV ps t d ≤ 0)
def stopV (ps : Pth) (t : Int) : Int := firstI (stopP ps t) 1 (lastD ps)
set_option maxRecDepth 100000 in
set_option maxHeartbeats 1600000 in
theorem aboveGround_any (A : Option Addr) (n c : Nat) (t d : Int) (ps : Pth) (w : World) (h : Pts w A n ps) (hp : pathOk ps = true) (ht1 : 0 ≤ t) (ht2 : t ≤ 4000) (hd1 : 0 ≤ d) (hd2 : d ≤ lastD ps) :
    Calls Tryz.prog 40 #[.slice A n c, .int .i64 t, .int .i64 d] w fun e w' => e = .returned (.int .i64 (aboveV ps t d)) ∧ Below w.heap.size w w' := by
  have HL := Lib.hid h.1
  have hl := pathOk_len hp
  have hn0 : 0 < n := by rw [← HL.out]; omega
  have hld := lastD_bd hp
  have hgb := groundV_bd hp hd2
  obtain ⟨b, off, x0, y0, rfl, HX0, hc1, hc2, hx1, hx2, hx3, hx4⟩ := h.ok hp hn0
  simp only [Nat.zero_mul, Nat.add_zero] at hc1 hc2
  have hm := mul_bd ht1 ht2 hd1 (show d ≤ 20000 by omega)
  obtain ⟨G, hG⟩ : ∃ G, G = groundV ps d := ⟨_, rfl⟩
  rw [← hG] at hgb
  have HE := Lib.hid (show aboveV ps t d = 1000 * y0 - t * d - G by unfold aboveV lineV; rw [HX0.out.2, hG])
  have hw1 : IntKind.i64.wrap (1000 * y0) = 1000 * y0 := IntWalk.i64_in _ (by omega)
  have hw2 : IntKind.i64.wrap (t * d) = t * d := IntWalk.i64_in _ (by omega)
  have hw3 : IntKind.i64.wrap (1000 * y0 - t * d) = 1000 * y0 - t * d := IntWalk.i64_in _ (by omega)
  have hw4 : IntKind.i64.wrap (1000 * y0 - t * d - G) = 1000 * y0 - t * d - G := IntWalk.i64_in _ (by omega)
  have HC : Hid (∀ W : World, W.heap = w.heap → Calls Tryz.prog 42 #[.slice (some ⟨b, off, none⟩) n c, .int .i64 d] W fun e w' => e = .returned (.int .i64 G) ∧ Below W.heap.size W w') := fun W hW => by
    rw [hG]
    refine groundAt_any _ _ _ _ ps _ ?_ hp hd2
    obtain ⟨a1, a2, a3, a4⟩ := h
    refine ⟨a1, a2, a3, fun h0 => ?_⟩
    obtain ⟨b1, o1, e1, c1⟩ := a4 h0
    exact ⟨b1, o1, e1, fun j hj => by rw [← c1 j hj]; simp only [World.cell?, hW]⟩
  clear h hp hG hl hld
  go_enter Tryz.func40, Tryz.ntmps40
  go_wp2_with fail
  go_region_held3 (fun w' => w'.cell? ⟨b, off + 1, none⟩ = some (.int .i64 y0))
    (first | go_keep | exact cell_kept hb2 hc2)
    ((go_at_call 42; refine (HC.out _ (by rfl)).mono ?_; rintro e w2 ⟨rfl, hb2⟩))
  all_goals
    go_wp2_with fail
    go_ret
    exact ⟨ret_int (by rw [HE.out]), (Below.refl w.heap.size w).drew.trans hb2⟩
set_option maxRecDepth 100000 in
theorem stop_c (A : Option Addr) (n c p q : Nat) (t d : Int) (ps : Pth) (w : World) (h : Pts w A n ps) (hp : pathOk ps = true) (hcl : w.cell? ⟨p, 0, none⟩ = some (.slice A n c)) (hct : w.cell? ⟨q, 0, none⟩ = some (.int .i64 t))
    (ht1 : 0 ≤ t) (ht2 : t ≤ 4000) (hd1 : 0 ≤ d) (hd2 : d ≤ lastD ps) :
    Calls Tryz.prog 75 #[.int .i64 d, .pointer (some ⟨p, 0, none⟩), .pointer (some ⟨q, 0, none⟩)] w fun e w' => e = .returned (.bool (stopP ps t d)) ∧ Below w.heap.size w w' := by
  have HH := hid_and h hp
  clear h hp
  go_enter Tryz.func75, Tryz.ntmps75
  go_wp2_with (go_at_call 40; refine (aboveGround_any _ _ _ _ _ ps _ HH.out.1 HH.out.2 ht1 ht2 hd1 hd2).mono ?_; rintro e w2 ⟨rfl, hb2⟩)
  go_ret
  exact ⟨rfl, hb2⟩

set_option maxRecDepth 100000 in
set_option maxHeartbeats 1600000 in
theorem least_stop (lo hi : Int) (A : Option Addr) (n c p q : Nat) (t : Int) (ps : Pth) (w : World) (h : Pts w A n ps) (hp : pathOk ps = true) (hcl : w.cell? ⟨p, 0, none⟩ = some (.slice A n c)) (hct : w.cell? ⟨q, 0, none⟩ = some (.int .i64 t)) (ht1 : 0 ≤ t) (ht2 : t ≤ 4000) (hr : hi ≤ lastD ps) (h1 : 0 ≤ lo) (h2 : hi ≤ 1000000) (h3 : -1000000 ≤ hi) :
    Calls Tryz.prog 74 #[.int .i64 lo, .int .i64 hi, .func (.func 75) #[] #[.pointer (some ⟨p, 0, none⟩), .pointer (some ⟨q, 0, none⟩)]] w fun e w' => LeastPost (stopP ps t) lo hi e ∧ Below w.heap.size w w' := by
  go_enter Tryz.func74, Tryz.ntmps74
  go_wp2_with fail
  go_loopw [8] (fun i wr => ∃ m : Int, lo ≤ m ∧ (m ≤ hi + 1 ∨ m = lo) ∧ i = .int .i64 m ∧ Hid (∀ x, lo ≤ x → x < m → (stopP ps t) x = false) ∧ Below w.heap.size w wr) (fun i _ => (hi + 1 - intOf i).toNat)
  case atStart => exact ⟨lo, Int.le_refl _, .inr rfl, rfl, fun x hx1 hx2 => by omega, Below.refl _ _⟩
  case round =>
    obtain ⟨m, hm1, hm2, rfl, HM, hbl⟩ := hrel
    have HB := Lib.hid hbl
    by_cases hlt : m ≤ hi
    · have HC := Lib.hid (show Calls Tryz.prog 75 #[.int .i64 m, .pointer (some ⟨p, 0, none⟩), .pointer (some ⟨q, 0, none⟩)] wr fun e w' => e = .returned (.bool (stopP ps t m)) ∧ Below wr.heap.size wr w' from stop_c A n c p q t m ps wr (h.below hbl) hp (cell_kept hbl hcl) (cell_kept hbl hct) ht1 ht2 (by omega) (by omega))
      clear hbl
      cases hpm : (stopP ps t) m
      · have HP := Lib.hid hpm
        go_wp2_with fail
        refine (HC.out).mono ?_
        rintro e w2 ⟨rfl, hb2⟩
        have HB2 := Lib.hid (HB.out.trans (hb2.mono HB.out.size))
        clear hb2
        go_wp2_with fail
        go_roundw
        case rel => exact ⟨m + 1, by omega, .inl (by omega), by go_num, fun x hx1 hx2 => by
          by_cases e : x = m
          · rw [e]; exact HP.out
          · exact HM.out x hx1 (by omega), HB2.out⟩
        case measure => simp [intOf]; omega
      · have HP := Lib.hid hpm
        go_wp2_with fail
        refine (HC.out).mono ?_
        rintro e w2 ⟨rfl, hb2⟩
        have HB2 := Lib.hid (HB.out.trans (hb2.mono HB.out.size))
        clear hb2
        go_wp2_with fail
        go_ret2
        exact ⟨.inl ⟨m, hm1, hlt, HP.out, HM.out, rfl⟩, HB2.out⟩
    · clear hbl
      go_wp2_with fail
      go_ret2
      exact ⟨.inr ⟨fun x hx1 hx2 => HM.out x hx1 (by omega), rfl⟩, HB.out⟩

set_option maxRecDepth 100000 in
set_option maxHeartbeats 800000 in
theorem stopOf_any (A : Option Addr) (n c : Nat) (t : Int) (ps : Pth) (w : World) (h : Pts w A n ps) (hp : pathOk ps = true) (ht1 : 0 ≤ t) (ht2 : t ≤ 4000) :
    Calls Tryz.prog 39 #[.slice A n c, .int .i64 t] w fun e w' => LeastPost (stopP ps t) 1 (lastD ps) e ∧ Below w.heap.size w w' := by
  have HL := Lib.hid h.1
  have hl := pathOk_len hp
  rw [HL.out] at hl
  have hld := lastD_bd hp
  have HP := Lib.hid hp
  obtain ⟨b, off, x, y, rfl, HX, hc1, hc2, hx⟩ := h.ok hp (show n - 1 < n by omega)
  have hLD : lastD ps = x := by unfold lastD; rw [HL.out]; exact HX.out.1
  rw [hLD] at hld ⊢
  have HLD := Lib.hid hLD
  have hk1 : ((n : Int) - 1).toNat = n - 1 := by omega
  have hk2 : (0 : Int) ≤ (n : Int) - 1 := by omega
  have hk3 : (n : Int) - 1 < (n : Int) := by omega
  have hk4 : IntKind.i64.wrap ((n : Int) - 1) = (n : Int) - 1 := IntWalk.i64_in _ (by omega)
  have hbw : b < w.heap.size := cell_lt hc1
  have hb0 := (Below.refl w.heap.size w).alloc (Nat.le_refl _) (.cells #[.slice (some ⟨b, off, none⟩) n c] 24)
  have hb1 := hb0.alloc (by simp) (.cells #[.int .i64 t] 2)
  have HH := hid_and (h.below hb1) hb1
  clear h hp hb0 hb1 hLD hl
  go_enter Tryz.func39, Tryz.ntmps39
  go_wp2_with fail
  refine (least_stop _ _ _ n c w.heap.size (w.heap.size + 1) t ps _ HH.out.1 HP.out (by go_simp) (by go_simp) ht1 ht2 (by rw [HLD.out]; exact Int.le_refl _) (by omega) (by omega) (by omega)).mono ?_
  rintro e w' ⟨hpost, hb⟩
  have HB := Lib.hid (HH.out.2.trans (hb.mono HH.out.2.size))
  clear hb
  rcases hpost with ⟨m, h1, h2, h3, h4, rfl⟩ | ⟨h1, rfl⟩
  · have HL := hid_and h3 h4
    clear h3 h4
    go_wp2_with fail
    go_ret2
    exact ⟨.inl ⟨m, h1, h2, HL.out.1, HL.out.2, rfl⟩, HB.out⟩
  · have HL := Lib.hid h1
    clear h1
    go_wp2_with fail
    go_ret2
    exact ⟨.inr ⟨HL.out, rfl⟩, HB.out⟩

/-! ### The reference's search for the stop -/
end Go.Proofs.YtknppcgoooaaaaaGreatDoor
