/-
  Layers: a profile an hour later.
-/
import Derived.Test.YtlfjjdglffiinaaLyU
namespace Go.Proofs.Ytlfjjdglffiinaa
open Go.ChangeShapes Go.WideShapes Go.ChangeAt Go.RowKit Go.Deep
set_option linter.unusedVariables false

/-- A whole layer written over in a row. -/
theorem LRow.put {w : World} {E g cap k : Nat} {ls : List Ly} {x : Ly} (H : LRow w E g cap ls) (hk : ls[k]? = some x) (f i v d t h a : Int) :
    LRow (((((((w.setCell ⟨g, k * 7, none⟩ (.int .i64 f)).setCell ⟨g, k * 7 + 1, none⟩ (.int .i64 i)).setCell ⟨g, k * 7 + 2, none⟩ (.int .i64 v)).setCell ⟨g, k * 7 + 3, none⟩ (.int .i64 d)).setCell ⟨g, k * 7 + 4, none⟩ (.int .i64 t)).setCell ⟨g, k * 7 + 5, none⟩ (.int .i64 h)).setCell ⟨g, k * 7 + 6, none⟩ (.int .i64 a)) E g cap (ls.set k ⟨f, i, v, d, t, h, a⟩) := by
  obtain ⟨F, I, V, D, T, J, A⟩ := x
  have s0 := H.set_form hk f
  have s1 := s0.set_ice (LRow.at_set hk) i
  rw [set_set] at s1
  have s2 := s1.set_water (LRow.at_set hk) v
  rw [set_set] at s2
  have s3 := s2.set_dens (LRow.at_set hk) d
  rw [set_set] at s3
  have s4 := s3.set_deg (LRow.at_set hk) t
  rw [set_set] at s4
  have s5 := s4.set (LRow.at_set hk) 5 (by omega) h (y := ⟨f, i, v, d, t, h, A⟩) rfl (fun s hs hne => by rcases (show s = 0 ∨ s = 1 ∨ s = 2 ∨ s = 3 ∨ s = 4 ∨ s = 6 from by omega) with rfl | rfl | rfl | rfl | rfl | rfl <;> rfl)
  rw [set_set] at s5
  have s6 := s5.set_age (LRow.at_set hk) a
  rw [set_set] at s6
  exact s6
theorem put_grown {w wr : World} {g k : Nat} (h : w.grownBy wr (some g)) (a0 a1 a2 a3 a4 a5 a6 : Value) :
    w.grownBy (((((((wr.setCell ⟨g, k * 7, none⟩ a0).setCell ⟨g, k * 7 + 1, none⟩ a1).setCell ⟨g, k * 7 + 2, none⟩ a2).setCell ⟨g, k * 7 + 3, none⟩ a3).setCell ⟨g, k * 7 + 4, none⟩ a4).setCell ⟨g, k * 7 + 5, none⟩ a5).setCell ⟨g, k * 7 + 6, none⟩ a6) (some g) :=
  grown_setCell (p := ⟨g, k * 7 + 6, none⟩) (grown_setCell (p := ⟨g, k * 7 + 5, none⟩) (grown_setCell (p := ⟨g, k * 7 + 4, none⟩) (grown_setCell (p := ⟨g, k * 7 + 3, none⟩) (grown_setCell (p := ⟨g, k * 7 + 2, none⟩) (grown_setCell (p := ⟨g, k * 7 + 1, none⟩) (grown_setCell (p := ⟨g, k * 7, none⟩) h rfl _) rfl _) rfl _) rfl _) rfl _) rfl _) rfl _
set_option maxRecDepth 100000 in
set_option maxHeartbeats 2000000 in
theorem settled_t (A : Option Addr) (n c : Nat) (ls : List Ly) (w : World) (H : Lys w A n ls) (hnc : 0 < n → n ≤ c ∧ c ≤ maxLen) :
    Calls Try.prog 40 #[.slice A n c] w fun e w' => ∃ A' c', e = .returned (.slice A' n c') ∧ LBag w' 35 w.heap.size A' n c' (settledF ls) ∧ Below w.heap.size w w' := by
  have hn := H.2.1
  have HL := Lib.hid H.1
  have HFL := Lib.hid ((settledF_len ls).trans H.1)
  have HH := Lib.hid H
  have HSO := Lib.hid (settledF_ok H.2.2.1 (by rw [H.1]; exact hn))
  have HNC := Lib.hid hnc
  clear H hnc
  go_enter Try.func40, Try.ntmps40
  go_wp2_with fail
  refine (cloneLy_t _ _ _ ls _ HH.out).mono ?_
  rintro e w1 ⟨A', c', rfl, hbag, hb1⟩
  have H1 := Lib.hid (And.intro hbag hb1)
  clear hbag hb1
  go_wp2_with fail
  go_loopw [4, 5, 10] (fun _ _ kv wr => ∃ k : Nat, k ≤ n ∧ kv = .int .i64 k ∧ Hid (LBag wr 35 w.heap.size A' n c' (mixL (settledF ls) ls k)) ∧ Below w.heap.size w wr) (fun _ _ kv _ => n - (intOf kv).toNat)
  case atStart => exact ⟨0, Nat.zero_le _, rfl, by rw [mixL_zero]; exact H1.out.1, H1.out.2⟩
  case round =>
    obtain ⟨k, hk, rfl, HBG, hbl⟩ := hrel
    by_cases hlt : k < n
    · obtain ⟨b, off, f, i, v, d, t, h, a, rfl, HX, hc, hb⟩ := (HH.out.below hbl).at_ hlt
      obtain ⟨g', hA', hbg, hrow⟩ := HBG.out.2.2.2 (by omega)
      subst hA'
      have hki : (k : Int) < (n : Int) := by omega
      have HFK := Lib.hid (settledF_at HX.out)
      have HHL := Lib.hid (And.intro (HH.out.below hbl) (And.intro hb hbl))
      have HROW := Lib.hid hrow
      have hll := loadF_bd HH.out.2.2.1 (by rw [HL.out]; exact hn) k
      obtain ⟨L, hL⟩ : ∃ L, L = loadF ls k := ⟨_, rfl⟩
      rw [← hL] at hll
      have HLL := Lib.hid hL
      obtain ⟨c0, c1, c2, c3, c4, c5, c6⟩ := hc
      clear hb hbl hrow hL
      go_upto_region 4 with (fail)
      go_cut [4, 5] (fun kv pv wx => kv = .int .i64 k ∧ ∃ X, pv = .pointer (some ⟨X, 0, none⟩) ∧ LyAt wx X 0 f i v d t h a ∧ Below wr.heap.size wr wx)
      case first =>
        go_wp2_with fail
        go_meet
        exact ⟨rfl, _, rfl, ly_alloc wr f i v d t h a 35, (Below.refl _ _).alloc (Nat.le_refl _) _⟩
      case rest =>
        obtain ⟨rfl, X, rfl, hx, hbx⟩ := hcut
        rename World => wx
        obtain ⟨x0, x1, x2, x3, x4, x5, x6⟩ := hx
        simp only [Nat.zero_add] at x1 x2 x3 x4 x5 x6
        have HX2 := Lib.hid (And.intro (HHL.out.1.below hbx) hbx)
        have hmx := Lib.hid (mixL_at HFL.out HL.out hlt HX.out)
        clear hbx c0 c1 c2 c3 c4 c5 c6
        go_upto_region 5 with (fail)
        go_region_with (first
          | (go_at_call 55; refine ((loadAbove_t _ n c ls k _ (show Lys wx.drew _ n ls from HX2.out.1) hlt (HNC.out (by omega)).1 (HNC.out (by omega)).2).mono fun e w' ⟨he, hb⟩ => (⟨by rw [he, HLL.out], hb⟩ : e = Ending.returned (.int .i64 L) ∧ Below wx.drew.heap.size wx.drew w')).mono ?_; rintro e w2 ⟨rfl, hb2⟩; have y0 := cell_kept hb2 (show wx.drew.cell? ⟨X, 0, none⟩ = _ from x0); have y1 := cell_kept hb2 (show wx.drew.cell? ⟨X, 1, none⟩ = _ from x1); have y2 := cell_kept hb2 (show wx.drew.cell? ⟨X, 2, none⟩ = _ from x2); have y3 := cell_kept hb2 (show wx.drew.cell? ⟨X, 3, none⟩ = _ from x3); have y4 := cell_kept hb2 (show wx.drew.cell? ⟨X, 4, none⟩ = _ from x4); have y5 := cell_kept hb2 (show wx.drew.cell? ⟨X, 5, none⟩ = _ from x5); have y6 := cell_kept hb2 (show wx.drew.cell? ⟨X, 6, none⟩ = _ from x6))
          | (go_at_call 42; refine (settled1_t f i v d t h a L w2 HHL.out.2.1 hll.1 hll.2).mono ?_; rintro e w3 ⟨rfl, hb3⟩; have HB3 := Lib.hid (show Below wr.heap.size wr w3 from HX2.out.2.trans (((Below.refl _ _).drew.trans (hb2.trans (hb3.mono hb2.size))).mono HX2.out.2.size)); have HR3 := Lib.hid (HROW.out.below HB3.out); have hya := HR3.out.lyAt hmx.out; obtain ⟨z0, z1, z2, z3, z4, z5, z6⟩ := hya; have u0 := HR3.out.free (k * 7); have u1 := HR3.out.free (k * 7 + 1); have u2 := HR3.out.free (k * 7 + 2); have u3 := HR3.out.free (k * 7 + 3); have u4 := HR3.out.free (k * 7 + 4); have u5 := HR3.out.free (k * 7 + 5); have u6 := HR3.out.free (k * 7 + 6)))
        all_goals
          have hp := HR3.out.put hmx.out f i v (settleD d L) t h (min (a + 1) 10000)
          have hs : (settledF ls)[k]? = some ⟨f, i, v, settleD d L, t, h, min (a + 1) 10000⟩ := by rw [HFK.out]; simp only [settleX, HLL.out]
          rw [mixL_set HFL.out HL.out hlt hs] at hp
          have hg := put_grown (k := k) (World.grownBy.refl w3 (some g')) (.int .i64 f) (.int .i64 i) (.int .i64 v) (.int .i64 (settleD d L)) (.int .i64 t) (.int .i64 h) (.int .i64 (min (a + 1) 10000))
          have HS := Lib.hid (And.intro hp (below_grown (HHL.out.2.2.trans (HB3.out.mono HHL.out.2.2.size)) hg (Nat.le_trans HHL.out.2.2.size HB3.out.size) hbg))
          clear hp hs hg y0 y1 y2 y3 y4 y5 y6 z0 z1 z2 z3 z4 z5 z6 u0 u1 u2 u3 u4 u5 u6 x0 x1 x2 x3 x4 x5 x6 hb2 hb3
          go_wp2_with fail
          go_roundw
          case rel => exact ⟨k + 1, by omega, by go_num, ⟨by rw [mixL_len HFL.out HL.out (by omega)], hn, mixL_ok HSO.out HH.out.2.2.1, fun _ => ⟨g', rfl, hbg, HS.out.1⟩⟩, HS.out.2⟩
          case measure => simp [intOf]; omega
    · obtain rfl : k = n := by omega
      have HB := Lib.hid hbl
      clear hbl
      go_wp2_with fail
      go_ret
      exact ⟨_, _, rfl, by rw [← mixL_all HFL.out HL.out]; exact HBG.out, HB.out⟩
theorem SettleProfile_t (A : Option Addr) (n c : Nat) (ls : List Ly) (w : World) (H : Lys w A n ls) (hnc : 0 < n → n ≤ c ∧ c ≤ maxLen) :
    Calls Try.prog 16 #[.slice A n c] w fun e w' => ∃ A' c', e = .returned (.tuple #[.slice A' n c', .int .i64 0]) ∧ LBag w' 35 w.heap.size A' n c' (settledF ls) ∧ Below w.heap.size w w' := by
  have HH := Lib.hid (And.intro H hnc)
  clear H hnc
  go_enter Try.func16, Try.ntmps16
  go_wp2_with fail
  refine (ValidProfile_t _ _ _ ls _ HH.out.1).mono ?_
  rintro e w1 ⟨rfl, hb1⟩
  have H1 := Lib.hid hb1
  clear hb1
  go_wp2_with fail
  refine (settled_t _ _ _ ls _ (HH.out.1.below H1.out) HH.out.2).mono ?_
  rintro e w2 ⟨A', c', rfl, hbag, hb2⟩
  have H2 := Lib.hid (And.intro (hbag.base H1.out.size) (H1.out.trans (hb2.mono H1.out.size)))
  clear hbag hb2
  go_wp2_with fail
  go_ret2
  exact ⟨A', c', rfl, H2.out.1, H2.out.2⟩
set_option maxRecDepth 100000 in
set_option maxHeartbeats 800000 in
theorem SettleLayer_t (f i v d t h a l : Int) (w : World) (B : Lb f i v d t h a) (hl : 0 ≤ l) (hl2 : l ≤ 32000000) :
    Calls Try.prog 17 #[Lyv f i v d t h a, .int .i64 l] w fun e w' => e = .returned (.tuple #[Lyv f i v (settleD d l) t h (min (a + 1) 10000), .int .i64 0]) ∧ Below w.heap.size w w' := by
  have HBB := Lib.hid B
  clear B
  obtain ⟨wb, hwb⟩ : ∃ wb, wb = (w.alloc (.cells #[.int .i64 f, .int .i64 i, .int .i64 v, .int .i64 d, .int .i64 t, .int .i64 h, .int .i64 a] 35)).alloc (.cells #[.int .i64 0, .int .i64 0, .int .i64 0, .int .i64 0, .int .i64 0, .int .i64 0, .int .i64 0] 35) := ⟨_, rfl⟩
  have HW := Lib.hid hwb
  have hbb : Below w.heap.size w wb := by rw [hwb]; exact ((Below.refl _ _).alloc (Nat.le_refl _) _).alloc (by simp) _
  have hla : LyAt wb w.heap.size 0 f i v d t h a := by rw [hwb]; exact (ly_alloc w f i v d t h a 35).below ((Below.refl _ _).alloc (Nat.le_refl _) _)
  have hrb : wb.heap[w.heap.size + 1]? = some (.cells #[.int .i64 0, .int .i64 0, .int .i64 0, .int .i64 0, .int .i64 0, .int .i64 0, .int .i64 0] 35 (0, 0)) := by
    have := blk_alloc_new (w.alloc (.cells #[.int .i64 f, .int .i64 i, .int .i64 v, .int .i64 d, .int .i64 t, .int .i64 h, .int .i64 a] 35)) (.cells #[.int .i64 0, .int .i64 0, .int .i64 0, .int .i64 0, .int .i64 0, .int .i64 0, .int .i64 0] 35)
    rw [show (w.alloc (.cells #[.int .i64 f, .int .i64 i, .int .i64 v, .int .i64 d, .int .i64 t, .int .i64 h, .int .i64 a] 35)).heap.size = w.heap.size + 1 by simp] at this
    rw [hwb]; exact this
  have hzb : wb.heap.size = w.heap.size + 2 := by rw [hwb]; simp
  clear hwb
  go_enter Try.func17, Try.ntmps17
  go_wp2_with fail
  rw [show (w.alloc (.cells #[.int .i64 f, .int .i64 i, .int .i64 v, .int .i64 d, .int .i64 t, .int .i64 h, .int .i64 a] 35)).alloc (.cells #[.int .i64 0, .int .i64 0, .int .i64 0, .int .i64 0, .int .i64 0, .int .i64 0, .int .i64 0] 35) = wb from HW.out.symm]
  refine (ValidLayer_t _ _ _ _ _ _ _ _ HBB.out).mono ?_
  rintro e w1 ⟨rfl, hb1⟩
  have HA1 := Lib.hid (And.intro (hbb.trans (hb1.mono hbb.size)) (And.intro (hla.below hb1) ((hb1.block _ (by omega)).trans hrb)))
  have hz1 := hb1.size
  obtain ⟨x0, x1, x2, x3, x4, x5, x6⟩ := HA1.out.2.1
  simp only [Nat.zero_add] at x1 x2 x3 x4 x5 x6
  clear hbb hla hrb hb1
  go_wp2_with (go_at_call 32; refine (within_t _ _ _ _ (by omega) (by omega)).mono ?_; rintro e w' ⟨rfl, rfl⟩)
  refine (settled1_t _ _ _ _ _ _ _ _ _ HBB.out hl hl2).mono ?_
  rintro e w2 ⟨rfl, hb2⟩
  have hrb2 := (hb2.block _ (by omega)).trans HA1.out.2.2
  have HB2 := Lib.hid (HA1.out.1.trans (hb2.mono HA1.out.1.size))
  have k0 := Go.Joins.cell_of_block hrb2 0
  have k1 := Go.Joins.cell_of_block hrb2 1
  have k2 := Go.Joins.cell_of_block hrb2 2
  have k3 := Go.Joins.cell_of_block hrb2 3
  have k4 := Go.Joins.cell_of_block hrb2 4
  have k5 := Go.Joins.cell_of_block hrb2 5
  have k6 := Go.Joins.cell_of_block hrb2 6
  simp only [List.getElem?_toArray, List.getElem?_cons_zero, List.getElem?_cons_succ] at k0 k1 k2 k3 k4 k5 k6
  have r0 := Go.Joins.unfrozen_of_block hrb2 0
  have r1 := Go.Joins.unfrozen_of_block hrb2 1
  have r2 := Go.Joins.unfrozen_of_block hrb2 2
  have r3 := Go.Joins.unfrozen_of_block hrb2 3
  have r4 := Go.Joins.unfrozen_of_block hrb2 4
  have r5 := Go.Joins.unfrozen_of_block hrb2 5
  have r6 := Go.Joins.unfrozen_of_block hrb2 6
  have hz2 := hb2.size
  have HG := Lib.hid (fun (a0 a1 a2 a3 a4 a5 a6 : Value) => below_grown HB2.out (grown_setCell (p := ⟨w.heap.size + 1, 6, none⟩) (grown_setCell (p := ⟨w.heap.size + 1, 5, none⟩) (grown_setCell (p := ⟨w.heap.size + 1, 4, none⟩) (grown_setCell (p := ⟨w.heap.size + 1, 3, none⟩) (grown_setCell (p := ⟨w.heap.size + 1, 2, none⟩) (grown_setCell (p := ⟨w.heap.size + 1, 1, none⟩) (grown_setCell (p := ⟨w.heap.size + 1, 0, none⟩) (World.grownBy.refl w2 (some (w.heap.size + 1))) rfl a0) rfl a1) rfl a2) rfl a3) rfl a4) rfl a5) rfl a6) (by omega) (by omega))
  obtain ⟨D, hD⟩ : ∃ D, D = settleD d l := ⟨_, rfl⟩
  obtain ⟨M, hM⟩ : ∃ M, M = min (a + 1) 10000 := ⟨_, rfl⟩
  rw [← hD, ← hM]
  have HDM := Lib.hid (And.intro hD hM)
  clear hD hM
  clear hb2 hrb2 x0 x1 x2 x3 x4 x5 x6
  go_wp2_with fail
  exact bodyPost_ret (v := .tuple #[Lyv f i v D t h M, .int .i64 0]) (by simp [results, Try.results17, go_sem, *]) rfl ⟨by rw [HDM.out.1, HDM.out.2], HG.out _ _ _ _ _ _ _⟩
end Go.Proofs.Ytlfjjdglffiinaa
