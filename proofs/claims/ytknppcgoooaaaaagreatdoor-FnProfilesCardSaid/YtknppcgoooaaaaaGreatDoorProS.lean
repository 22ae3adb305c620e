/-
  A layer of a profile divided.
-/
import Derived.Test.YtknppcgoooaaaaaGreatDoorProH
import Derived.Test.YtknppcgoooaaaaaGreatDoorProA
import Derived.BigRegion
import Derived.Deep.DeepCutAuto
namespace Go.Proofs.YtknppcgoooaaaaaGreatDoor
open Go.ChangeShapes Go.WideShapes Go.ChangeAt Go.RowKit Go.Deep
set_option linter.unusedVariables false

/-- Two layers under way in blocks of their own. -/
structure TwoB (w wr : World) (x y : Nat) (f i v d t h a f' i' v' d' t' h' a' : Int) : Prop where
  bx : wr.heap[x]? = some (.cells (lyArr f i v d t h a) 44 (0, 0))
  bY : wr.heap[y]? = some (.cells (lyArr f' i' v' d' t' h' a') 44 (0, 0))
  ne : x ≠ y
  lx : w.heap.size ≤ x
  ly : w.heap.size ≤ y
  below : Below w.heap.size w wr
theorem TwoB.setx {w wr : World} {x y : Nat} {f i v d t h a f' i' v' d' t' h' a' F I V D T H' A : Int} (H : TwoB w wr x y f i v d t h a f' i' v' d' t' h' a') (n : Nat) (z : Int)
    (e : (lyArr f i v d t h a).setIfInBounds n (.int .i64 z) = lyArr F I V D T H' A) : TwoB w (wr.setCell ⟨x, n, none⟩ (.int .i64 z)) x y F I V D T H' A f' i' v' d' t' h' a' := by
  have hgs : wr.grownBy (wr.setCell ⟨x, n, none⟩ (.int .i64 z)) (some x) := grown_setCell (World.grownBy.refl wr (some x)) rfl _
  refine ⟨by rw [← e]; exact Go.Joins.block_setCell (i := n) H.bx (.int .i64 z), ?_, H.ne, H.lx, H.ly, H.below.setCell (p := ⟨x, n, none⟩) H.lx _⟩
  exact (hgs.block y (Array.getElem?_eq_some_iff.1 H.bY).1 (fun e => by injection e with e; exact H.ne e.symm)).trans H.bY
theorem TwoB.sety {w wr : World} {x y : Nat} {f i v d t h a f' i' v' d' t' h' a' F I V D T H' A : Int} (H : TwoB w wr x y f i v d t h a f' i' v' d' t' h' a') (n : Nat) (z : Int)
    (e : (lyArr f' i' v' d' t' h' a').setIfInBounds n (.int .i64 z) = lyArr F I V D T H' A) : TwoB w (wr.setCell ⟨y, n, none⟩ (.int .i64 z)) x y f i v d t h a F I V D T H' A := by
  have hgs : wr.grownBy (wr.setCell ⟨y, n, none⟩ (.int .i64 z)) (some y) := grown_setCell (World.grownBy.refl wr (some y)) rfl _
  refine ⟨?_, by rw [← e]; exact Go.Joins.block_setCell (i := n) H.bY (.int .i64 z), H.ne, H.lx, H.ly, H.below.setCell (p := ⟨y, n, none⟩) H.ly _⟩
  exact (hgs.block x (Array.getElem?_eq_some_iff.1 H.bx).1 (fun e => by injection e with e; exact H.ne e)).trans H.bx
theorem TwoB.drew {w wr : World} {x y : Nat} {f i v d t h a f' i' v' d' t' h' a' : Int} (H : TwoB w wr x y f i v d t h a f' i' v' d' t' h' a') : TwoB w wr.drew x y f i v d t h a f' i' v' d' t' h' a' :=
  ⟨H.bx, H.bY, H.ne, H.lx, H.ly, H.below.drew⟩
theorem TwoB.made (w : World) (f i v d t h a : Int) (o : Obj) (ho : o = .cells (lyArr f i v d t h a) 44 (0, 0)) : TwoB w (((w.alloc o).alloc o).drew) w.heap.size (w.heap.size + 1) f i v d t h a f i v d t h a := by
  subst ho
  have hz : (w.alloc (.cells (lyArr f i v d t h a) 44 (0, 0))).heap.size = w.heap.size + 1 := by simp
  have b1 := blk_alloc_new w (.cells (lyArr f i v d t h a) 44 (0, 0))
  have b2 := blk_alloc_new (w.alloc (.cells (lyArr f i v d t h a) 44 (0, 0))) (.cells (lyArr f i v d t h a) 44 (0, 0))
  rw [hz] at b2
  have hb := (below_alloc1 (w.alloc (.cells (lyArr f i v d t h a) 44 (0, 0))) (.cells (lyArr f i v d t h a) 44 (0, 0)))
  exact ⟨(hb.block _ (by rw [hz]; omega)).trans b1, b2, by omega, Nat.le_refl _, by omega, (((Below.refl _ _).alloc (Nat.le_refl _) _).alloc (by simp) _).drew⟩
theorem TwoB.swap {w wr : World} {x y : Nat} {f i v d t h a : Int} (H : TwoB w wr x y f i v d t h a f i v d t h a) : TwoB w wr y x f i v d t h a f i v d t h a :=
  ⟨H.bY, H.bx, H.ne.symm, H.ly, H.lx, H.below⟩
/-- The part that is split off keeps its share of the water. -/
theorem share_bd {v p i : Int} (hv : 0 ≤ v ∧ v ≤ 1000000) (hp : 1 ≤ p) (hpi : p < i) (hi : i ≤ 1000000) : (0 ≤ v * p ∧ v * p ≤ 1000000000000) ∧ (v * p).tdiv i = v * p / i ∧ 0 ≤ v * p / i ∧ v * p / i ≤ v := by
  have h0 : 0 ≤ v * p := Int.mul_nonneg hv.1 (by omega)
  have h1 : v * p ≤ 1000000 * 1000000 := Int.mul_le_mul hv.2 (by omega) (by omega) (by omega)
  have h2 : v * p ≤ v * i := Int.mul_le_mul_of_nonneg_left (by omega) hv.1
  refine ⟨⟨h0, by omega⟩, Int.tdiv_eq_ediv_of_nonneg h0, Int.ediv_nonneg h0 (by omega), ?_⟩
  exact Int.le_of_lt_add_one (Int.ediv_lt_of_lt_mul (by omega) (by rw [Int.add_mul]; omega))
set_option maxRecDepth 100000 in
set_option maxHeartbeats 3200000 in
theorem SplitLayer_no (A : Option Addr) (n c : Nat) (ls : List Ly) (k : Nat) (x : Ly) (w : World) (H : Lys w A n ls) (hx : ls[k]? = some x) :
    Calls Tryz.prog 33 #[.slice A n c, .int .i64 (k : Int), .int .i64 x.ice] w fun e w' => e = .returned (.tuple #[.slice none 0 0, .int .i64 2]) ∧ Below w.heap.size w w' := by
  have hn := H.2.1
  have hk : k < n := by have := (List.getElem?_eq_some_iff.1 hx).1; rw [H.1] at this; exact this
  have HIX := Lib.hid (show inB (k : Int) 0 ((n : Int) - 1) = true from inB_iff.2 (by omega))
  go_enter Tryz.func33, Tryz.ntmps33
  go_wp2_with fail
  refine (ValidProfile_t A n _ ls _ H).mono ?_
  rintro e w1 ⟨rfl, hb1⟩
  replace H := H.below hb1
  have HB1 := Lib.hid hb1
  clear hb1
  obtain ⟨b, off, f, i, v, d, t, h, a, rfl, HX, hc, hb⟩ := H.at_ hk
  obtain rfl : x = ⟨f, i, v, d, t, h, a⟩ := by have := hx.symm.trans HX.out; injection this
  have HIN := Lib.hid (show inB i 1 (i - 1) = false from inB_not.2 (by omega))
  obtain ⟨c0, c1, c2, c3, c4, c5, c6⟩ := hc
  have hki : (k : Int) < (n : Int) := by omega
  have hb1 := hb.2.1
  clear H hb hx
  go_wp2_with fail
  refine (indexValid_ly _ _ _ _ _ (by omega)).mono ?_
  rintro e w2 ⟨rfl, rfl⟩
  rw [HIX.out]
  go_wp2_with (go_at_call 49; refine (within_l _ _ _ _ _ HIN.out).mono ?_; rintro e w' ⟨rfl, rfl⟩)
  go_ret2
  exact ⟨rfl, HB1.out⟩
set_option maxRecDepth 100000 in
set_option maxHeartbeats 8000000 in
theorem SplitLayer_yes (A : Option Addr) (n c : Nat) (ls : List Ly) (k : Nat) (x : Ly) (p : Int) (w : World) (H : Lys w A n ls) (hnc : 0 < n → n ≤ c ∧ c ≤ maxLen) (hx : ls[k]? = some x) (hn15 : n ≤ 15) (hp1 : 1 ≤ p) (hp2 : p < x.ice) :
    Calls Tryz.prog 33 #[.slice A n c, .int .i64 (k : Int), .int .i64 p] w fun e w' => ∃ A' c' ls', e = .returned (.tuple #[.slice A' (n + 1) c', .int .i64 0]) ∧ Lys w' A' (n + 1) ls' ∧ sumF Ly.ice ls' = sumF Ly.ice ls ∧ sumF Ly.water ls' = sumF Ly.water ls ∧ (∃ y, ls'[k]? = some y ∧ y.ice = p) ∧ Below w.heap.size w w' := by
  have hn := H.2.1
  have HL := Lib.hid H.1
  have hk : k < n := by have := (List.getElem?_eq_some_iff.1 hx).1; rw [H.1] at this; exact this
  obtain ⟨hc1, hc2⟩ := hnc (by omega)
  unfold maxLen at hc2
  clear hnc
  have HIX := Lib.hid (show inB (k : Int) 0 ((n : Int) - 1) = true from inB_iff.2 (by omega))
  have hnb : ((n : Int) == 16) = false := by rw [beq_eq_false_iff_ne]; omega
  have hnc : (n == 16) = false := by rw [beq_eq_false_iff_ne]; omega
  have hni : ¬ (n : Int) = 16 := by omega
  go_enter Tryz.func33, Tryz.ntmps33
  go_wp2_with fail
  refine (ValidProfile_t A n _ ls _ H).mono ?_
  rintro e w1 ⟨rfl, hb1⟩
  replace H := H.below hb1
  have HB1 := Lib.hid hb1
  have HY := Lib.hid H
  clear hb1
  obtain ⟨b, off, f, i, v, d, t, h, a, rfl, HX, hc, hb⟩ := H.at_ hk
  obtain rfl : x = ⟨f, i, v, d, t, h, a⟩ := by have := hx.symm.trans HX.out; injection this
  replace hp2 : p < i := hp2
  have HBB := Lib.hid hb
  have HIN := Lib.hid (show inB p 1 (i - 1) = true from inB_iff.2 (by omega))
  obtain ⟨⟨sb1, sb2⟩, sb3, sb4, sb5⟩ := share_bd hb.2.2.1 hp1 hp2 hb.2.1.2
  obtain ⟨c0, c1, c2, c3, c4, c5, c6⟩ := hc
  have hki : (k : Int) < (n : Int) := by omega
  have hbi := hb.2.1
  have hbv := hb.2.2.1
  have hbl := cell_lt c0
  have nb1 : b ≠ w1.heap.size := by omega
  have nb2 : b ≠ w1.heap.size + 1 := by omega
  clear H hb hx
  go_wp2_with fail
  refine (indexValid_ly _ _ _ _ _ (by omega)).mono ?_
  rintro e w2 ⟨rfl, rfl⟩
  rw [HIX.out]
  go_wp2_with (go_at_call 49; refine (within_l _ _ _ _ _ HIN.out).mono ?_; rintro e w' ⟨rfl, rfl⟩)
  go_upto_region 7 with (fail)
  go_cut [8, 9] (fun p q wr => ∃ x y, p = .pointer (some ⟨x, 0, none⟩) ∧ q = .pointer (some ⟨y, 0, none⟩) ∧ TwoB w1 wr x y f i v d t h a f i v d t h a)
  case first =>
    go_region_held3 (fun w' => (w'.cell? ⟨b, off + k * 7, none⟩ = some (.int .i64 f) ∧ w'.cell? ⟨b, off + k * 7 + 1, none⟩ = some (.int .i64 i) ∧ w'.cell? ⟨b, off + k * 7 + 2, none⟩ = some (.int .i64 v) ∧ w'.cell? ⟨b, off + k * 7 + 3, none⟩ = some (.int .i64 d) ∧ w'.cell? ⟨b, off + k * 7 + 4, none⟩ = some (.int .i64 t) ∧ w'.cell? ⟨b, off + k * 7 + 5, none⟩ = some (.int .i64 h) ∧ w'.cell? ⟨b, off + k * 7 + 6, none⟩ = some (.int .i64 a))) (go_keep) (fail)
    all_goals
      go_wp2_with fail
      go_meet
      have hm := TwoB.made w1 f i v d t h a _ rfl
      first
        | exact ⟨_, _, rfl, rfl, hm⟩
        | exact ⟨_, _, rfl, rfl, hm.swap⟩
  case rest =>
    obtain ⟨x, y, rfl, rfl, hT⟩ := hcut
    rename World => wd
    have HYd := Lib.hid (HY.out.below hT.below)
    have HY1 := Lib.hid HY.out
    have HT := Lib.hid hT
    clear hT HY c0 c1 c2 c3 c4 c5 c6 hbl nb1 nb2
    have x0 := Go.Joins.cell_of_block HT.out.bx 0
    have xf0 := Go.Joins.unfrozen_of_block HT.out.bx 0
    have x1 := Go.Joins.cell_of_block HT.out.bx 1
    have xf1 := Go.Joins.unfrozen_of_block HT.out.bx 1
    have x2 := Go.Joins.cell_of_block HT.out.bx 2
    have xf2 := Go.Joins.unfrozen_of_block HT.out.bx 2
    have x3 := Go.Joins.cell_of_block HT.out.bx 3
    have xf3 := Go.Joins.unfrozen_of_block HT.out.bx 3
    have x4 := Go.Joins.cell_of_block HT.out.bx 4
    have xf4 := Go.Joins.unfrozen_of_block HT.out.bx 4
    have x5 := Go.Joins.cell_of_block HT.out.bx 5
    have xf5 := Go.Joins.unfrozen_of_block HT.out.bx 5
    have x6 := Go.Joins.cell_of_block HT.out.bx 6
    have xf6 := Go.Joins.unfrozen_of_block HT.out.bx 6
    simp only [List.getElem?_toArray, List.getElem?_cons_zero, List.getElem?_cons_succ] at x0 x1 x2 x3 x4 x5 x6
    obtain ⟨q, hq⟩ : ∃ q, q = v * p / i := ⟨_, rfl⟩
    obtain ⟨r, hr⟩ : ∃ r, r = v * p := ⟨_, rfl⟩
    have hw1 : IntKind.i64.wrap (v * p) = r := by rw [hr]; exact IntWalk.i64_in _ (by omega)
    have hw2 : r.tdiv i = q := by rw [hr, hq]; exact sb3
    have hw3 : IntKind.i64.wrap q = q := IntWalk.i64_in _ (by rw [hq]; omega)
    have hi0 : ¬ i = 0 := by omega
    have hib : (i == 0) = false := by rw [beq_eq_false_iff_ne]; omega
    have hq1 : 0 ≤ q ∧ q ≤ v := by rw [hq]; exact ⟨sb4, sb5⟩
    clear hq hr sb1 sb2 sb3 sb4 sb5
    go_upto_region 8 with (fail)
    go_cut [] (fun wr => TwoB w1 wr x y f p q d t h a f i v d t h a)
    case first =>
      go_region
      all_goals
        go_wp2_with fail
        go_meet
        exact ((HT.out.setx 1 p rfl).setx 2 q rfl).drew
    case rest =>
      rename World => w8
      have HT8 := Lib.hid hcut
      have HY8 := Lib.hid (HY1.out.below hcut.below)
      clear hcut HYd HT hw1 hw2 hw3 hi0 hib
      clear x0 xf0 x1 xf1 x2 xf2 x3 xf3 x4 xf4 x5 xf5 x6 xf6
      have x0 := Go.Joins.cell_of_block HT8.out.bx 0
      have xf0 := Go.Joins.unfrozen_of_block HT8.out.bx 0
      have x1 := Go.Joins.cell_of_block HT8.out.bx 1
      have xf1 := Go.Joins.unfrozen_of_block HT8.out.bx 1
      have x2 := Go.Joins.cell_of_block HT8.out.bx 2
      have xf2 := Go.Joins.unfrozen_of_block HT8.out.bx 2
      have x3 := Go.Joins.cell_of_block HT8.out.bx 3
      have xf3 := Go.Joins.unfrozen_of_block HT8.out.bx 3
      have x4 := Go.Joins.cell_of_block HT8.out.bx 4
      have xf4 := Go.Joins.unfrozen_of_block HT8.out.bx 4
      have x5 := Go.Joins.cell_of_block HT8.out.bx 5
      have xf5 := Go.Joins.unfrozen_of_block HT8.out.bx 5
      have x6 := Go.Joins.cell_of_block HT8.out.bx 6
      have xf6 := Go.Joins.unfrozen_of_block HT8.out.bx 6
      simp only [List.getElem?_toArray, List.getElem?_cons_zero, List.getElem?_cons_succ] at x0 x1 x2 x3 x4 x5 x6
      have y0 := Go.Joins.cell_of_block HT8.out.bY 0
      have yf0 := Go.Joins.unfrozen_of_block HT8.out.bY 0
      have y1 := Go.Joins.cell_of_block HT8.out.bY 1
      have yf1 := Go.Joins.unfrozen_of_block HT8.out.bY 1
      have y2 := Go.Joins.cell_of_block HT8.out.bY 2
      have yf2 := Go.Joins.unfrozen_of_block HT8.out.bY 2
      have y3 := Go.Joins.cell_of_block HT8.out.bY 3
      have yf3 := Go.Joins.unfrozen_of_block HT8.out.bY 3
      have y4 := Go.Joins.cell_of_block HT8.out.bY 4
      have yf4 := Go.Joins.unfrozen_of_block HT8.out.bY 4
      have y5 := Go.Joins.cell_of_block HT8.out.bY 5
      have yf5 := Go.Joins.unfrozen_of_block HT8.out.bY 5
      have y6 := Go.Joins.cell_of_block HT8.out.bY 6
      have yf6 := Go.Joins.unfrozen_of_block HT8.out.bY 6
      simp only [List.getElem?_toArray, List.getElem?_cons_zero, List.getElem?_cons_succ] at y0 y1 y2 y3 y4 y5 y6
      go_upto_region 9 with (fail)
      go_cut [] (fun wr => TwoB w1 wr x y f p q d t h a f (i - p) v d t h a)
      case first =>
        go_wp2_with fail
        go_meet
        exact HT8.out.sety 1 (i - p) rfl
      case rest =>
        rename World => w9
        have HT9 := Lib.hid hcut
        have HY9 := Lib.hid (HY1.out.below hcut.below)
        clear hcut HT8 HY8
        clear x0 xf0 x1 xf1 x2 xf2 x3 xf3 x4 xf4 x5 xf5 x6 xf6
        clear y0 yf0 y1 yf1 y2 yf2 y3 yf3 y4 yf4 y5 yf5 y6 yf6
        have x0 := Go.Joins.cell_of_block HT9.out.bx 0
        have xf0 := Go.Joins.unfrozen_of_block HT9.out.bx 0
        have x1 := Go.Joins.cell_of_block HT9.out.bx 1
        have xf1 := Go.Joins.unfrozen_of_block HT9.out.bx 1
        have x2 := Go.Joins.cell_of_block HT9.out.bx 2
        have xf2 := Go.Joins.unfrozen_of_block HT9.out.bx 2
        have x3 := Go.Joins.cell_of_block HT9.out.bx 3
        have xf3 := Go.Joins.unfrozen_of_block HT9.out.bx 3
        have x4 := Go.Joins.cell_of_block HT9.out.bx 4
        have xf4 := Go.Joins.unfrozen_of_block HT9.out.bx 4
        have x5 := Go.Joins.cell_of_block HT9.out.bx 5
        have xf5 := Go.Joins.unfrozen_of_block HT9.out.bx 5
        have x6 := Go.Joins.cell_of_block HT9.out.bx 6
        have xf6 := Go.Joins.unfrozen_of_block HT9.out.bx 6
        simp only [List.getElem?_toArray, List.getElem?_cons_zero, List.getElem?_cons_succ] at x0 x1 x2 x3 x4 x5 x6
        have y0 := Go.Joins.cell_of_block HT9.out.bY 0
        have yf0 := Go.Joins.unfrozen_of_block HT9.out.bY 0
        have y1 := Go.Joins.cell_of_block HT9.out.bY 1
        have yf1 := Go.Joins.unfrozen_of_block HT9.out.bY 1
        have y2 := Go.Joins.cell_of_block HT9.out.bY 2
        have yf2 := Go.Joins.unfrozen_of_block HT9.out.bY 2
        have y3 := Go.Joins.cell_of_block HT9.out.bY 3
        have yf3 := Go.Joins.unfrozen_of_block HT9.out.bY 3
        have y4 := Go.Joins.cell_of_block HT9.out.bY 4
        have yf4 := Go.Joins.unfrozen_of_block HT9.out.bY 4
        have y5 := Go.Joins.cell_of_block HT9.out.bY 5
        have yf5 := Go.Joins.unfrozen_of_block HT9.out.bY 5
        have y6 := Go.Joins.cell_of_block HT9.out.bY 6
        have yf6 := Go.Joins.unfrozen_of_block HT9.out.bY 6
        simp only [List.getElem?_toArray, List.getElem?_cons_zero, List.getElem?_cons_succ] at y0 y1 y2 y3 y4 y5 y6
        go_upto_region 10 with (fail)
        go_cut [] (fun wr => TwoB w1 wr x y f p q d t h a f (i - p) (v - q) d t h a)
        case first =>
          go_wp2_with fail
          go_meet
          exact HT9.out.sety 2 (v - q) rfl
        case rest =>
          rename World => we
          have HTe := Lib.hid hcut
          have HYe := Lib.hid (HY1.out.below hcut.below)
          clear hcut HT9 HY9
          clear x0 xf0 x1 xf1 x2 xf2 x3 xf3 x4 xf4 x5 xf5 x6 xf6
          clear y0 yf0 y1 yf1 y2 yf2 y3 yf3 y4 yf4 y5 yf5 y6 yf6
          have x0 := Go.Joins.cell_of_block HTe.out.bx 0
          have xf0 := Go.Joins.unfrozen_of_block HTe.out.bx 0
          have x1 := Go.Joins.cell_of_block HTe.out.bx 1
          have xf1 := Go.Joins.unfrozen_of_block HTe.out.bx 1
          have x2 := Go.Joins.cell_of_block HTe.out.bx 2
          have xf2 := Go.Joins.unfrozen_of_block HTe.out.bx 2
          have x3 := Go.Joins.cell_of_block HTe.out.bx 3
          have xf3 := Go.Joins.unfrozen_of_block HTe.out.bx 3
          have x4 := Go.Joins.cell_of_block HTe.out.bx 4
          have xf4 := Go.Joins.unfrozen_of_block HTe.out.bx 4
          have x5 := Go.Joins.cell_of_block HTe.out.bx 5
          have xf5 := Go.Joins.unfrozen_of_block HTe.out.bx 5
          have x6 := Go.Joins.cell_of_block HTe.out.bx 6
          have xf6 := Go.Joins.unfrozen_of_block HTe.out.bx 6
          simp only [List.getElem?_toArray, List.getElem?_cons_zero, List.getElem?_cons_succ] at x0 x1 x2 x3 x4 x5 x6
          have y0 := Go.Joins.cell_of_block HTe.out.bY 0
          have yf0 := Go.Joins.unfrozen_of_block HTe.out.bY 0
          have y1 := Go.Joins.cell_of_block HTe.out.bY 1
          have yf1 := Go.Joins.unfrozen_of_block HTe.out.bY 1
          have y2 := Go.Joins.cell_of_block HTe.out.bY 2
          have yf2 := Go.Joins.unfrozen_of_block HTe.out.bY 2
          have y3 := Go.Joins.cell_of_block HTe.out.bY 3
          have yf3 := Go.Joins.unfrozen_of_block HTe.out.bY 3
          have y4 := Go.Joins.cell_of_block HTe.out.bY 4
          have yf4 := Go.Joins.unfrozen_of_block HTe.out.bY 4
          have y5 := Go.Joins.cell_of_block HTe.out.bY 5
          have yf5 := Go.Joins.unfrozen_of_block HTe.out.bY 5
          have y6 := Go.Joins.cell_of_block HTe.out.bY 6
          have yf6 := Go.Joins.unfrozen_of_block HTe.out.bY 6
          simp only [List.getElem?_toArray, List.getElem?_cons_zero, List.getElem?_cons_succ] at y0 y1 y2 y3 y4 y5 y6
          clear xf0 yf0 xf1 yf1 xf2 yf2 xf3 yf3 xf4 yf4 xf5 yf5 xf6 yf6
          have HS0 : (we.cell? ⟨x, 0, none⟩ = some (.int .i64 f) ∧ we.cell? ⟨x, 1, none⟩ = some (.int .i64 p) ∧ we.cell? ⟨x, 2, none⟩ = some (.int .i64 q) ∧ we.cell? ⟨x, 3, none⟩ = some (.int .i64 d) ∧ we.cell? ⟨x, 4, none⟩ = some (.int .i64 t) ∧ we.cell? ⟨x, 5, none⟩ = some (.int .i64 h) ∧ we.cell? ⟨x, 6, none⟩ = some (.int .i64 a)) ∧ (we.cell? ⟨y, 0, none⟩ = some (.int .i64 f) ∧ we.cell? ⟨y, 1, none⟩ = some (.int .i64 (i - p)) ∧ we.cell? ⟨y, 2, none⟩ = some (.int .i64 (v - q)) ∧ we.cell? ⟨y, 3, none⟩ = some (.int .i64 d) ∧ we.cell? ⟨y, 4, none⟩ = some (.int .i64 t) ∧ we.cell? ⟨y, 5, none⟩ = some (.int .i64 h) ∧ we.cell? ⟨y, 6, none⟩ = some (.int .i64 a)) ∧ Below we.heap.size we we := ⟨⟨x0, x1, x2, x3, x4, x5, x6⟩, ⟨y0, y1, y2, y3, y4, y5, y6⟩, Below.refl _ _⟩
          have HMID := fun (W : World) (B : Nat) (hB : W.heap[B]? = some (.cells #[.int .i64 f, .int .i64 p, .int .i64 q, .int .i64 d, .int .i64 t, .int .i64 h, .int .i64 a, .int .i64 f, .int .i64 (i - p), .int .i64 (v - q), .int .i64 d, .int .i64 t, .int .i64 h, .int .i64 a] 44 (0, 0))) => Lys.two_b hB (show Lb f p q d t h a from ⟨HBB.out.1, by omega, by omega, HBB.out.2.2.2⟩) (show Lb f (i - p) (v - q) d t h a from ⟨HBB.out.1, by omega, by omega, HBB.out.2.2.2⟩)
          have HTK := Lib.hid (HYe.out.take (show k ≤ n by omega))
          have HSI := Lib.hid (split_sum Ly.ice (l := ⟨f, p, q, d, t, h, a⟩) (u := ⟨f, (i - p), (v - q), d, t, h, a⟩) HX.out (by show p + (i - p) = i; omega))
          have HSW := Lib.hid (split_sum Ly.water (l := ⟨f, p, q, d, t, h, a⟩) (u := ⟨f, (i - p), (v - q), d, t, h, a⟩) HX.out (by show q + (v - q) = v; omega))
          have HBE := Lib.hid (HB1.out.trans (HTe.out.below.mono HB1.out.size))
          have hkl : (ls.take k).length = k := HTK.out.1
          have HKL := Lib.hid hkl
          have hw4 : IntKind.i64.wrap ((k : Int) + 1) = (k : Int) + 1 := IntWalk.i64_in _ (by omega)
          have hk1 : (k : Int) + 1 ≤ (n : Int) := by omega
          have hk2 : ((k : Int) + 1).toNat = k + 1 := by omega
          have hk3 : (0 : Int) ≤ (k : Int) + 1 := by omega
          have hk4 : (k : Int) ≤ (c : Int) := by omega
          have hkn : k + 1 ≤ n := by omega
          have hkc : k ≤ c := by omega
          clear hkl
          by_cases hcap : c = k + 1
          · have hnk : n = k + 1 := by omega
            have HNK := Lib.hid hnk
            have HDR := Lib.hid (show ls.drop (k + 1) = [] from List.drop_eq_nil_of_le (by rw [HL.out]; omega))
            clear hnk
            have hk5 : (k : Int) ≤ (k : Int) + 1 := by omega
            have hk6 : k ≤ k + 1 := by omega
            go_upto_region 11 with (fail)
            go_region_held3 (fun w' => (w'.cell? ⟨x, 0, none⟩ = some (.int .i64 f) ∧ w'.cell? ⟨x, 1, none⟩ = some (.int .i64 p) ∧ w'.cell? ⟨x, 2, none⟩ = some (.int .i64 q) ∧ w'.cell? ⟨x, 3, none⟩ = some (.int .i64 d) ∧ w'.cell? ⟨x, 4, none⟩ = some (.int .i64 t) ∧ w'.cell? ⟨x, 5, none⟩ = some (.int .i64 h) ∧ w'.cell? ⟨x, 6, none⟩ = some (.int .i64 a)) ∧ (w'.cell? ⟨y, 0, none⟩ = some (.int .i64 f) ∧ w'.cell? ⟨y, 1, none⟩ = some (.int .i64 (i - p)) ∧ w'.cell? ⟨y, 2, none⟩ = some (.int .i64 (v - q)) ∧ w'.cell? ⟨y, 3, none⟩ = some (.int .i64 d) ∧ w'.cell? ⟨y, 4, none⟩ = some (.int .i64 t) ∧ w'.cell? ⟨y, 5, none⟩ = some (.int .i64 h) ∧ w'.cell? ⟨y, 6, none⟩ = some (.int .i64 a)) ∧ Below we.heap.size we w')
              (first | assumption | exact HS0 | exact two_drew HS0 | exact two_drew (by assumption) | exact two_call (by assumption) ((Below.refl _ _).alloc (Nat.le_refl _) _) | exact two_call HS0 ((Below.refl _ _).alloc (Nat.le_refl _) _) | exact two_call (two_drew HS0) ((Below.refl _ _).alloc (Nat.le_refl _) _) | exact two_call (by assumption) hb5)
              ((go_at_call 66; refine (concatLy_t _ 3 3 _ _ (parts3 (wv := we) (W0 := we.drew) (Below.refl _ _).drew _ _ HTK.out (fun W hB => HMID W _ hB) (show Lys we _ _ (ls.drop (k + 1)) by rw [HDR.out, show n - (k + 1) = 0 by have := HNK.out; omega]; exact Lys.nil _ _)) rfl (by omega) (by rw [parts_tot]; omega) (by rw [parts_tot]; omega)).mono ?_; rintro e w5 ⟨A5, c5, rfl, hbag5, hb5⟩))
            all_goals
              rw [parts_tot, parts_flat] at hbag5
              rw [parts_tot]
              have e5 : k + (2 + (n - (k + 1))) = n + 1 := by omega
              rw [e5] at hbag5 ⊢
              have HF := Lib.hid (And.intro hbag5.lys (below3 HBE.out (Below.refl _ _).drew hb5))
              clear hbag5 hb5
              go_wp2_with fail
              go_ret2
              exact ⟨A5, c5, _, rfl, HF.out.1, HSI.out, HSW.out, ⟨_, at_mid HKL.out, rfl⟩, HF.out.2⟩
          · have HDP := Lib.hid (HYe.out.drop (k + 1))
            go_upto_region 11 with (fail)
            go_region_held3 (fun w' => (w'.cell? ⟨x, 0, none⟩ = some (.int .i64 f) ∧ w'.cell? ⟨x, 1, none⟩ = some (.int .i64 p) ∧ w'.cell? ⟨x, 2, none⟩ = some (.int .i64 q) ∧ w'.cell? ⟨x, 3, none⟩ = some (.int .i64 d) ∧ w'.cell? ⟨x, 4, none⟩ = some (.int .i64 t) ∧ w'.cell? ⟨x, 5, none⟩ = some (.int .i64 h) ∧ w'.cell? ⟨x, 6, none⟩ = some (.int .i64 a)) ∧ (w'.cell? ⟨y, 0, none⟩ = some (.int .i64 f) ∧ w'.cell? ⟨y, 1, none⟩ = some (.int .i64 (i - p)) ∧ w'.cell? ⟨y, 2, none⟩ = some (.int .i64 (v - q)) ∧ w'.cell? ⟨y, 3, none⟩ = some (.int .i64 d) ∧ w'.cell? ⟨y, 4, none⟩ = some (.int .i64 t) ∧ w'.cell? ⟨y, 5, none⟩ = some (.int .i64 h) ∧ w'.cell? ⟨y, 6, none⟩ = some (.int .i64 a)) ∧ Below we.heap.size we w')
              (first | assumption | exact HS0 | exact two_drew HS0 | exact two_drew (by assumption) | exact two_call (by assumption) ((Below.refl _ _).alloc (Nat.le_refl _) _) | exact two_call HS0 ((Below.refl _ _).alloc (Nat.le_refl _) _) | exact two_call (two_drew HS0) ((Below.refl _ _).alloc (Nat.le_refl _) _) | exact two_call (by assumption) hb5)
              ((go_at_call 66; refine (concatLy_t _ 3 3 _ _ (parts3 (wv := we) (W0 := we.drew) (Below.refl _ _).drew _ _ HTK.out (fun W hB => HMID W _ hB) HDP.out) rfl (by omega) (by rw [parts_tot]; omega) (by rw [parts_tot]; omega)).mono ?_; rintro e w5 ⟨A5, c5, rfl, hbag5, hb5⟩))
            all_goals
              rw [parts_tot, parts_flat] at hbag5
              rw [parts_tot]
              have e5 : k + (2 + (n - (k + 1))) = n + 1 := by omega
              rw [e5] at hbag5 ⊢
              have HF := Lib.hid (And.intro hbag5.lys (below3 HBE.out (Below.refl _ _).drew hb5))
              clear hbag5 hb5
              go_wp2_with fail
              go_ret2
              exact ⟨A5, c5, _, rfl, HF.out.1, HSI.out, HSW.out, ⟨_, at_mid HKL.out, rfl⟩, HF.out.2⟩
end Go.Proofs.YtknppcgoooaaaaaGreatDoor
