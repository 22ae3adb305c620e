/-
  Layers: thickness, gradients, forms.
-/
import Derived.Test.YtlfjjdglffiinaaLyC
import Derived.Deep.DeepCutAuto
namespace Go.Proofs.Ytlfjjdglffiinaa
open Go.ChangeShapes Go.WideShapes Go.ChangeAt Go.RowKit Go.Deep
set_option linter.unusedVariables false

def gradN (g1 g2 t1 t2 : Int) : Int := divN (1000 * (g2 - g1)) (max ((t1 + t2) / 2) 1)
def thickL (x : Ly) : Int := divN x.ice x.dens
def gradL (a b : Ly) : Int := gradN a.deg b.deg (thickL a) (thickL b)
def gradF (ls : List Ly) (k : Nat) : Int := match ls[k]?, ls[k + 1]? with
  | some a, some b => gradL a b
  | _, _ => 0
theorem gradF_eq {ls : List Ly} {k : Nat} {a b : Ly} (h : ls[k]? = some a) (h' : ls[k + 1]? = some b) : gradF ls k = gradL a b := by simp [gradF, h, h']
theorem thick_bd {i d : Int} (hi : 1 ≤ i ∧ i ≤ 1000000) (hd : 30 ≤ d ∧ d ≤ 900) : 0 ≤ divN i d ∧ divN i d ≤ 1000001 := by
  have := divN_le i d (by omega) (by omega)
  omega
theorem gradN_bd {g1 g2 t1 t2 : Int} (h1 : -4000 ≤ g1 ∧ g1 ≤ 0) (h2 : -4000 ≤ g2 ∧ g2 ≤ 0) : -4000001 ≤ gradN g1 g2 t1 t2 ∧ gradN g1 g2 t1 t2 ≤ 4000001 := by
  have := divN_bd (1000 * (g2 - g1)) (max ((t1 + t2) / 2) 1) (by omega)
  have e : absI (1000 * (g2 - g1)) ≤ 4000000 := by unfold absI; split <;> omega
  unfold gradN
  omega
theorem divN_odd (a b : Int) (hb : 1 ≤ b) : divN (-a) b = - divN a b := by
  rcases Int.lt_trichotomy a 0 with h | h | h
  · rw [divN_neg a b h]; omega
  · subst h
    have : divN 0 b = 0 := by
      unfold divN
      rw [if_neg (by omega)]
      exact Int.ediv_eq_zero_of_lt (by omega) (by omega)
    simp [this]
  · rw [divN_neg (-a) b (by omega), Int.neg_neg]
theorem gradN_swap (g1 g2 t1 t2 : Int) : gradN g1 g2 t1 t2 = - gradN g2 g1 t2 t1 := by
  unfold gradN
  rw [show 1000 * (g2 - g1) = -(1000 * (g1 - g2)) by omega, Int.add_comm t2 t1, divN_odd _ _ (by omega)]
theorem thickness_t (f i v d g h a : Int) (w : World) (B : Lb f i v d g h a) :
    Calls Try.prog 59 #[Lyv f i v d g h a] w fun e w' => e = .returned (.int .i64 (divN i d)) ∧ Below w.heap.size w w' := by
  obtain ⟨_, b1, _, b3, _⟩ := B
  go_enter Try.func59, Try.ntmps59
  go_wp2_with (go_at_call 58; refine (divRound_any _ _ _ (by omega) (by omega) (by omega) (by omega)).mono ?_; rintro e w' ⟨rfl, nd, rfl⟩)
  go_ret
  exact ⟨rfl, below_drewN ((Below.refl _ _).alloc (Nat.le_refl _) _) _⟩
theorem ly_alloc (w : World) (f i v d g h a : Int) (T : TypeId) : LyAt (w.alloc (.cells #[.int .i64 f, .int .i64 i, .int .i64 v, .int .i64 d, .int .i64 g, .int .i64 h, .int .i64 a] T)) w.heap.size 0 f i v d g h a := by
  have H := blk_alloc_new w (.cells #[.int .i64 f, .int .i64 i, .int .i64 v, .int .i64 d, .int .i64 g, .int .i64 h, .int .i64 a] T)
  have c := fun n => Go.Joins.cell_of_block H n
  have c0 := c 0
  have c1 := c 1
  have c2 := c 2
  have c3 := c 3
  have c4 := c 4
  have c5 := c 5
  have c6 := c 6
  simp only [List.getElem?_toArray, List.getElem?_cons_zero, List.getElem?_cons_succ] at c0 c1 c2 c3 c4 c5 c6
  exact ⟨c0, c1, c2, c3, c4, c5, c6⟩
theorem two_call {wd w w' : World} {x y : Nat} {f i v d g h a f' i' v' d' g' h' a' : Int} (H : (w.cell? ⟨x, 0, none⟩ = some (.int .i64 f) ∧ w.cell? ⟨x, 1, none⟩ = some (.int .i64 i) ∧ w.cell? ⟨x, 2, none⟩ = some (.int .i64 v) ∧ w.cell? ⟨x, 3, none⟩ = some (.int .i64 d) ∧ w.cell? ⟨x, 4, none⟩ = some (.int .i64 g) ∧ w.cell? ⟨x, 5, none⟩ = some (.int .i64 h) ∧ w.cell? ⟨x, 6, none⟩ = some (.int .i64 a)) ∧ (w.cell? ⟨y, 0, none⟩ = some (.int .i64 f') ∧ w.cell? ⟨y, 1, none⟩ = some (.int .i64 i') ∧ w.cell? ⟨y, 2, none⟩ = some (.int .i64 v') ∧ w.cell? ⟨y, 3, none⟩ = some (.int .i64 d') ∧ w.cell? ⟨y, 4, none⟩ = some (.int .i64 g') ∧ w.cell? ⟨y, 5, none⟩ = some (.int .i64 h') ∧ w.cell? ⟨y, 6, none⟩ = some (.int .i64 a')) ∧ Below wd.heap.size wd w) (hbw : Below w.heap.size w w') : (w'.cell? ⟨x, 0, none⟩ = some (.int .i64 f) ∧ w'.cell? ⟨x, 1, none⟩ = some (.int .i64 i) ∧ w'.cell? ⟨x, 2, none⟩ = some (.int .i64 v) ∧ w'.cell? ⟨x, 3, none⟩ = some (.int .i64 d) ∧ w'.cell? ⟨x, 4, none⟩ = some (.int .i64 g) ∧ w'.cell? ⟨x, 5, none⟩ = some (.int .i64 h) ∧ w'.cell? ⟨x, 6, none⟩ = some (.int .i64 a)) ∧ (w'.cell? ⟨y, 0, none⟩ = some (.int .i64 f') ∧ w'.cell? ⟨y, 1, none⟩ = some (.int .i64 i') ∧ w'.cell? ⟨y, 2, none⟩ = some (.int .i64 v') ∧ w'.cell? ⟨y, 3, none⟩ = some (.int .i64 d') ∧ w'.cell? ⟨y, 4, none⟩ = some (.int .i64 g') ∧ w'.cell? ⟨y, 5, none⟩ = some (.int .i64 h') ∧ w'.cell? ⟨y, 6, none⟩ = some (.int .i64 a')) ∧ Below wd.heap.size wd w' := by
  obtain ⟨⟨c0, c1, c2, c3, c4, c5, c6⟩, ⟨e0, e1, e2, e3, e4, e5, e6⟩, hb⟩ := H
  exact ⟨⟨cell_kept hbw c0, cell_kept hbw c1, cell_kept hbw c2, cell_kept hbw c3, cell_kept hbw c4, cell_kept hbw c5, cell_kept hbw c6⟩, ⟨cell_kept hbw e0, cell_kept hbw e1, cell_kept hbw e2, cell_kept hbw e3, cell_kept hbw e4, cell_kept hbw e5, cell_kept hbw e6⟩, hb.trans (hbw.mono hb.size)⟩
theorem two_drew {wd w : World} {x y : Nat} {f i v d g h a f' i' v' d' g' h' a' : Int} (H : (w.cell? ⟨x, 0, none⟩ = some (.int .i64 f) ∧ w.cell? ⟨x, 1, none⟩ = some (.int .i64 i) ∧ w.cell? ⟨x, 2, none⟩ = some (.int .i64 v) ∧ w.cell? ⟨x, 3, none⟩ = some (.int .i64 d) ∧ w.cell? ⟨x, 4, none⟩ = some (.int .i64 g) ∧ w.cell? ⟨x, 5, none⟩ = some (.int .i64 h) ∧ w.cell? ⟨x, 6, none⟩ = some (.int .i64 a)) ∧ (w.cell? ⟨y, 0, none⟩ = some (.int .i64 f') ∧ w.cell? ⟨y, 1, none⟩ = some (.int .i64 i') ∧ w.cell? ⟨y, 2, none⟩ = some (.int .i64 v') ∧ w.cell? ⟨y, 3, none⟩ = some (.int .i64 d') ∧ w.cell? ⟨y, 4, none⟩ = some (.int .i64 g') ∧ w.cell? ⟨y, 5, none⟩ = some (.int .i64 h') ∧ w.cell? ⟨y, 6, none⟩ = some (.int .i64 a')) ∧ Below wd.heap.size wd w) : (w.drew.cell? ⟨x, 0, none⟩ = some (.int .i64 f) ∧ w.drew.cell? ⟨x, 1, none⟩ = some (.int .i64 i) ∧ w.drew.cell? ⟨x, 2, none⟩ = some (.int .i64 v) ∧ w.drew.cell? ⟨x, 3, none⟩ = some (.int .i64 d) ∧ w.drew.cell? ⟨x, 4, none⟩ = some (.int .i64 g) ∧ w.drew.cell? ⟨x, 5, none⟩ = some (.int .i64 h) ∧ w.drew.cell? ⟨x, 6, none⟩ = some (.int .i64 a)) ∧ (w.drew.cell? ⟨y, 0, none⟩ = some (.int .i64 f') ∧ w.drew.cell? ⟨y, 1, none⟩ = some (.int .i64 i') ∧ w.drew.cell? ⟨y, 2, none⟩ = some (.int .i64 v') ∧ w.drew.cell? ⟨y, 3, none⟩ = some (.int .i64 d') ∧ w.drew.cell? ⟨y, 4, none⟩ = some (.int .i64 g') ∧ w.drew.cell? ⟨y, 5, none⟩ = some (.int .i64 h') ∧ w.drew.cell? ⟨y, 6, none⟩ = some (.int .i64 a')) ∧ Below wd.heap.size wd w.drew := by
  obtain ⟨⟨c0, c1, c2, c3, c4, c5, c6⟩, ⟨e0, e1, e2, e3, e4, e5, e6⟩, hb⟩ := H
  exact ⟨⟨c0, c1, c2, c3, c4, c5, c6⟩, ⟨e0, e1, e2, e3, e4, e5, e6⟩, hb.drew⟩
theorem two_drewN {wd w : World} {x y : Nat} {f i v d g h a f' i' v' d' g' h' a' : Int} (H : (w.cell? ⟨x, 0, none⟩ = some (.int .i64 f) ∧ w.cell? ⟨x, 1, none⟩ = some (.int .i64 i) ∧ w.cell? ⟨x, 2, none⟩ = some (.int .i64 v) ∧ w.cell? ⟨x, 3, none⟩ = some (.int .i64 d) ∧ w.cell? ⟨x, 4, none⟩ = some (.int .i64 g) ∧ w.cell? ⟨x, 5, none⟩ = some (.int .i64 h) ∧ w.cell? ⟨x, 6, none⟩ = some (.int .i64 a)) ∧ (w.cell? ⟨y, 0, none⟩ = some (.int .i64 f') ∧ w.cell? ⟨y, 1, none⟩ = some (.int .i64 i') ∧ w.cell? ⟨y, 2, none⟩ = some (.int .i64 v') ∧ w.cell? ⟨y, 3, none⟩ = some (.int .i64 d') ∧ w.cell? ⟨y, 4, none⟩ = some (.int .i64 g') ∧ w.cell? ⟨y, 5, none⟩ = some (.int .i64 h') ∧ w.cell? ⟨y, 6, none⟩ = some (.int .i64 a')) ∧ Below wd.heap.size wd w) (n : Nat) : ((w.drewN n).cell? ⟨x, 0, none⟩ = some (.int .i64 f) ∧ (w.drewN n).cell? ⟨x, 1, none⟩ = some (.int .i64 i) ∧ (w.drewN n).cell? ⟨x, 2, none⟩ = some (.int .i64 v) ∧ (w.drewN n).cell? ⟨x, 3, none⟩ = some (.int .i64 d) ∧ (w.drewN n).cell? ⟨x, 4, none⟩ = some (.int .i64 g) ∧ (w.drewN n).cell? ⟨x, 5, none⟩ = some (.int .i64 h) ∧ (w.drewN n).cell? ⟨x, 6, none⟩ = some (.int .i64 a)) ∧ ((w.drewN n).cell? ⟨y, 0, none⟩ = some (.int .i64 f') ∧ (w.drewN n).cell? ⟨y, 1, none⟩ = some (.int .i64 i') ∧ (w.drewN n).cell? ⟨y, 2, none⟩ = some (.int .i64 v') ∧ (w.drewN n).cell? ⟨y, 3, none⟩ = some (.int .i64 d') ∧ (w.drewN n).cell? ⟨y, 4, none⟩ = some (.int .i64 g') ∧ (w.drewN n).cell? ⟨y, 5, none⟩ = some (.int .i64 h') ∧ (w.drewN n).cell? ⟨y, 6, none⟩ = some (.int .i64 a')) ∧ Below wd.heap.size wd (w.drewN n) := by
  obtain ⟨⟨c0, c1, c2, c3, c4, c5, c6⟩, ⟨e0, e1, e2, e3, e4, e5, e6⟩, hb⟩ := H
  exact ⟨⟨c0, c1, c2, c3, c4, c5, c6⟩, ⟨e0, e1, e2, e3, e4, e5, e6⟩, below_drewN hb n⟩
theorem two_chain {wd a b : World} (h1 : Below wd.drew.heap.size wd.drew a) (h2 : Below a.heap.size a b) : Below wd.heap.size wd b :=
  have h0 : Below wd.heap.size wd wd.drew := (Below.refl _ _).drew
  h0.trans (h1.trans (h2.mono h1.size))
set_option maxRecDepth 100000 in
set_option maxHeartbeats 2000000 in
theorem gradientOf_t (A : Option Addr) (n c : Nat) (ls : List Ly) (k : Nat) (w : World) (H : Lys w A n ls) (hk : k + 1 < n) :
    Calls Try.prog 47 #[.slice A n c, .int .i64 (k : Int)] w fun e w' => e = .returned (.int .i64 (gradF ls k)) ∧ Below w.heap.size w w' := by
  have hn := H.2.1
  obtain ⟨b, off, f, i, v, d, g, h, a, rfl, HX, hc, hb⟩ := H.at_ (show k < n by omega)
  obtain ⟨b', off', f', i', v', d', g', h', a', hA, HX', hc', hb'⟩ := H.at_ hk
  injection hA with hA
  injection hA with hA1 hA2 _
  subst hA1 hA2
  have HG := Lib.hid (show gradF ls k = gradN g g' (divN i d) (divN i' d') from gradF_eq HX.out HX'.out)
  have HBB := Lib.hid (And.intro hb hb')
  obtain ⟨c0, c1, c2, c3, c4, c5, c6⟩ := hc
  obtain ⟨d0, d1, d2, d3, d4, d5, d6⟩ := hc'
  have h1 : (k : Int) < (n : Int) := by omega
  have h2 : (k : Int) + 1 < (n : Int) := by omega
  have h3 : (0 : Int) ≤ (k : Int) + 1 := by omega
  have hw : IntKind.i64.wrap ((k : Int) + 1) = (k : Int) + 1 := IntWalk.i64_in _ (by omega)
  have ht : ((k : Int) + 1).toNat = k + 1 := by omega
  have hbl := cell_lt c0
  have nb1 : b ≠ w.heap.size := by omega
  have nb2 : b ≠ w.heap.size + 1 := by omega
  clear H hb hb'
  go_enter Try.func47, Try.ntmps47
  go_wp2_with fail
  go_upto_region 1 with (fail)
  go_cut [5, 6] (fun p q wr => ∃ x y, p = .pointer (some ⟨x, 0, none⟩) ∧ q = .pointer (some ⟨y, 0, none⟩) ∧ LyAt wr x 0 f i v d g h a ∧ LyAt wr y 0 f' i' v' d' g' h' a' ∧ Below w.heap.size w wr)
  case first =>
    go_region_held3 (fun w' => (w'.cell? ⟨b, off + k * 7, none⟩ = some (.int .i64 f) ∧ w'.cell? ⟨b, off + k * 7 + 1, none⟩ = some (.int .i64 i) ∧ w'.cell? ⟨b, off + k * 7 + 2, none⟩ = some (.int .i64 v) ∧ w'.cell? ⟨b, off + k * 7 + 3, none⟩ = some (.int .i64 d) ∧ w'.cell? ⟨b, off + k * 7 + 4, none⟩ = some (.int .i64 g) ∧ w'.cell? ⟨b, off + k * 7 + 5, none⟩ = some (.int .i64 h) ∧ w'.cell? ⟨b, off + k * 7 + 6, none⟩ = some (.int .i64 a)) ∧
      w'.cell? ⟨b, off + (k + 1) * 7, none⟩ = some (.int .i64 f') ∧ w'.cell? ⟨b, off + (k + 1) * 7 + 1, none⟩ = some (.int .i64 i') ∧ w'.cell? ⟨b, off + (k + 1) * 7 + 2, none⟩ = some (.int .i64 v') ∧ w'.cell? ⟨b, off + (k + 1) * 7 + 3, none⟩ = some (.int .i64 d') ∧ w'.cell? ⟨b, off + (k + 1) * 7 + 4, none⟩ = some (.int .i64 g') ∧ w'.cell? ⟨b, off + (k + 1) * 7 + 5, none⟩ = some (.int .i64 h') ∧ w'.cell? ⟨b, off + (k + 1) * 7 + 6, none⟩ = some (.int .i64 a')) (go_keep) (fail)
    all_goals
      go_wp2_with fail
      go_meet
      have q1 := ly_alloc w f i v d g h a 35
      have q2 := ly_alloc w f' i' v' d' g' h' a' 35
      have r1 := ly_alloc (w.alloc (.cells #[.int .i64 f', .int .i64 i', .int .i64 v', .int .i64 d', .int .i64 g', .int .i64 h', .int .i64 a'] 35)) f i v d g h a 35
      have r2 := ly_alloc (w.alloc (.cells #[.int .i64 f, .int .i64 i, .int .i64 v, .int .i64 d, .int .i64 g, .int .i64 h, .int .i64 a] 35)) f' i' v' d' g' h' a' 35
      have hz : ∀ o : Obj, (w.alloc o).heap.size = w.heap.size + 1 := fun o => by simp
      rw [hz] at r1 r2
      first
        | exact ⟨w.heap.size, w.heap.size + 1, rfl, rfl, q1.below (((Below.refl _ _).alloc (Nat.le_refl _) _).drew), r2, (((Below.refl _ _).alloc (Nat.le_refl _) _).alloc (by simp) _).drew⟩
        | exact ⟨w.heap.size + 1, w.heap.size, rfl, rfl, r1, q2.below (((Below.refl _ _).alloc (Nat.le_refl _) _).drew), (((Below.refl _ _).alloc (Nat.le_refl _) _).alloc (by simp) _).drew⟩
  case rest =>
    obtain ⟨x, y, rfl, rfl, hx, hy, hbl⟩ := hcut
    rename World => wd
    have HB := Lib.hid hbl
    obtain ⟨x0, x1, x2, x3, x4, x5, x6⟩ := hx
    obtain ⟨y0, y1, y2, y3, y4, y5, y6⟩ := hy
    simp only [Nat.zero_add] at x1 x2 x3 x4 x5 x6 y1 y2 y3 y4 y5 y6
    clear c0 c1 c2 c3 c4 c5 c6 d0 d1 d2 d3 d4 d5 d6 h1 h2 h3 hw ht hbl nb1 nb2
    obtain ⟨⟨-, B1, -, B3, B4, -⟩, -, B1', -, B3', B4', -⟩ := HBB.out
    have t1 := thick_bd B1 B3
    have t2 := thick_bd B1' B3'
    obtain ⟨T1, hT1⟩ : ∃ T1, T1 = divN i d := ⟨_, rfl⟩
    obtain ⟨T2, hT2⟩ : ∃ T2, T2 = divN i' d' := ⟨_, rfl⟩
    rw [← hT1] at t1
    rw [← hT2] at t2
    have HT1 := fun W : World => Lib.hid ((thickness_t f i v d g h a W HBB.out.1).mono fun e w' ⟨he, hb⟩ => (⟨by rw [he, hT1], hb⟩ : e = Ending.returned (.int .i64 T1) ∧ Below W.heap.size W w'))
    have HT2 := fun W : World => Lib.hid ((thickness_t f' i' v' d' g' h' a' W HBB.out.2).mono fun e w' ⟨he, hb⟩ => (⟨by rw [he, hT2], hb⟩ : e = Ending.returned (.int .i64 T2) ∧ Below W.heap.size W w'))
    rw [← hT1, ← hT2] at HG
    clear hT1 hT2 B1 B3 B1' B3'
    go_upto_region 2 with (fail)
    go_cut [4] (fun r wr => r = .int .i64 (gradN g g' T1 T2) ∧ Below wd.heap.size wd wr)
    case first =>
      have HS0 : (wd.cell? ⟨x, 0, none⟩ = some (.int .i64 f) ∧ wd.cell? ⟨x, 1, none⟩ = some (.int .i64 i) ∧ wd.cell? ⟨x, 2, none⟩ = some (.int .i64 v) ∧ wd.cell? ⟨x, 3, none⟩ = some (.int .i64 d) ∧ wd.cell? ⟨x, 4, none⟩ = some (.int .i64 g) ∧ wd.cell? ⟨x, 5, none⟩ = some (.int .i64 h) ∧ wd.cell? ⟨x, 6, none⟩ = some (.int .i64 a)) ∧ (wd.cell? ⟨y, 0, none⟩ = some (.int .i64 f') ∧ wd.cell? ⟨y, 1, none⟩ = some (.int .i64 i') ∧ wd.cell? ⟨y, 2, none⟩ = some (.int .i64 v') ∧ wd.cell? ⟨y, 3, none⟩ = some (.int .i64 d') ∧ wd.cell? ⟨y, 4, none⟩ = some (.int .i64 g') ∧ wd.cell? ⟨y, 5, none⟩ = some (.int .i64 h') ∧ wd.cell? ⟨y, 6, none⟩ = some (.int .i64 a')) ∧ Below wd.heap.size wd wd := ⟨⟨x0, x1, x2, x3, x4, x5, x6⟩, ⟨y0, y1, y2, y3, y4, y5, y6⟩, Below.refl _ _⟩
      have k1 : IntKind.i64.wrap (g' - g) = g' - g := IntWalk.i64_in _ (by omega)
      have k2 : IntKind.i64.wrap (1000 * (g' - g)) = 1000 * (g' - g) := IntWalk.i64_in _ (by omega)
      have k3 : IntKind.i64.wrap (T1 + T2) = T1 + T2 := IntWalk.i64_in _ (by omega)
      obtain ⟨Q, hQ⟩ : ∃ Q, (T1 + T2) / 2 = Q := ⟨_, rfl⟩
      have hQb : 0 ≤ Q ∧ Q ≤ 1000001 := by omega
      have k4 : (T1 + T2).tdiv 2 = Q := by rw [← hQ]; exact Int.tdiv_eq_ediv_of_nonneg (by omega)
      have k5 : IntKind.i64.wrap Q = Q := IntWalk.i64_in _ (by omega)
      have HM := Lib.hid (show gradN g g' T1 T2 = divN (1000 * (g' - g)) (max Q 1) by unfold gradN; rw [hQ])
      clear hQ
      by_cases hq : Q < 1
      · have HD := fun W : World => Lib.hid ((divRound_any (1000 * (g' - g)) 1 W (by omega) (by omega) (by omega) (by omega)).mono fun e w' ⟨he, hb⟩ => (⟨by rw [he, HM.out, show max Q 1 = 1 by omega], hb⟩ : e = Ending.returned (.int .i64 (gradN g g' T1 T2)) ∧ ∃ n, w' = W.drewN n))
        go_region_held3 (fun w' => (w'.cell? ⟨x, 0, none⟩ = some (.int .i64 f) ∧ w'.cell? ⟨x, 1, none⟩ = some (.int .i64 i) ∧ w'.cell? ⟨x, 2, none⟩ = some (.int .i64 v) ∧ w'.cell? ⟨x, 3, none⟩ = some (.int .i64 d) ∧ w'.cell? ⟨x, 4, none⟩ = some (.int .i64 g) ∧ w'.cell? ⟨x, 5, none⟩ = some (.int .i64 h) ∧ w'.cell? ⟨x, 6, none⟩ = some (.int .i64 a)) ∧ (w'.cell? ⟨y, 0, none⟩ = some (.int .i64 f') ∧ w'.cell? ⟨y, 1, none⟩ = some (.int .i64 i') ∧ w'.cell? ⟨y, 2, none⟩ = some (.int .i64 v') ∧ w'.cell? ⟨y, 3, none⟩ = some (.int .i64 d') ∧ w'.cell? ⟨y, 4, none⟩ = some (.int .i64 g') ∧ w'.cell? ⟨y, 5, none⟩ = some (.int .i64 h') ∧ w'.cell? ⟨y, 6, none⟩ = some (.int .i64 a')) ∧ Below wd.heap.size wd w')
          (first | assumption | exact HS0 | exact two_drew HS0 | exact two_drew (by assumption) | exact two_call (by assumption) hb2 | exact two_drewN (by assumption) _)
          (first | (go_at_call 59; refine (HT1 _).out.mono ?_; rintro e w2 ⟨rfl, hb2⟩) | (go_at_call 59; refine (HT2 _).out.mono ?_; rintro e w2 ⟨rfl, hb2⟩) | (go_at_call 58; refine (HD _).out.mono ?_; rintro e w2 ⟨rfl, nd, rfl⟩))
        all_goals
          go_wp2_with fail
          go_meet
          exact ⟨rfl, below_drewN (two_chain (by assumption) hb2) _⟩
      · have hq2 : 1 ≤ Q := by omega
        have HD := fun W : World => Lib.hid ((divRound_any (1000 * (g' - g)) (if Q < 1 then 1 else Q) W (by omega) (by omega) (by split <;> omega) (by split <;> omega)).mono fun e w' ⟨he, hb⟩ => (⟨by rw [he, HM.out, show max Q 1 = if Q < 1 then 1 else Q by split <;> omega], hb⟩ : e = Ending.returned (.int .i64 (gradN g g' T1 T2)) ∧ ∃ n, w' = W.drewN n))
        go_region_held3 (fun w' => (w'.cell? ⟨x, 0, none⟩ = some (.int .i64 f) ∧ w'.cell? ⟨x, 1, none⟩ = some (.int .i64 i) ∧ w'.cell? ⟨x, 2, none⟩ = some (.int .i64 v) ∧ w'.cell? ⟨x, 3, none⟩ = some (.int .i64 d) ∧ w'.cell? ⟨x, 4, none⟩ = some (.int .i64 g) ∧ w'.cell? ⟨x, 5, none⟩ = some (.int .i64 h) ∧ w'.cell? ⟨x, 6, none⟩ = some (.int .i64 a)) ∧ (w'.cell? ⟨y, 0, none⟩ = some (.int .i64 f') ∧ w'.cell? ⟨y, 1, none⟩ = some (.int .i64 i') ∧ w'.cell? ⟨y, 2, none⟩ = some (.int .i64 v') ∧ w'.cell? ⟨y, 3, none⟩ = some (.int .i64 d') ∧ w'.cell? ⟨y, 4, none⟩ = some (.int .i64 g') ∧ w'.cell? ⟨y, 5, none⟩ = some (.int .i64 h') ∧ w'.cell? ⟨y, 6, none⟩ = some (.int .i64 a')) ∧ Below wd.heap.size wd w')
          (first | assumption | exact HS0 | exact two_drew HS0 | exact two_drew (by assumption) | exact two_call (by assumption) hb2 | exact two_drewN (by assumption) _)
          (first | (go_at_call 59; refine (HT1 _).out.mono ?_; rintro e w2 ⟨rfl, hb2⟩) | (go_at_call 59; refine (HT2 _).out.mono ?_; rintro e w2 ⟨rfl, hb2⟩) | (go_at_call 58; refine (HD _).out.mono ?_; rintro e w2 ⟨rfl, nd, rfl⟩))
        all_goals
          go_wp2_with fail
          go_meet
          exact ⟨rfl, below_drewN (two_chain (by assumption) hb2) _⟩
    case rest =>
      obtain ⟨rfl, hb⟩ := hcut
      have HF := Lib.hid (HB.out.trans (hb.mono HB.out.size))
      clear hb
      go_wp2_with fail
      go_ret
      exact ⟨by rw [HG.out]; rfl, HF.out⟩
end Go.Proofs.Ytlfjjdglffiinaa
