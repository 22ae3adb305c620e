/-
  Two layers of a profile joined.
-/
import Derived.Test.YtknppcgoooaaaaaGreatDoorProK
import Derived.Deep.DeepCutAuto
namespace Go.Proofs.YtknppcgoooaaaaaGreatDoor
open Go.ChangeShapes Go.WideShapes Go.ChangeAt Go.RowKit Go.Deep
set_option linter.unusedVariables false

set_option maxRecDepth 100000 in
set_option maxHeartbeats 8000000 in
theorem JoinLayers_i (A : Option Addr) (n c : Nat) (ls : List Ly) (k : Nat) (w : World) (H : Lys w A n ls) (hnc : 0 < n → n ≤ c ∧ c ≤ maxLen) (hk : k < n) :
    Calls Tryz.prog 30 #[.slice A n c, .int .i64 (k : Int)] w (JoinR ls w) := by
  have hn := H.2.1
  have HL := Lib.hid H.1
  obtain ⟨hc1, hc2⟩ := hnc (by omega)
  unfold maxLen at hc2
  clear hnc
  by_cases hk1 : k + 1 < n
  rotate_left
  · have HI := Lib.hid (show inB (k : Int) 0 ((n : Int) - 2) = false from inB_not.2 (by omega))
    clear hk1
    go_enter Tryz.func30, Tryz.ntmps30
    go_wp2_with fail
    refine (ValidProfile_t A n _ ls _ H).mono ?_
    rintro e w1 ⟨rfl, hb1⟩
    have HB := Lib.hid hb1
    clear hb1 H
    go_wp2_with (go_at_call 49; refine (within_l _ _ _ _ _ HI.out).mono ?_; rintro e w' ⟨rfl, rfl⟩)
    go_ret2
    exact ⟨.inl ⟨2, .inl rfl, rfl⟩, HB.out⟩
  have HI := Lib.hid (show inB (k : Int) 0 ((n : Int) - 2) = true from inB_iff.2 (by omega))
  go_enter Tryz.func30, Tryz.ntmps30
  go_wp2_with fail
  refine (ValidProfile_t A n _ ls _ H).mono ?_
  rintro e w1 ⟨rfl, hb1⟩
  replace H := H.below hb1
  have HB1 := Lib.hid hb1
  have HY := Lib.hid H
  clear hb1
  obtain ⟨b, off, f, i, v, d, g, h, a, rfl, HX, hc, hb⟩ := H.at_ (show k < n by omega)
  obtain ⟨b', off', f', i', v', d', g', h', a', hA, HX', hc', hb'⟩ := H.at_ hk1
  injection hA with hA
  injection hA with hA1 hA2 _
  subst hA1 hA2
  have HBB := Lib.hid (And.intro hb hb')
  obtain ⟨c0, c1, c2, c3, c4, c5, c6⟩ := hc
  obtain ⟨d0, d1, d2, d3, d4, d5, d6⟩ := hc'
  have h1 : (k : Int) < (n : Int) := by omega
  have h2 : (k : Int) + 1 < (n : Int) := by omega
  have h3 : (0 : Int) ≤ (k : Int) + 1 := by omega
  have hw : IntKind.i64.wrap ((k : Int) + 1) = (k : Int) + 1 := IntWalk.i64_in _ (by omega)
  have ht : ((k : Int) + 1).toNat = k + 1 := by omega
  have hbl := cell_lt c0
  have nb1 : b ≠ w1.heap.size := by omega
  have nb2 : b ≠ w1.heap.size + 1 := by omega
  clear H hb hb'
  go_wp2_with (go_at_call 49; refine (within_l _ _ _ _ _ HI.out).mono ?_; rintro e w' ⟨rfl, rfl⟩)
  go_upto_region 5 with (fail)
  go_cut [6, 7] (fun p q wr => ∃ x y, p = .pointer (some ⟨x, 0, none⟩) ∧ q = .pointer (some ⟨y, 0, none⟩) ∧ LyAt wr x 0 f i v d g h a ∧ LyAt wr y 0 f' i' v' d' g' h' a' ∧ Below w1.heap.size w1 wr)
  case first =>
    go_region_held3 (fun w' => (w'.cell? ⟨b, off + k * 7, none⟩ = some (.int .i64 f) ∧ w'.cell? ⟨b, off + k * 7 + 1, none⟩ = some (.int .i64 i) ∧ w'.cell? ⟨b, off + k * 7 + 2, none⟩ = some (.int .i64 v) ∧ w'.cell? ⟨b, off + k * 7 + 3, none⟩ = some (.int .i64 d) ∧ w'.cell? ⟨b, off + k * 7 + 4, none⟩ = some (.int .i64 g) ∧ w'.cell? ⟨b, off + k * 7 + 5, none⟩ = some (.int .i64 h) ∧ w'.cell? ⟨b, off + k * 7 + 6, none⟩ = some (.int .i64 a)) ∧ (w'.cell? ⟨b, off + (k + 1) * 7, none⟩ = some (.int .i64 f') ∧ w'.cell? ⟨b, off + (k + 1) * 7 + 1, none⟩ = some (.int .i64 i') ∧ w'.cell? ⟨b, off + (k + 1) * 7 + 2, none⟩ = some (.int .i64 v') ∧ w'.cell? ⟨b, off + (k + 1) * 7 + 3, none⟩ = some (.int .i64 d') ∧ w'.cell? ⟨b, off + (k + 1) * 7 + 4, none⟩ = some (.int .i64 g') ∧ w'.cell? ⟨b, off + (k + 1) * 7 + 5, none⟩ = some (.int .i64 h') ∧ w'.cell? ⟨b, off + (k + 1) * 7 + 6, none⟩ = some (.int .i64 a'))) (go_keep) (fail)
    all_goals
      go_wp2_with fail
      go_meet
      have q1 := ly_alloc w1 f i v d g h a 44
      have q2 := ly_alloc w1 f' i' v' d' g' h' a' 44
      have r1 := ly_alloc (w1.alloc (.cells #[.int .i64 f', .int .i64 i', .int .i64 v', .int .i64 d', .int .i64 g', .int .i64 h', .int .i64 a'] 44)) f i v d g h a 44
      have r2 := ly_alloc (w1.alloc (.cells #[.int .i64 f, .int .i64 i, .int .i64 v, .int .i64 d, .int .i64 g, .int .i64 h, .int .i64 a] 44)) f' i' v' d' g' h' a' 44
      have hz : ∀ o : Obj, (w1.alloc o).heap.size = w1.heap.size + 1 := fun o => by simp
      rw [hz] at r1 r2
      first
        | exact ⟨w1.heap.size, w1.heap.size + 1, rfl, rfl, q1.below (((Below.refl _ _).alloc (Nat.le_refl _) _).drew), r2, (((Below.refl _ _).alloc (Nat.le_refl _) _).alloc (by simp) _).drew⟩
        | exact ⟨w1.heap.size + 1, w1.heap.size, rfl, rfl, r1, q2.below (((Below.refl _ _).alloc (Nat.le_refl _) _).drew), (((Below.refl _ _).alloc (Nat.le_refl _) _).alloc (by simp) _).drew⟩
  case rest =>
    obtain ⟨x, y, rfl, rfl, hx, hy, hbl⟩ := hcut
    rename World => wd
    have HB := Lib.hid (HB1.out.trans (hbl.mono HB1.out.size))
    have HYd := Lib.hid (HY.out.below hbl)
    clear hbl HB1 HY
    obtain ⟨x0, x1, x2, x3, x4, x5, x6⟩ := hx
    obtain ⟨y0, y1, y2, y3, y4, y5, y6⟩ := hy
    simp only [Nat.zero_add] at x1 x2 x3 x4 x5 x6 y1 y2 y3 y4 y5 y6
    clear c0 c1 c2 c3 c4 c5 c6 d0 d1 d2 d3 d4 d5 d6 h1 h2 h3 hw ht nb1 nb2
    by_cases hff : f = f'
    rotate_left
    · have hfb : (f == f') = false := by simpa using hff
      have hfn : (f != f') = true := by simpa using hff
      clear hfb hfn
      go_wp2_with fail
      go_ret2
      exact ⟨.inl ⟨6, .inr (.inl rfl), rfl⟩, HB.out⟩
    subst hff
    have bi := HBB.out.1.2.1
    have ci := HBB.out.2.2.1
    go_upto_region 9 with (fail)
    go_cut [9] (fun p wr => ∃ z, ∃ D T M X : Int, p = .pointer (some ⟨z, 0, none⟩) ∧ LyAt wr z 0 f (i + i') (v + v') D T M X ∧ Below wd.heap.size wd wr)
    case first =>
      have HS0 : (wd.cell? ⟨x, 0, none⟩ = some (.int .i64 f) ∧ wd.cell? ⟨x, 1, none⟩ = some (.int .i64 i) ∧ wd.cell? ⟨x, 2, none⟩ = some (.int .i64 v) ∧ wd.cell? ⟨x, 3, none⟩ = some (.int .i64 d) ∧ wd.cell? ⟨x, 4, none⟩ = some (.int .i64 g) ∧ wd.cell? ⟨x, 5, none⟩ = some (.int .i64 h) ∧ wd.cell? ⟨x, 6, none⟩ = some (.int .i64 a)) ∧ (wd.cell? ⟨y, 0, none⟩ = some (.int .i64 f) ∧ wd.cell? ⟨y, 1, none⟩ = some (.int .i64 i') ∧ wd.cell? ⟨y, 2, none⟩ = some (.int .i64 v') ∧ wd.cell? ⟨y, 3, none⟩ = some (.int .i64 d') ∧ wd.cell? ⟨y, 4, none⟩ = some (.int .i64 g') ∧ wd.cell? ⟨y, 5, none⟩ = some (.int .i64 h') ∧ wd.cell? ⟨y, 6, none⟩ = some (.int .i64 a')) ∧ Below wd.heap.size wd wd := ⟨⟨x0, x1, x2, x3, x4, x5, x6⟩, ⟨y0, y1, y2, y3, y4, y5, y6⟩, Below.refl _ _⟩
      obtain ⟨⟨-, ⟨bi1, bi2⟩, ⟨bv1, bv2⟩, ⟨bd1, bd2⟩, ⟨bg1, bg2⟩, -⟩, -, ⟨ci1, ci2⟩, ⟨cv1, cv2⟩, ⟨cd1, cd2⟩, ⟨cg1, cg2⟩, -⟩ := HBB.out
      obtain ⟨p1, hp1, hp2, hp3⟩ : ∃ p1, p1 = i * d ∧ 0 ≤ p1 ∧ p1 ≤ 900000000 := ⟨_, rfl, Int.mul_nonneg (by omega) (by omega), (Int.mul_le_mul bi2 bd2 (by omega) (by omega) : i * d ≤ 1000000 * 900)⟩
      obtain ⟨p2, hp4, hp5, hp6⟩ : ∃ p2, p2 = i' * d' ∧ 0 ≤ p2 ∧ p2 ≤ 900000000 := ⟨_, rfl, Int.mul_nonneg (by omega) (by omega), (Int.mul_le_mul ci2 cd2 (by omega) (by omega) : i' * d' ≤ 1000000 * 900)⟩
      obtain ⟨r1, hr1, hr2, hr3⟩ : ∃ r1, r1 = i * g ∧ -4000000000 ≤ r1 ∧ r1 ≤ 0 := ⟨_, rfl, neg_mul_bd bi1 bi2 bg1 bg2⟩
      obtain ⟨r2, hr4, hr5, hr6⟩ : ∃ r2, r2 = i' * g' ∧ -4000000000 ≤ r2 ∧ r2 ≤ 0 := ⟨_, rfl, neg_mul_bd ci1 ci2 cg1 cg2⟩
      obtain ⟨D, hD⟩ : ∃ D, D = divN (p1 + p2) (i + i') := ⟨_, rfl⟩
      obtain ⟨T, hT⟩ : ∃ T, T = divN (r1 + r2) (i + i') := ⟨_, rfl⟩
      have HD := fun W : World => Lib.hid ((divRound_any (p1 + p2) (i + i') W (by omega) (by omega) (by omega) (by omega)).mono fun e w' ⟨he, hb⟩ => (⟨by rw [he, hD], hb⟩ : e = Ending.returned (.int .i64 D) ∧ ∃ n, w' = W.drewN n))
      have HT := fun W : World => Lib.hid ((divRound_any (r1 + r2) (i + i') W (by omega) (by omega) (by omega) (by omega)).mono fun e w' ⟨he, hb⟩ => (⟨by rw [he, hT], hb⟩ : e = Ending.returned (.int .i64 T) ∧ ∃ n, w' = W.drewN n))
      have k1 : IntKind.i64.wrap (i * d) = p1 := by rw [hp1]; exact IntWalk.i64_in _ (by rw [← hp1]; omega)
      have k2 : IntKind.i64.wrap (i' * d') = p2 := by rw [hp4]; exact IntWalk.i64_in _ (by rw [← hp4]; omega)
      have k3 : IntKind.i64.wrap (p1 + p2) = p1 + p2 := IntWalk.i64_in _ (by omega)
      have k4 : IntKind.i64.wrap (i * g) = r1 := by rw [hr1]; exact IntWalk.i64_in _ (by rw [← hr1]; omega)
      have k5 : IntKind.i64.wrap (i' * g') = r2 := by rw [hr4]; exact IntWalk.i64_in _ (by rw [← hr4]; omega)
      have k6 : IntKind.i64.wrap (r1 + r2) = r1 + r2 := IntWalk.i64_in _ (by omega)
      have k7 : IntKind.i64.wrap (v + v') = v + v' := IntWalk.i64_in _ (by omega)
      have hxl := cell_lt x0
      have hyl := cell_lt y0
      clear hp1 hp2 hp3 hp4 hp5 hp6 hr1 hr2 hr3 hr4 hr5 hr6 hD hT bi1 bi2 bv1 bv2 bd1 bd2 bg1 bg2 ci1 ci2 cv1 cv2 cd1 cd2 cg1 cg2
      obtain ⟨M, hM⟩ : ∃ M, (if h' < h then h' else h) = M := ⟨_, rfl⟩
      obtain ⟨X, hX⟩ : ∃ X, (if a < a' then a' else a) = X := ⟨_, rfl⟩
      have HMI := Lib.hid hM
      have HMA := Lib.hid hX
      clear hM hX
      refine wp_region_held_drew (S := fun w' => (w'.cell? ⟨x, 0, none⟩ = some (.int .i64 f) ∧ w'.cell? ⟨x, 1, none⟩ = some (.int .i64 i) ∧ w'.cell? ⟨x, 2, none⟩ = some (.int .i64 v) ∧ w'.cell? ⟨x, 3, none⟩ = some (.int .i64 d) ∧ w'.cell? ⟨x, 4, none⟩ = some (.int .i64 g) ∧ w'.cell? ⟨x, 5, none⟩ = some (.int .i64 h) ∧ w'.cell? ⟨x, 6, none⟩ = some (.int .i64 a)) ∧ (w'.cell? ⟨y, 0, none⟩ = some (.int .i64 f) ∧ w'.cell? ⟨y, 1, none⟩ = some (.int .i64 i') ∧ w'.cell? ⟨y, 2, none⟩ = some (.int .i64 v') ∧ w'.cell? ⟨y, 3, none⟩ = some (.int .i64 d') ∧ w'.cell? ⟨y, 4, none⟩ = some (.int .i64 g') ∧ w'.cell? ⟨y, 5, none⟩ = some (.int .i64 h') ∧ w'.cell? ⟨y, 6, none⟩ = some (.int .i64 a')) ∧ Below wd.heap.size wd w') (by kernel_rfl) ?_ (fun hHeld => ?_)
      · exact two_drew HS0
      refine wpAnyH_take (i := 0) (v := ?_) rfl (by kernel_rfl) (by kernel_rfl) (by kernel_rfl) (fun _ _ _ h => h) (Or.inl ⟨by rfl, ?_⟩) (by assumption) ?_
      rotate_left
      · intro w hSw
        (try dsimp only at hSw)
        go_simp
        try with_reducible rfl
      try simp only [Act.put, List.getElem_toArray, List.getElem_cons_zero, List.setIfInBounds_toArray, List.set_cons_zero, List.set_cons_succ]
      refine wpAnyH_take (i := 1) (v := ?_) rfl (by kernel_rfl) (by kernel_rfl) (by kernel_rfl) (fun _ _ _ h => h) (Or.inl ⟨by rfl, ?_⟩) (by assumption) ?_
      rotate_left
      · intro w hSw
        (try dsimp only at hSw)
        go_simp
        try with_reducible rfl
      try simp only [Act.put, List.getElem_toArray, List.getElem_cons_zero, List.getElem_cons_succ, List.setIfInBounds_toArray, List.set_cons_zero, List.set_cons_succ]
      refine wpAnyH_take (i := 2) (v := ?_) rfl (by kernel_rfl) (by kernel_rfl) (by kernel_rfl) (fun _ _ _ h => h) (Or.inl ⟨by rfl, ?_⟩) (by assumption) ?_
      rotate_left
      · intro w hSw
        (try dsimp only at hSw)
        go_simp
        try with_reducible rfl
      try simp only [Act.put, List.getElem_toArray, List.getElem_cons_zero, List.getElem_cons_succ, List.setIfInBounds_toArray, List.set_cons_zero, List.set_cons_succ]
      refine wpAnyH_take (i := 3) (v := ?_) rfl (by kernel_rfl) (by kernel_rfl) (by kernel_rfl) (fun _ _ _ h => h) (Or.inl ⟨by rfl, ?_⟩) (by assumption) ?_
      rotate_left
      · intro w hSw
        (try dsimp only at hSw)
        go_simp
        try with_reducible rfl
      try simp only [Act.put, List.getElem_toArray, List.getElem_cons_zero, List.getElem_cons_succ, List.setIfInBounds_toArray, List.set_cons_zero, List.set_cons_succ]
      refine wpAnyH_take (i := 4) (v := ?_) rfl (by kernel_rfl) (by kernel_rfl) (by kernel_rfl) (fun _ _ _ h => h) (Or.inl ⟨by rfl, ?_⟩) (by assumption) ?_
      rotate_left
      · intro w hSw
        (try dsimp only at hSw)
        go_simp
        try with_reducible rfl
      try simp only [Act.put, List.getElem_toArray, List.getElem_cons_zero, List.getElem_cons_succ, List.setIfInBounds_toArray, List.set_cons_zero, List.set_cons_succ]
      refine wpAnyH_take (i := 5) (v := ?_) rfl (by kernel_rfl) (by kernel_rfl) (by kernel_rfl) (fun _ _ _ h => h) (Or.inl ⟨by rfl, ?_⟩) (by assumption) ?_
      rotate_left
      · intro w hSw
        (try dsimp only at hSw)
        go_simp
        try with_reducible rfl
      try simp only [Act.put, List.getElem_toArray, List.getElem_cons_zero, List.getElem_cons_succ, List.setIfInBounds_toArray, List.set_cons_zero, List.set_cons_succ]
      refine wpAnyH_take (i := 6) (v := ?_) rfl (by kernel_rfl) (by kernel_rfl) (by kernel_rfl) (fun _ _ _ h => h) (Or.inl ⟨by rfl, ?_⟩) (by assumption) ?_
      rotate_left
      · intro w hSw
        (try dsimp only at hSw)
        go_simp
        try with_reducible rfl
      try simp only [Act.put, List.getElem_toArray, List.getElem_cons_zero, List.getElem_cons_succ, List.setIfInBounds_toArray, List.set_cons_zero, List.set_cons_succ]
      refine wpAnyH_take (i := 7) (v := ?_) rfl (by kernel_rfl) (by kernel_rfl) (by kernel_rfl) (fun _ _ _ h => h) (Or.inl ⟨by rfl, ?_⟩) (by assumption) ?_
      rotate_left
      · intro w hSw
        (try dsimp only at hSw)
        go_simp
        try with_reducible rfl
      try simp only [Act.put, List.getElem_toArray, List.getElem_cons_zero, List.getElem_cons_succ, List.setIfInBounds_toArray, List.set_cons_zero, List.set_cons_succ]
      refine wpAnyH_take (i := 8) (v := ?_) rfl (by kernel_rfl) (by kernel_rfl) (by kernel_rfl) (fun _ _ _ h => h) (Or.inl ⟨by rfl, ?_⟩) (by assumption) ?_
      rotate_left
      · intro w hSw
        (try dsimp only at hSw)
        go_simp
        try with_reducible rfl
      try simp only [Act.put, List.getElem_toArray, List.getElem_cons_zero, List.getElem_cons_succ, List.setIfInBounds_toArray, List.set_cons_zero, List.set_cons_succ]
      refine wpAnyH_take (i := 9) (v := ?_) rfl (by kernel_rfl) (by kernel_rfl) (by kernel_rfl) (fun _ _ _ h => h) (Or.inl ⟨by rfl, ?_⟩) (by assumption) ?_
      rotate_left
      · intro w hSw
        (try dsimp only at hSw)
        go_simp
        try with_reducible rfl
      try simp only [Act.put, List.getElem_toArray, List.getElem_cons_zero, List.getElem_cons_succ, List.setIfInBounds_toArray, List.set_cons_zero, List.set_cons_succ]
      refine wpAnyH_take (i := 10) (v := ?_) rfl (by kernel_rfl) (by kernel_rfl) (by kernel_rfl) (fun _ _ _ h => h) (Or.inl ⟨by rfl, ?_⟩) (by assumption) ?_
      rotate_left
      · intro w hSw
        (try dsimp only at hSw)
        go_simp
        try with_reducible rfl
      try simp only [Act.put, List.getElem_toArray, List.getElem_cons_zero, List.getElem_cons_succ, List.setIfInBounds_toArray, List.set_cons_zero, List.set_cons_succ]
      refine wpAnyH_take (i := 11) (v := ?_) rfl (by kernel_rfl) (by kernel_rfl) (by kernel_rfl) (fun _ _ _ h => h) (Or.inl ⟨by rfl, ?_⟩) (by assumption) ?_
      rotate_left
      · intro w hSw
        (try dsimp only at hSw)
        go_simp
        try with_reducible rfl
      try simp only [Act.put, List.getElem_toArray, List.getElem_cons_zero, List.getElem_cons_succ, List.setIfInBounds_toArray, List.set_cons_zero, List.set_cons_succ]
      refine wpAnyH_take (i := 12) (v := ?_) rfl (by kernel_rfl) (by kernel_rfl) (by kernel_rfl) (fun _ _ _ h => h) (Or.inl ⟨by rfl, ?_⟩) (by assumption) ?_
      rotate_left
      · intro w hSw
        (try dsimp only at hSw)
        go_simp
        try with_reducible rfl
      try simp only [Act.put, List.getElem_toArray, List.getElem_cons_zero, List.getElem_cons_succ, List.setIfInBounds_toArray, List.set_cons_zero, List.set_cons_succ]
      refine wpAnyH_take (i := 13) (v := ?_) rfl (by kernel_rfl) (by kernel_rfl) (by kernel_rfl) (fun _ _ _ h => h) (Or.inl ⟨by rfl, ?_⟩) (by assumption) ?_
      rotate_left
      · intro w hSw
        (try dsimp only at hSw)
        go_simp
        try with_reducible rfl
      try simp only [Act.put, List.getElem_toArray, List.getElem_cons_zero, List.getElem_cons_succ, List.setIfInBounds_toArray, List.set_cons_zero, List.set_cons_succ]
      refine wpAnyH_take (i := 14) (v := ?_) rfl (by kernel_rfl) (by kernel_rfl) (by kernel_rfl) (fun _ _ _ h => h) (Or.inl ⟨by rfl, ?_⟩) (by assumption) ?_
      rotate_left
      · intro w hSw
        (try dsimp only at hSw)
        go_simp
        try with_reducible rfl
      try simp only [Act.put, List.getElem_toArray, List.getElem_cons_zero, List.getElem_cons_succ, List.setIfInBounds_toArray, List.set_cons_zero, List.set_cons_succ]
      refine wpAnyH_take (i := 15) (v := ?_) rfl (by kernel_rfl) (by kernel_rfl) (by kernel_rfl) (fun _ _ _ h => h) (Or.inl ⟨by rfl, ?_⟩) (by assumption) ?_
      rotate_left
      · intro w hSw
        (try dsimp only at hSw)
        go_simp
        try with_reducible rfl
      try simp only [Act.put, List.getElem_toArray, List.getElem_cons_zero, List.getElem_cons_succ, List.setIfInBounds_toArray, List.set_cons_zero, List.set_cons_succ]
      refine wpAnyH_take (i := 16) (v := ?_) rfl (by kernel_rfl) (by kernel_rfl) (by kernel_rfl) (fun _ _ _ h => h) (Or.inl ⟨by rfl, ?_⟩) (by assumption) ?_
      rotate_left
      · intro w hSw
        (try dsimp only at hSw)
        go_simp
        try with_reducible rfl
      try simp only [Act.put, List.getElem_toArray, List.getElem_cons_zero, List.getElem_cons_succ, List.setIfInBounds_toArray, List.set_cons_zero, List.set_cons_succ]
      refine wpAnyH_take (i := 17) (v := ?_) rfl (by kernel_rfl) (by kernel_rfl) (by kernel_rfl) (fun _ _ _ h => h) (Or.inl ⟨by rfl, ?_⟩) (by assumption) ?_
      rotate_left
      · intro w hSw
        (try dsimp only at hSw)
        go_simp
        try with_reducible rfl
      try simp only [Act.put, List.getElem_toArray, List.getElem_cons_zero, List.getElem_cons_succ, List.setIfInBounds_toArray, List.set_cons_zero, List.set_cons_succ]
      refine wpAnyH_take (i := 18) (v := ?_) rfl (by kernel_rfl) (by kernel_rfl) (by kernel_rfl) (fun _ _ _ h => h) (Or.inl ⟨by rfl, ?_⟩) (by assumption) ?_
      rotate_left
      · intro w hSw
        (try dsimp only at hSw)
        go_simp
        try with_reducible rfl
      try simp only [Act.put, List.getElem_toArray, List.getElem_cons_zero, List.getElem_cons_succ, List.setIfInBounds_toArray, List.set_cons_zero, List.set_cons_succ]
      refine wpAnyH_take (i := 19) (v := ?_) rfl (by kernel_rfl) (by kernel_rfl) (by kernel_rfl) (fun _ _ _ h => h) (Or.inl ⟨by rfl, ?_⟩) (by assumption) ?_
      rotate_left
      · intro w hSw
        (try dsimp only at hSw)
        go_simp
        try with_reducible rfl
      try simp only [Act.put, List.getElem_toArray, List.getElem_cons_zero, List.getElem_cons_succ, List.setIfInBounds_toArray, List.set_cons_zero, List.set_cons_succ]
      refine wpAnyH_take (i := 21) (v := ?_) rfl (by kernel_rfl) (by kernel_rfl) (by kernel_rfl) (fun _ _ _ h => h) (Or.inl ⟨by rfl, ?_⟩) (by assumption) ?_
      rotate_left
      · intro w hSw
        (try dsimp only at hSw)
        go_simp
        try with_reducible rfl
      try simp only [Act.put, List.getElem_toArray, List.getElem_cons_zero, List.getElem_cons_succ, List.setIfInBounds_toArray, List.set_cons_zero, List.set_cons_succ]
      refine wpAnyH_take (i := 22) (v := ?_) rfl (by kernel_rfl) (by kernel_rfl) (by kernel_rfl) (fun _ _ _ h => h) (Or.inl ⟨by rfl, ?_⟩) (by assumption) ?_
      rotate_left
      · intro w hSw
        (try dsimp only at hSw)
        go_simp
        try with_reducible rfl
      try simp only [Act.put, List.getElem_toArray, List.getElem_cons_zero, List.getElem_cons_succ, List.setIfInBounds_toArray, List.set_cons_zero, List.set_cons_succ]
      refine wpAnyH_take (i := 23) (v := ?_) rfl (by kernel_rfl) (by kernel_rfl) (by kernel_rfl) (fun _ _ _ h => h) (Or.inl ⟨by rfl, ?_⟩) (by assumption) ?_
      rotate_left
      · intro w hSw
        (try dsimp only at hSw)
        go_simp
        try with_reducible rfl
      try simp only [Act.put, List.getElem_toArray, List.getElem_cons_zero, List.getElem_cons_succ, List.setIfInBounds_toArray, List.set_cons_zero, List.set_cons_succ]
      refine wpAnyH_take (i := 24) (v := ?_) rfl (by kernel_rfl) (by kernel_rfl) (by kernel_rfl) (fun _ _ _ h => h) (Or.inl ⟨by rfl, ?_⟩) (by assumption) ?_
      rotate_left
      · intro w hSw
        (try dsimp only at hSw)
        go_simp
        try with_reducible rfl
      try simp only [Act.put, List.getElem_toArray, List.getElem_cons_zero, List.getElem_cons_succ, List.setIfInBounds_toArray, List.set_cons_zero, List.set_cons_succ]
      refine wpAnyH_take (i := 25) (v := ?_) rfl (by kernel_rfl) (by kernel_rfl) (by kernel_rfl) (fun _ _ _ h => h) (Or.inl ⟨by rfl, ?_⟩) (by assumption) ?_
      rotate_left
      · intro w hSw
        (try dsimp only at hSw)
        go_simp
        try with_reducible rfl
      try simp only [Act.put, List.getElem_toArray, List.getElem_cons_zero, List.getElem_cons_succ, List.setIfInBounds_toArray, List.set_cons_zero, List.set_cons_succ]
      refine wpAnyH_take (i := 26) (v := ?_) rfl (by kernel_rfl) (by kernel_rfl) (by kernel_rfl) (fun _ _ _ h => h) (Or.inl ⟨by rfl, ?_⟩) (by assumption) ?_
      rotate_left
      · intro w hSw
        (try dsimp only at hSw)
        go_simp
        try with_reducible rfl
      try simp only [Act.put, List.getElem_toArray, List.getElem_cons_zero, List.getElem_cons_succ, List.setIfInBounds_toArray, List.set_cons_zero, List.set_cons_succ]
      refine wpAnyH_take (i := 27) (v := ?_) rfl (by kernel_rfl) (by kernel_rfl) (by kernel_rfl) (fun _ _ _ h => h) (Or.inl ⟨by rfl, ?_⟩) (by assumption) ?_
      rotate_left
      · intro w hSw
        (try dsimp only at hSw)
        go_simp
        try with_reducible rfl
      try simp only [Act.put, List.getElem_toArray, List.getElem_cons_zero, List.getElem_cons_succ, List.setIfInBounds_toArray, List.set_cons_zero, List.set_cons_succ]
      refine wpAnyH_take (i := 28) (v := ?_) rfl (by kernel_rfl) (by kernel_rfl) (by kernel_rfl) (fun _ _ _ h => h) (Or.inl ⟨by rfl, ?_⟩) (by assumption) ?_
      rotate_left
      · intro w hSw
        (try dsimp only at hSw)
        go_simp
        try with_reducible rfl
      try simp only [Act.put, List.getElem_toArray, List.getElem_cons_zero, List.getElem_cons_succ, List.setIfInBounds_toArray, List.set_cons_zero, List.set_cons_succ]
      refine wpAnyH_take (i := 29) (v := ?_) rfl (by kernel_rfl) (by kernel_rfl) (by kernel_rfl) (fun _ _ _ h => h) (Or.inl ⟨by rfl, ?_⟩) (by assumption) ?_
      rotate_left
      · intro w hSw
        (try dsimp only at hSw)
        go_simp
        try with_reducible rfl
      try simp only [Act.put, List.getElem_toArray, List.getElem_cons_zero, List.getElem_cons_succ, List.setIfInBounds_toArray, List.set_cons_zero, List.set_cons_succ]
      refine wpAnyH_take (i := 30) (v := ?_) rfl (by kernel_rfl) (by kernel_rfl) (by kernel_rfl) (fun _ _ _ h => h) (Or.inl ⟨by rfl, ?_⟩) (by assumption) ?_
      rotate_left
      · intro w hSw
        (try dsimp only at hSw)
        go_simp
        try with_reducible rfl
      try simp only [Act.put, List.getElem_toArray, List.getElem_cons_zero, List.getElem_cons_succ, List.setIfInBounds_toArray, List.set_cons_zero, List.set_cons_succ]
      refine wpAnyH_take (i := 31) (v := ?_) rfl (by kernel_rfl) (by kernel_rfl) (by kernel_rfl) (fun _ _ _ h => h) (Or.inl ⟨by rfl, ?_⟩) (by assumption) ?_
      rotate_left
      · intro w hSw
        (try dsimp only at hSw)
        go_simp
        try with_reducible rfl
      try simp only [Act.put, List.getElem_toArray, List.getElem_cons_zero, List.getElem_cons_succ, List.setIfInBounds_toArray, List.set_cons_zero, List.set_cons_succ]
      refine wpAnyH_take (i := 32) (v := ?_) rfl (by kernel_rfl) (by kernel_rfl) (by kernel_rfl) (fun _ _ _ h => h) (Or.inl ⟨by rfl, ?_⟩) (by assumption) ?_
      rotate_left
      · intro w hSw
        (try dsimp only at hSw)
        go_simp
        try with_reducible rfl
      try simp only [Act.put, List.getElem_toArray, List.getElem_cons_zero, List.getElem_cons_succ, List.setIfInBounds_toArray, List.set_cons_zero, List.set_cons_succ]
      refine wpAnyH_take (i := 34) (v := ?_) rfl (by kernel_rfl) (by kernel_rfl) (by kernel_rfl) (fun _ _ _ h => h) (Or.inl ⟨by rfl, ?_⟩) (by assumption) ?_
      rotate_left
      · intro w hSw
        (try dsimp only at hSw)
        go_simp
        try with_reducible rfl
      try simp only [Act.put, List.getElem_toArray, List.getElem_cons_zero, List.getElem_cons_succ, List.setIfInBounds_toArray, List.set_cons_zero, List.set_cons_succ]
      refine wpAnyH_take (i := 35) (v := ?_) rfl (by kernel_rfl) (by kernel_rfl) (by kernel_rfl) (fun _ _ _ h => h) (Or.inl ⟨by rfl, ?_⟩) (by assumption) ?_
      rotate_left
      · intro w hSw
        (try dsimp only at hSw)
        go_simp
        try with_reducible rfl
      try simp only [Act.put, List.getElem_toArray, List.getElem_cons_zero, List.getElem_cons_succ, List.setIfInBounds_toArray, List.set_cons_zero, List.set_cons_succ]
      refine wpAnyH_take (i := 36) (v := ?_) rfl (by kernel_rfl) (by kernel_rfl) (by kernel_rfl) (fun _ _ _ h => h) (Or.inl ⟨by rfl, ?_⟩) (by assumption) ?_
      rotate_left
      · intro w hSw
        (try dsimp only at hSw)
        go_simp
        try with_reducible rfl
      try simp only [Act.put, List.getElem_toArray, List.getElem_cons_zero, List.getElem_cons_succ, List.setIfInBounds_toArray, List.set_cons_zero, List.set_cons_succ]
      refine wpAnyH_take (i := 37) (v := ?_) rfl (by kernel_rfl) (by kernel_rfl) (by kernel_rfl) (fun _ _ _ h => h) (Or.inl ⟨by rfl, ?_⟩) (by assumption) ?_
      rotate_left
      · intro w hSw
        (try dsimp only at hSw)
        go_simp
        try with_reducible rfl
      try simp only [Act.put, List.getElem_toArray, List.getElem_cons_zero, List.getElem_cons_succ, List.setIfInBounds_toArray, List.set_cons_zero, List.set_cons_succ]
      refine wpAnyH_take (i := 38) (v := ?_) rfl (by kernel_rfl) (by kernel_rfl) (by kernel_rfl) (fun _ _ _ h => h) (Or.inl ⟨by rfl, ?_⟩) (by assumption) ?_
      rotate_left
      · intro w hSw
        (try dsimp only at hSw)
        go_simp
        try with_reducible rfl
      try simp only [Act.put, List.getElem_toArray, List.getElem_cons_zero, List.getElem_cons_succ, List.setIfInBounds_toArray, List.set_cons_zero, List.set_cons_succ]
      try simp only [HMI.out]
      refine wpAnyH_take (i := 39) (v := ?_) rfl (by kernel_rfl) (by kernel_rfl) (by kernel_rfl) (fun _ _ _ h => h) (Or.inl ⟨by rfl, ?_⟩) (by assumption) ?_
      rotate_left
      · intro w hSw
        (try dsimp only at hSw)
        go_simp
        try with_reducible rfl
      try simp only [Act.put, List.getElem_toArray, List.getElem_cons_zero, List.getElem_cons_succ, List.setIfInBounds_toArray, List.set_cons_zero, List.set_cons_succ]
      refine wpAnyH_take (i := 40) (v := ?_) rfl (by kernel_rfl) (by kernel_rfl) (by kernel_rfl) (fun _ _ _ h => h) (Or.inl ⟨by rfl, ?_⟩) (by assumption) ?_
      rotate_left
      · intro w hSw
        (try dsimp only at hSw)
        go_simp
        try with_reducible rfl
      try simp only [Act.put, List.getElem_toArray, List.getElem_cons_zero, List.getElem_cons_succ, List.setIfInBounds_toArray, List.set_cons_zero, List.set_cons_succ]
      refine wpAnyH_take (i := 41) (v := ?_) rfl (by kernel_rfl) (by kernel_rfl) (by kernel_rfl) (fun _ _ _ h => h) (Or.inl ⟨by rfl, ?_⟩) (by assumption) ?_
      rotate_left
      · intro w hSw
        (try dsimp only at hSw)
        go_simp
        try with_reducible rfl
      try simp only [Act.put, List.getElem_toArray, List.getElem_cons_zero, List.getElem_cons_succ, List.setIfInBounds_toArray, List.set_cons_zero, List.set_cons_succ]
      refine wpAnyH_take (i := 42) (v := ?_) rfl (by kernel_rfl) (by kernel_rfl) (by kernel_rfl) (fun _ _ _ h => h) (Or.inl ⟨by rfl, ?_⟩) (by assumption) ?_
      rotate_left
      · intro w hSw
        (try dsimp only at hSw)
        go_simp
        try with_reducible rfl
      try simp only [Act.put, List.getElem_toArray, List.getElem_cons_zero, List.getElem_cons_succ, List.setIfInBounds_toArray, List.set_cons_zero, List.set_cons_succ]
      refine wpAnyH_take (i := 43) (v := ?_) rfl (by kernel_rfl) (by kernel_rfl) (by kernel_rfl) (fun _ _ _ h => h) (Or.inl ⟨by rfl, ?_⟩) (by assumption) ?_
      rotate_left
      · intro w hSw
        (try dsimp only at hSw)
        go_simp
        try with_reducible rfl
      try simp only [Act.put, List.getElem_toArray, List.getElem_cons_zero, List.getElem_cons_succ, List.setIfInBounds_toArray, List.set_cons_zero, List.set_cons_succ]
      try simp only [HMA.out]
      refine wpAnyH_ready (rs := [20, 45]) (by kernel_rfl) (by simp) ?_
      refine AllReadyH.cons rfl (fun K hK => ?_) ?_
      · go_simp
        with_reducible refine (HD _).out.mono ?_
        rintro e w21 ⟨rfl, nd1, hw⟩
        have HW1 := Lib.hid hw
        clear hw
        refine hK.out _ _ ?_ (fun hS1 => ?_)
        · rw [HW1.out]
          exact two_drewN hHeld _
        · clear hK K
          have hz1 : w21.heap.size = wd.heap.size := by rw [HW1.out]; first | rfl | exact rfl
          try simp only [Act.put, List.getElem_toArray, List.getElem_cons_zero, List.getElem_cons_succ, List.setIfInBounds_toArray, List.set_cons_zero, List.set_cons_succ]
          refine wpAnyH_ready (rs := [33, 45]) (by kernel_rfl) (by simp) ?_
          refine AllReadyH.cons rfl (fun K hK => ?_) ?_
          · go_simp
            with_reducible refine (HT _).out.mono ?_
            rintro e w22 ⟨rfl, nd2, hw⟩
            have HW2 := Lib.hid hw
            clear hw
            refine hK.out _ _ ?_ (fun hS2 => ?_)
            · rw [HW2.out]
              exact two_drewN hS1 _
            · clear hK K
              have hz2 : w22.heap.size = wd.heap.size := by rw [HW2.out]; first | rfl | exact hz1
              try simp only [Act.put, List.getElem_toArray, List.getElem_cons_zero, List.getElem_cons_succ, List.setIfInBounds_toArray, List.set_cons_zero, List.set_cons_succ]
              refine wpAnyH_take (i := 44) (v := ?_) rfl (by kernel_rfl) (by kernel_rfl) (by kernel_rfl) (fun _ _ _ h => h) (Or.inl ⟨by rfl, ?_⟩) (by assumption) ?_
              rotate_left
              · intro w hSw
                (try dsimp only at hSw)
                go_simp
                try with_reducible rfl
              try simp only [Act.put, List.getElem_toArray, List.getElem_cons_zero, List.getElem_cons_succ, List.setIfInBounds_toArray, List.set_cons_zero, List.set_cons_succ]
              refine wpAnyH_ready (rs := [45]) (by kernel_rfl) (by simp) ?_
              refine AllReadyH.cons rfl (fun K hK => ?_) ?_
              · go_simp
                refine hK.out _ _ ?_ (fun hS3 => ?_)
                · first | exact two_call hS2 (below_alloc1 _ _) | exact two_drew (two_call HS0 (below_alloc1 _ _))
                · clear hK K
                  try simp only [Act.put, List.getElem_toArray, List.getElem_cons_zero, List.getElem_cons_succ, List.setIfInBounds_toArray, List.set_cons_zero, List.set_cons_succ]
                  have hbk := blk_alloc_new w22 (.cells (lyArr 0 0 0 0 0 0 0) 44)
                  rw [hz2] at hbk
                  refine gen_w (p := fun W' => wpAnyH _ _ _ _ _ _ _ _ W') (q := fun W' => ((W'.cell? ⟨x, 0, none⟩ = some (.int .i64 f) ∧ W'.cell? ⟨x, 1, none⟩ = some (.int .i64 i) ∧ W'.cell? ⟨x, 2, none⟩ = some (.int .i64 v) ∧ W'.cell? ⟨x, 3, none⟩ = some (.int .i64 d) ∧ W'.cell? ⟨x, 4, none⟩ = some (.int .i64 g) ∧ W'.cell? ⟨x, 5, none⟩ = some (.int .i64 h) ∧ W'.cell? ⟨x, 6, none⟩ = some (.int .i64 a)) ∧ (W'.cell? ⟨y, 0, none⟩ = some (.int .i64 f) ∧ W'.cell? ⟨y, 1, none⟩ = some (.int .i64 i') ∧ W'.cell? ⟨y, 2, none⟩ = some (.int .i64 v') ∧ W'.cell? ⟨y, 3, none⟩ = some (.int .i64 d') ∧ W'.cell? ⟨y, 4, none⟩ = some (.int .i64 g') ∧ W'.cell? ⟨y, 5, none⟩ = some (.int .i64 h') ∧ W'.cell? ⟨y, 6, none⟩ = some (.int .i64 a')) ∧ Below wd.heap.size wd W') ∧ W'.heap[wd.heap.size]? = some (.cells (lyArr 0 0 0 0 0 0 0) 44 (0, 0))) ⟨hS3, hbk⟩ ?_
                  rintro WA3 ⟨hA3, hb3⟩
                  try dsimp only
                  clear hbk hS3
                  refine wpAnyH_ready (rs := [46]) (by kernel_rfl) (by simp) ?_
                  have fz0 := Go.Joins.unfrozen_of_block hb3 0
                  have cz0 := Go.Joins.cell_of_block hb3 0
                  have fz1 := Go.Joins.unfrozen_of_block hb3 1
                  have cz1 := Go.Joins.cell_of_block hb3 1
                  have fz2 := Go.Joins.unfrozen_of_block hb3 2
                  have cz2 := Go.Joins.cell_of_block hb3 2
                  have fz3 := Go.Joins.unfrozen_of_block hb3 3
                  have cz3 := Go.Joins.cell_of_block hb3 3
                  have fz4 := Go.Joins.unfrozen_of_block hb3 4
                  have cz4 := Go.Joins.cell_of_block hb3 4
                  have fz5 := Go.Joins.unfrozen_of_block hb3 5
                  have cz5 := Go.Joins.cell_of_block hb3 5
                  have fz6 := Go.Joins.unfrozen_of_block hb3 6
                  have cz6 := Go.Joins.cell_of_block hb3 6
                  simp only [List.getElem?_toArray, List.getElem?_cons_zero, List.getElem?_cons_succ] at cz0 cz1 cz2 cz3 cz4 cz5 cz6
                  refine AllReadyH.cons rfl (fun K hK => ?_) ?_
                  · go_simp
                    refine hK.out _ _ ?_ (fun hSE => ?_)
                    · with_reducible exact two_grow hA3 (set7_grown WA3 wd.heap.size _ _ _ _ _ _ _) (by omega) (by omega) (Nat.le_refl _)
                    · clear hK K
                      try simp only [Act.put, List.getElem_toArray, List.getElem_cons_zero, List.getElem_cons_succ, List.setIfInBounds_toArray, List.set_cons_zero, List.set_cons_succ]
                      refine wpAnyH_done (by kernel_rfl) ?_ _
                      go_wp2_with fail
                      go_meet
                      exact ⟨_, D, T, min h h', max a a', rfl, set7_at hb3 f (i + i') (v + v') D T (min h h') (max a a'), hSE.2.2⟩
                  exact AllReadyH.nil
              exact AllReadyH.nil
          refine AllReadyH.cons rfl (fun K hK => ?_) ?_
          · go_simp
            refine hK.out _ _ ?_ (fun hS4 => ?_)
            · first | exact two_call hS1 (below_alloc1 _ _) | exact two_drew (two_call HS0 (below_alloc1 _ _))
            · clear hK K
              try simp only [Act.put, List.getElem_toArray, List.getElem_cons_zero, List.getElem_cons_succ, List.setIfInBounds_toArray, List.set_cons_zero, List.set_cons_succ]
              have hbk := blk_alloc_new w21 (.cells (lyArr 0 0 0 0 0 0 0) 44)
              rw [hz1] at hbk
              refine gen_w (p := fun W' => wpAnyH _ _ _ _ _ _ _ _ W') (q := fun W' => ((W'.cell? ⟨x, 0, none⟩ = some (.int .i64 f) ∧ W'.cell? ⟨x, 1, none⟩ = some (.int .i64 i) ∧ W'.cell? ⟨x, 2, none⟩ = some (.int .i64 v) ∧ W'.cell? ⟨x, 3, none⟩ = some (.int .i64 d) ∧ W'.cell? ⟨x, 4, none⟩ = some (.int .i64 g) ∧ W'.cell? ⟨x, 5, none⟩ = some (.int .i64 h) ∧ W'.cell? ⟨x, 6, none⟩ = some (.int .i64 a)) ∧ (W'.cell? ⟨y, 0, none⟩ = some (.int .i64 f) ∧ W'.cell? ⟨y, 1, none⟩ = some (.int .i64 i') ∧ W'.cell? ⟨y, 2, none⟩ = some (.int .i64 v') ∧ W'.cell? ⟨y, 3, none⟩ = some (.int .i64 d') ∧ W'.cell? ⟨y, 4, none⟩ = some (.int .i64 g') ∧ W'.cell? ⟨y, 5, none⟩ = some (.int .i64 h') ∧ W'.cell? ⟨y, 6, none⟩ = some (.int .i64 a')) ∧ Below wd.heap.size wd W') ∧ W'.heap[wd.heap.size]? = some (.cells (lyArr 0 0 0 0 0 0 0) 44 (0, 0))) ⟨hS4, hbk⟩ ?_
              rintro WA4 ⟨hA4, hb4⟩
              try dsimp only
              clear hbk hS4
              refine wpAnyH_ready (rs := [33]) (by kernel_rfl) (by simp) ?_
              refine AllReadyH.cons rfl (fun K hK => ?_) ?_
              · go_simp
                with_reducible refine (HT _).out.mono ?_
                rintro e w25 ⟨rfl, nd5, hw⟩
                have HW5 := Lib.hid hw
                clear hw
                refine hK.out _ _ ?_ (fun hS5 => ?_)
                · rw [HW5.out]
                  exact two_drewN hA4 _
                · clear hK K
                  have hb5 : w25.heap[wd.heap.size]? = some (.cells (lyArr 0 0 0 0 0 0 0) 44 (0, 0)) := by rw [HW5.out]; exact hb4
                  try simp only [Act.put, List.getElem_toArray, List.getElem_cons_zero, List.getElem_cons_succ, List.setIfInBounds_toArray, List.set_cons_zero, List.set_cons_succ]
                  refine wpAnyH_take (i := 44) (v := ?_) rfl (by kernel_rfl) (by kernel_rfl) (by kernel_rfl) (fun _ _ _ h => h) (Or.inl ⟨by rfl, ?_⟩) (by assumption) ?_
                  rotate_left
                  · intro w hSw
                    (try dsimp only at hSw)
                    go_simp
                    try with_reducible rfl
                  try simp only [Act.put, List.getElem_toArray, List.getElem_cons_zero, List.getElem_cons_succ, List.setIfInBounds_toArray, List.set_cons_zero, List.set_cons_succ]
                  refine wpAnyH_ready (rs := [46]) (by kernel_rfl) (by simp) ?_
                  have fz0 := Go.Joins.unfrozen_of_block hb5 0
                  have cz0 := Go.Joins.cell_of_block hb5 0
                  have fz1 := Go.Joins.unfrozen_of_block hb5 1
                  have cz1 := Go.Joins.cell_of_block hb5 1
                  have fz2 := Go.Joins.unfrozen_of_block hb5 2
                  have cz2 := Go.Joins.cell_of_block hb5 2
                  have fz3 := Go.Joins.unfrozen_of_block hb5 3
                  have cz3 := Go.Joins.cell_of_block hb5 3
                  have fz4 := Go.Joins.unfrozen_of_block hb5 4
                  have cz4 := Go.Joins.cell_of_block hb5 4
                  have fz5 := Go.Joins.unfrozen_of_block hb5 5
                  have cz5 := Go.Joins.cell_of_block hb5 5
                  have fz6 := Go.Joins.unfrozen_of_block hb5 6
                  have cz6 := Go.Joins.cell_of_block hb5 6
                  simp only [List.getElem?_toArray, List.getElem?_cons_zero, List.getElem?_cons_succ] at cz0 cz1 cz2 cz3 cz4 cz5 cz6
                  refine AllReadyH.cons rfl (fun K hK => ?_) ?_
                  · go_simp
                    refine hK.out _ _ ?_ (fun hSE => ?_)
                    · with_reducible exact two_grow hS5 (set7_grown w25 wd.heap.size _ _ _ _ _ _ _) (by omega) (by omega) (Nat.le_refl _)
                    · clear hK K
                      try simp only [Act.put, List.getElem_toArray, List.getElem_cons_zero, List.getElem_cons_succ, List.setIfInBounds_toArray, List.set_cons_zero, List.set_cons_succ]
                      refine wpAnyH_done (by kernel_rfl) ?_ _
                      go_wp2_with fail
                      go_meet
                      exact ⟨_, D, T, min h h', max a a', rfl, set7_at hb5 f (i + i') (v + v') D T (min h h') (max a a'), hSE.2.2⟩
                  exact AllReadyH.nil
              exact AllReadyH.nil
          exact AllReadyH.nil
      refine AllReadyH.cons rfl (fun K hK => ?_) ?_
      · go_simp
        refine hK.out _ _ ?_ (fun hS6 => ?_)
        · first | exact two_call hHeld (below_alloc1 _ _) | exact two_drew (two_call HS0 (below_alloc1 _ _))
        · clear hK K
          try simp only [Act.put, List.getElem_toArray, List.getElem_cons_zero, List.getElem_cons_succ, List.setIfInBounds_toArray, List.set_cons_zero, List.set_cons_succ]
          have hbk := blk_alloc_new wd (.cells (lyArr 0 0 0 0 0 0 0) 44)
          refine gen_w (p := fun W' => wpAnyH _ _ _ _ _ _ _ _ W') (q := fun W' => ((W'.cell? ⟨x, 0, none⟩ = some (.int .i64 f) ∧ W'.cell? ⟨x, 1, none⟩ = some (.int .i64 i) ∧ W'.cell? ⟨x, 2, none⟩ = some (.int .i64 v) ∧ W'.cell? ⟨x, 3, none⟩ = some (.int .i64 d) ∧ W'.cell? ⟨x, 4, none⟩ = some (.int .i64 g) ∧ W'.cell? ⟨x, 5, none⟩ = some (.int .i64 h) ∧ W'.cell? ⟨x, 6, none⟩ = some (.int .i64 a)) ∧ (W'.cell? ⟨y, 0, none⟩ = some (.int .i64 f) ∧ W'.cell? ⟨y, 1, none⟩ = some (.int .i64 i') ∧ W'.cell? ⟨y, 2, none⟩ = some (.int .i64 v') ∧ W'.cell? ⟨y, 3, none⟩ = some (.int .i64 d') ∧ W'.cell? ⟨y, 4, none⟩ = some (.int .i64 g') ∧ W'.cell? ⟨y, 5, none⟩ = some (.int .i64 h') ∧ W'.cell? ⟨y, 6, none⟩ = some (.int .i64 a')) ∧ Below wd.heap.size wd W') ∧ W'.heap[wd.heap.size]? = some (.cells (lyArr 0 0 0 0 0 0 0) 44 (0, 0))) ⟨hS6, hbk⟩ ?_
          rintro WA6 ⟨hA6, hb6⟩
          try dsimp only
          clear hbk hS6
          refine wpAnyH_ready (rs := [20]) (by kernel_rfl) (by simp) ?_
          refine AllReadyH.cons rfl (fun K hK => ?_) ?_
          · go_simp
            with_reducible refine (HD _).out.mono ?_
            rintro e w27 ⟨rfl, nd7, hw⟩
            have HW7 := Lib.hid hw
            clear hw
            refine hK.out _ _ ?_ (fun hS7 => ?_)
            · rw [HW7.out]
              exact two_drewN hA6 _
            · clear hK K
              have hb7 : w27.heap[wd.heap.size]? = some (.cells (lyArr 0 0 0 0 0 0 0) 44 (0, 0)) := by rw [HW7.out]; exact hb6
              try simp only [Act.put, List.getElem_toArray, List.getElem_cons_zero, List.getElem_cons_succ, List.setIfInBounds_toArray, List.set_cons_zero, List.set_cons_succ]
              refine wpAnyH_ready (rs := [33]) (by kernel_rfl) (by simp) ?_
              refine AllReadyH.cons rfl (fun K hK => ?_) ?_
              · go_simp
                with_reducible refine (HT _).out.mono ?_
                rintro e w28 ⟨rfl, nd8, hw⟩
                have HW8 := Lib.hid hw
                clear hw
                refine hK.out _ _ ?_ (fun hS8 => ?_)
                · rw [HW8.out]
                  exact two_drewN hS7 _
                · clear hK K
                  have hb8 : w28.heap[wd.heap.size]? = some (.cells (lyArr 0 0 0 0 0 0 0) 44 (0, 0)) := by rw [HW8.out]; exact hb7
                  try simp only [Act.put, List.getElem_toArray, List.getElem_cons_zero, List.getElem_cons_succ, List.setIfInBounds_toArray, List.set_cons_zero, List.set_cons_succ]
                  refine wpAnyH_take (i := 44) (v := ?_) rfl (by kernel_rfl) (by kernel_rfl) (by kernel_rfl) (fun _ _ _ h => h) (Or.inl ⟨by rfl, ?_⟩) (by assumption) ?_
                  rotate_left
                  · intro w hSw
                    (try dsimp only at hSw)
                    go_simp
                    try with_reducible rfl
                  try simp only [Act.put, List.getElem_toArray, List.getElem_cons_zero, List.getElem_cons_succ, List.setIfInBounds_toArray, List.set_cons_zero, List.set_cons_succ]
                  refine wpAnyH_ready (rs := [46]) (by kernel_rfl) (by simp) ?_
                  have fz0 := Go.Joins.unfrozen_of_block hb8 0
                  have cz0 := Go.Joins.cell_of_block hb8 0
                  have fz1 := Go.Joins.unfrozen_of_block hb8 1
                  have cz1 := Go.Joins.cell_of_block hb8 1
                  have fz2 := Go.Joins.unfrozen_of_block hb8 2
                  have cz2 := Go.Joins.cell_of_block hb8 2
                  have fz3 := Go.Joins.unfrozen_of_block hb8 3
                  have cz3 := Go.Joins.cell_of_block hb8 3
                  have fz4 := Go.Joins.unfrozen_of_block hb8 4
                  have cz4 := Go.Joins.cell_of_block hb8 4
                  have fz5 := Go.Joins.unfrozen_of_block hb8 5
                  have cz5 := Go.Joins.cell_of_block hb8 5
                  have fz6 := Go.Joins.unfrozen_of_block hb8 6
                  have cz6 := Go.Joins.cell_of_block hb8 6
                  simp only [List.getElem?_toArray, List.getElem?_cons_zero, List.getElem?_cons_succ] at cz0 cz1 cz2 cz3 cz4 cz5 cz6
                  refine AllReadyH.cons rfl (fun K hK => ?_) ?_
                  · go_simp
                    refine hK.out _ _ ?_ (fun hSE => ?_)
                    · with_reducible exact two_grow hS8 (set7_grown w28 wd.heap.size _ _ _ _ _ _ _) (by omega) (by omega) (Nat.le_refl _)
                    · clear hK K
                      try simp only [Act.put, List.getElem_toArray, List.getElem_cons_zero, List.getElem_cons_succ, List.setIfInBounds_toArray, List.set_cons_zero, List.set_cons_succ]
                      refine wpAnyH_done (by kernel_rfl) ?_ _
                      go_wp2_with fail
                      go_meet
                      exact ⟨_, D, T, min h h', max a a', rfl, set7_at hb8 f (i + i') (v + v') D T (min h h') (max a a'), hSE.2.2⟩
                  exact AllReadyH.nil
              exact AllReadyH.nil
          exact AllReadyH.nil
      exact AllReadyH.nil
    case rest =>
      obtain ⟨z, D, T, M, X, rfl, hz, hbl⟩ := hcut
      rename World => we
      have HE := Lib.hid (And.intro hz (And.intro (HB.out.trans (hbl.mono HB.out.size)) (HYd.out.below hbl)))
      obtain ⟨z0, z1, z2, z3, z4, z5, z6⟩ := hz
      simp only [Nat.zero_add] at z1 z2 z3 z4 z5 z6
      clear hbl HB HYd x0 x1 x2 x3 x4 x5 x6 y0 y1 y2 y3 y4 y5 y6
      go_wp2_with fail
      refine (ValidLayer_b _ _ _ _ _ _ _ _).mono ?_
      rintro e wv ⟨bv, rfl, hbv, hb⟩
      have HV := Lib.hid (And.intro hbv (And.intro (HE.out.1.below hb) (And.intro (HE.out.2.1.trans (hb.mono HE.out.2.1.size)) (HE.out.2.2.below hb))))
      clear hbv hb HE z0 z1 z2 z3 z4 z5 z6
      cases bv
      · go_wp2_with fail
        go_ret2
        exact ⟨.inl ⟨5, .inr (.inr rfl), rfl⟩, HV.out.2.2.1⟩
      · obtain ⟨z0, z1, z2, z3, z4, z5, z6⟩ := HV.out.2.1
        simp only [Nat.zero_add] at z1 z2 z3 z4 z5 z6
        have HS0 : (wv.cell? ⟨z, 0, none⟩ = some (.int .i64 f) ∧ wv.cell? ⟨z, 1, none⟩ = some (.int .i64 (i + i')) ∧ wv.cell? ⟨z, 2, none⟩ = some (.int .i64 (v + v')) ∧ wv.cell? ⟨z, 3, none⟩ = some (.int .i64 D) ∧ wv.cell? ⟨z, 4, none⟩ = some (.int .i64 T) ∧ wv.cell? ⟨z, 5, none⟩ = some (.int .i64 M) ∧ wv.cell? ⟨z, 6, none⟩ = some (.int .i64 X)) ∧ Below wv.heap.size wv wv := ⟨⟨z0, z1, z2, z3, z4, z5, z6⟩, Below.refl _ _⟩
        have HLB := Lib.hid (HV.out.1 rfl)
        have HTK := Lib.hid (HV.out.2.2.2.take (show k ≤ n by omega))
        have HSI := Lib.hid (join_sum Ly.ice (z := ⟨f, i + i', v + v', D, T, M, X⟩) HX.out HX'.out rfl)
        have HSW := Lib.hid (join_sum Ly.water (z := ⟨f, i + i', v + v', D, T, M, X⟩) HX.out HX'.out rfl)
        have hw4 : IntKind.i64.wrap ((k : Int) + 2) = (k : Int) + 2 := IntWalk.i64_in _ (by omega)
        have hk1' : (k : Int) + 2 ≤ (n : Int) := by omega
        have hk2 : ((k : Int) + 2).toNat = k + 2 := by omega
        have hk3 : (0 : Int) ≤ (k : Int) + 2 := by omega
        have hk4 : (k : Int) ≤ (c : Int) := by omega
        have hkn : k + 2 ≤ n := by omega
        have hkc : k ≤ c := by omega
        clear bi ci
        by_cases hcap : c = k + 2
        · have hnk : n = k + 2 := by omega
          have HNK := Lib.hid hnk
          have HDR := Lib.hid (show ls.drop (k + 2) = [] from List.drop_eq_nil_of_le (by rw [HL.out]; omega))
          clear hnk
          have hk5 : (k : Int) ≤ (k : Int) + 2 := by omega
          have hk6 : k ≤ k + 2 := by omega
          go_upto_region 12 with (fail)
          go_region_held3 (fun w' => (w'.cell? ⟨z, 0, none⟩ = some (.int .i64 f) ∧ w'.cell? ⟨z, 1, none⟩ = some (.int .i64 (i + i')) ∧ w'.cell? ⟨z, 2, none⟩ = some (.int .i64 (v + v')) ∧ w'.cell? ⟨z, 3, none⟩ = some (.int .i64 D) ∧ w'.cell? ⟨z, 4, none⟩ = some (.int .i64 T) ∧ w'.cell? ⟨z, 5, none⟩ = some (.int .i64 M) ∧ w'.cell? ⟨z, 6, none⟩ = some (.int .i64 X)) ∧ Below wv.heap.size wv w')
            (first | assumption | exact HS0 | exact one_drew HS0 | exact one_drew (by assumption) | exact one_call (by assumption) (below_alloc1 _ _) | exact one_call HS0 (below_alloc1 _ _) | exact one_call (one_drew HS0) (below_alloc1 _ _) | exact one_call (by assumption) hb5)
            ((go_at_call 66; refine (concatLy_t _ 3 3 _ _ (parts3 (wv := wv) (W0 := wv.drew) (Below.refl _ _).drew _ _ HTK.out (fun W hB => Lys.one_b hB HLB.out) (show Lys wv _ _ (ls.drop (k + 2)) by rw [HDR.out, show n - (k + 2) = 0 by have := HNK.out; omega]; exact Lys.nil _ _)) rfl (by omega) (by rw [parts_tot]; omega) (by rw [parts_tot]; omega)).mono ?_; rintro e w5 ⟨A5, c5, rfl, hbag5, hb5⟩))
          all_goals
            rw [parts_tot, parts_flat] at hbag5
            rw [parts_tot]
            have HF := Lib.hid (And.intro hbag5.lys (below3 HV.out.2.2.1 (Below.refl _ _).drew hb5))
            clear hbag5 hb5
            go_wp2_with fail
            go_ret2
            exact ⟨.inr ⟨A5, _, c5, _, rfl, HF.out.1, by rw [HL.out]; omega, HSI.out, HSW.out⟩, HF.out.2⟩
        · have HDP := Lib.hid (HV.out.2.2.2.drop (k + 2))
          go_upto_region 12 with (fail)
          go_region_held3 (fun w' => (w'.cell? ⟨z, 0, none⟩ = some (.int .i64 f) ∧ w'.cell? ⟨z, 1, none⟩ = some (.int .i64 (i + i')) ∧ w'.cell? ⟨z, 2, none⟩ = some (.int .i64 (v + v')) ∧ w'.cell? ⟨z, 3, none⟩ = some (.int .i64 D) ∧ w'.cell? ⟨z, 4, none⟩ = some (.int .i64 T) ∧ w'.cell? ⟨z, 5, none⟩ = some (.int .i64 M) ∧ w'.cell? ⟨z, 6, none⟩ = some (.int .i64 X)) ∧ Below wv.heap.size wv w')
            (first | assumption | exact HS0 | exact one_drew HS0 | exact one_drew (by assumption) | exact one_call (by assumption) (below_alloc1 _ _) | exact one_call HS0 (below_alloc1 _ _) | exact one_call (one_drew HS0) (below_alloc1 _ _) | exact one_call (by assumption) hb5)
            ((go_at_call 66; refine (concatLy_t _ 3 3 _ _ (parts3 (wv := wv) (W0 := wv.drew) (Below.refl _ _).drew _ _ HTK.out (fun W hB => Lys.one_b hB HLB.out) HDP.out) rfl (by omega) (by rw [parts_tot]; omega) (by rw [parts_tot]; omega)).mono ?_; rintro e w5 ⟨A5, c5, rfl, hbag5, hb5⟩))
          all_goals
            rw [parts_tot, parts_flat] at hbag5
            rw [parts_tot]
            have HF := Lib.hid (And.intro hbag5.lys (below3 HV.out.2.2.1 (Below.refl _ _).drew hb5))
            clear hbag5 hb5
            go_wp2_with fail
            go_ret2
            exact ⟨.inr ⟨A5, _, c5, _, rfl, HF.out.1, by rw [HL.out]; omega, HSI.out, HSW.out⟩, HF.out.2⟩
end Go.Proofs.YtknppcgoooaaaaaGreatDoor
