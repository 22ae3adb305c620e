/-
  Draws of paths: the walks.
-/
import Derived.Test.YtknppcgoooaaaaaGreatDoorDrawP
namespace Go.Proofs.YtknppcgoooaaaaaGreatDoor
open Go.ChangeShapes Go.WideShapes Go.ChangeAt Go.RowKit Go.Deep
set_option linter.unusedVariables false

theorem way_bd {x s : Int} (hx : 0 ≤ x ∧ x < 20) (hs : -200 ≤ s ∧ s ≤ 700) : (-44000 ≤ (30 + 10 * x) * s ∧ (30 + 10 * x) * s ≤ 154000) ∧ (-44 ≤ ((30 + 10 * x) * s).tdiv 1000 ∧ ((30 + 10 * x) * s).tdiv 1000 ≤ 154) := by
  have a1 : (30 + 10 * x) * s ≤ 220 * 700 := by
    rcases Int.lt_or_le s 0 with h | h
    · have : (30 + 10 * x) * s ≤ 0 := Int.mul_nonpos_of_nonneg_of_nonpos (by omega) (by omega)
      omega
    · exact Int.mul_le_mul (by omega) hs.2 h (by omega)
  have a2 : -44000 ≤ (30 + 10 * x) * s := by
    rcases Int.lt_or_le s 0 with h | h
    · have e : (30 + 10 * x) * s = -((30 + 10 * x) * (-s)) := by rw [Int.mul_neg, Int.neg_neg]
      have : (30 + 10 * x) * (-s) ≤ 220 * 200 := Int.mul_le_mul (by omega) (by omega) (by omega) (by omega)
      omega
    · have := Int.mul_nonneg (show 0 ≤ 30 + 10 * x by omega) h
      omega
  generalize (30 + 10 * x) * s = P at a1 a2 ⊢
  refine ⟨⟨a2, by omega⟩, ?_⟩
  rcases Int.lt_or_le P 0 with h | h
  · obtain ⟨m, rfl⟩ : ∃ m, P = -m := ⟨-P, by omega⟩
    rw [Int.neg_tdiv, Int.tdiv_eq_ediv_of_nonneg (by omega)]
    omega
  · rw [Int.tdiv_eq_ediv_of_nonneg h]
    omega
def PathD (w : World) (most : Nat) (e : Ending) (w' : World) : Prop := ∃ A n c ps, e = .returned (.slice A n c) ∧ PBag w' w.heap.size n (.slice A n c) ps ∧ 1 ≤ n ∧ n ≤ most
set_option maxRecDepth 100000 in
set_option maxHeartbeats 2000000 in
theorem l14DrawOk_d (q m : Nat) (w : World) (h : SrcP w q m) (hm : m ≤ 10000000000) :
    Calls Tryz.prog 70 #[.pointer (some ⟨q, 0, none⟩)] w fun e w' => PathD w 8 e w' ∧ SrcP w' q (m + 100) ∧ w.grownBy w' (some q) := by
  have hq := h.lt
  have HH := Lib.hid h
  clear h
  go_enter Tryz.func70, Tryz.ntmps70
  go_wp2_with fail
  refine (pick_p _ _ 100 _ HH.out (by omega) (by omega)).mono ?_
  rintro e w1 ⟨⟨x0, rfl, hx1, hx2⟩, hs1, hg1⟩
  have hx3 : x0 ≤ 99 := by omega
  have hz1 := hg1.size
  have H1 := Lib.hid (And.intro hs1 hg1)
  clear hs1 hg1 hx2
  obtain ⟨h0, hh0⟩ : ∃ h0, h0 = 1200 + 10 * x0 := ⟨_, rfl⟩
  have hown0 := World.ownsRow_lit (base := w.heap.size) (e := 36) (size := 2) w1 #[.int .i64 0, .int .i64 (1200 + 10 * x0)] 1 hz1 (by unfold maxLen; omega) rfl
  have hba : Below w1.heap.size w1 (w1.alloc (.cells #[.int .i64 0, .int .i64 (1200 + 10 * x0)] 36)) := (Below.refl _ _).alloc (Nat.le_refl _) _
  have HB1 := Lib.hid (And.intro (H1.out.1.below hba) (And.intro (grown_belowP H1.out.2 hba) (show PBag (w1.alloc (.cells #[.int .i64 0, .int .i64 (1200 + 10 * x0)] 36)) w.heap.size 1 (.slice (some ⟨w1.heap.size, 0, none⟩) 1 1) [(0, 1200 + 10 * x0)] from ⟨by rw [show ptCells [(0, 1200 + 10 * x0)] = [.int .i64 0, .int .i64 (1200 + 10 * x0)] from ptCells_snoc [] 0 _]; exact hown0, rfl, by
    intro p hp
    simp at hp
    subst hp
    simp
    omega⟩)))
  clear hown0 hba hh0 h0
  go_wp2_with fail
  refine (pick_p _ _ 6 _ HB1.out.1 (by omega) (by omega)).mono ?_
  rintro e w2 ⟨⟨x1, rfl, hy1, hy2⟩, hs2, hg2⟩
  have hy3 : x1 ≤ 5 := by omega
  have H2 := Lib.hid (And.intro hs2 (And.intro (HB1.out.2.1.trans hg2) (HB1.out.2.2.src hg2 hq)))
  clear hs2 hg2 hy2
  go_wp2_with fail
  go_loopw [3, 4, 5, 6, 7] (fun hv o dv sv kv wr => ∃ (hh d s : Int) (k j : Nat) (ps : Pth), (k : Int) + j ≤ 7 ∧ 1 ≤ j ∧ kv = .int .i64 k ∧ hv = .int .i64 hh ∧ dv = .int .i64 d ∧ sv = .int .i64 s ∧ (0 ≤ hh ∧ hh ≤ 2200 + 50 * (j : Int)) ∧ (0 ≤ d ∧ d ≤ 300 * (j : Int)) ∧ (-200 ≤ s ∧ s ≤ 700) ∧
    SrcP wr q (m + 4 + 8 * j) ∧ w.grownBy wr (some q) ∧ PBag wr w.heap.size j o ps ∧ w.heap.size ≤ wr.heap.size) (fun _ _ _ _ kv _ => (intOf kv).toNat)
  case atStart =>
    obtain ⟨k, hk⟩ : ∃ k : Nat, 1 + x1 = (k : Int) := ⟨(1 + x1).toNat, by omega⟩
    exact ⟨_, 0, 700, k, 1, _, by omega, by omega, by rw [hk], rfl, rfl, rfl, by omega, by omega, by omega, H2.out.1.mono (by omega), H2.out.2.1, H2.out.2.2, H2.out.2.1.size⟩
  case round =>
    clear hx1 hx3 hy1 hy3 H2 HB1 H1 hz1
    obtain ⟨hh, d, s, k, j, ps, hkj, hj1, rfl, rfl, rfl, rfl, hhb, hdb, hsb, hs, hgr, hbag, hz⟩ := hrel
    have HR := Lib.hid (And.intro hs (And.intro hgr hbag))
    clear hs hgr hbag
    by_cases hk : 0 < k
    · have hki : (0 : Int) < (k : Int) := by omega
      go_wp2_with fail
      refine (pick_p _ _ 20 _ HR.out.1 (by omega) (by omega)).mono ?_
      rintro e w3 ⟨⟨x, rfl, hx1, hx2⟩, hs3, hg3⟩
      have hx3 : x < 20 := by omega
      have hz3 := hg3.size
      have H3 := Lib.hid (And.intro hs3 (And.intro (HR.out.2.1.trans hg3) (HR.out.2.2.src hg3 hq)))
      clear hs3 hg3 hx2
      obtain ⟨⟨p1, p2⟩, p3, p4⟩ := way_bd ⟨hx1, hx3⟩ hsb
      go_wp2_with fail
      refine (l00Max_p _ _ _).mono ?_
      rintro e w4 ⟨rfl, rfl⟩
      obtain ⟨h2, hh2⟩ : ∃ h2, h2 = max 0 (hh - ((30 + 10 * x) * s).tdiv 1000) := ⟨_, rfl⟩
      have hb2 : 0 ≤ h2 ∧ h2 ≤ 2200 + 50 * ((j : Int) + 1) := by omega
      rw [← hh2]
      clear hh2
      go_wp2_with fail
      refine (pick_p _ _ 7 _ H3.out.1 (by omega) (by omega)).mono ?_
      rintro e w4 ⟨⟨y, rfl, hy1, hy2⟩, hs4, hg4⟩
      have hy3 : y < 7 := by omega
      have hz4 := hg4.size
      have H4 := Lib.hid (And.intro hs4 (And.intro (H3.out.2.1.trans hg4) (H3.out.2.2.src hg4 hq)))
      clear hs4 hg4 hy2
      obtain ⟨s2, hs2⟩ : ∃ s2, s2 = max (-200) (s - 50 * y) := ⟨_, rfl⟩
      have hsb2 : -200 ≤ s2 ∧ s2 ≤ 700 := by omega
      obtain ⟨g, c, rfl, hgB, hcells, hfr⟩ := H4.out.2.2.cells (by omega)
      have hc0 := (hcells 0 (by omega)).2.1
      simp only [Nat.zero_mul, Nat.zero_add] at hc0
      have hhd := (hcells 0 (by omega)).2.2.2
      obtain ⟨ht, hht⟩ : ∃ ht, ht = hAt ps 0 := ⟨_, rfl⟩
      rw [← hht] at hc0 hhd
      clear hcells hfr hht
      obtain ⟨h3, hh3⟩ : ∃ h3, h3 = min h2 ht := ⟨_, rfl⟩
      have hb3 : -30000 ≤ h3 ∧ h3 ≤ 30000 := by omega
      have HS2 := Lib.hid hs2
      have HH3 := Lib.hid hh3
      clear hs2 hh3
      go_wp2_with (first | (go_at_call 86; refine (l00Max_p _ _ _).mono ?_; rintro e w' ⟨rfl, rfl⟩; rw [← HS2.out]) | (go_at_call 87; refine (l00Min_p _ _ _).mono ?_; rintro e w' ⟨rfl, rfl⟩; rw [← HH3.out]) | (at_builtin; refine wp_app rfl (.tmp 43) (.tmp 52) 24 rfl w.heap.size 36 (.agg #[.int .i64 0, .int .i64 0]) 2 16 Tryz.underlying24 info_ipt rfl (by omega) _ j (ptCells ps) rfl H4.out.2.2.1 [.int .i64 (d + (30 + 10 * x)), .int .i64 h3] rfl (by rfl) (by intro u hu; simp at hu; rcases hu with rfl | rfl <;> rfl) (by unfold maxLen; omega) (by omega) (by omega) ?_; intro v' w5 hown5 hgrow5 hv5))
      have hz5 := hgrow5.size
      have HF := Lib.hid (pbag_step H4.out.1 H4.out.2.1 H4.out.2.2 (x := d + (30 + 10 * x)) (y := h3) (by omega) hb3 hq (Nat.le_refl _) hown5 hgrow5)
      clear hown5 hgrow5
      go_roundw
      case rel => exact ⟨h2, _, s2, k - 1, j + 1, _, by omega, by omega, by rw [show ((k - 1 : Nat) : Int) = (k : Int) - 1 by omega], rfl, rfl, rfl, hb2, by omega, hsb2, HF.out.1.mono (by omega), HF.out.2.1, HF.out.2.2, by omega⟩
      case measure => simp [intOf]; omega
    · obtain rfl : k = 0 := by omega
      obtain ⟨A', c', rfl, _⟩ := own_form HR.out.2.2.1
      go_wp2_with fail
      go_ret
      exact ⟨⟨_, _, _, _, rfl, HR.out.2.2, hj1, by omega⟩, HR.out.1.mono (by omega), HR.out.2.1⟩
/-- A store into a row of the call's own. -/
theorem set_step {w wr : World} {q m B j g c : Nat} {ps : Pth} (hs : SrcP wr q m) (hg : w.grownBy wr (some q)) (hbag : PBag wr B j (.slice (some ⟨g, 0, none⟩) j c) ps) (hgB : B ≤ g) (hq : q < B) (hB : w.heap.size ≤ B) (k : Nat) (hk : k < j * 2) (v : Int) (hv : -30000 ≤ v ∧ v ≤ 30000) :
    SrcP (wr.setCell ⟨g, k, none⟩ (.int .i64 v)) q m ∧ w.grownBy (wr.setCell ⟨g, k, none⟩ (.int .i64 v)) (some q) ∧ ∃ ps', PBag (wr.setCell ⟨g, k, none⟩ (.int .i64 v)) B j (.slice (some ⟨g, 0, none⟩) j c) ps' := by
  have hgs : wr.grownBy (wr.setCell ⟨g, k, none⟩ (.int .i64 v)) (some g) := grown_setCell (World.grownBy.refl wr (some g)) rfl _
  exact ⟨hs.grow hgs (fun g' e => by injection e with e; omega), grown_newP hg hgs (fun g' e => by injection e with e; omega), hbag.set k hk v hv⟩
set_option maxRecDepth 100000 in
set_option maxHeartbeats 2000000 in
theorem l14Draw_d (q m : Nat) (w : World) (h : SrcP w q m) (hm : m ≤ 1000000000) :
    Calls Tryz.prog 35 #[.pointer (some ⟨q, 0, none⟩)] w fun e w' => PathD w 25 e w' ∧ SrcP w' q (m + 110) ∧ w.grownBy w' (some q) := by
  have hq := h.lt
  have HH := Lib.hid h
  clear h
  go_enter Tryz.func35, Tryz.ntmps35
  go_wp2_with fail
  refine (l14DrawOk_d _ _ _ HH.out (by omega)).mono ?_
  rintro e w1 ⟨⟨A1, n, c, ps, rfl, hbag, hn1, hn8⟩, hs1, hg1⟩
  have H1 := Lib.hid (And.intro hs1 (And.intro hg1 hbag))
  clear hs1 hg1 hbag
  go_wp2_with fail
  refine (pick_p _ _ 20 _ H1.out.1 (by omega) (by omega)).mono ?_
  rintro e w2 ⟨⟨z, rfl, hz1, hz2⟩, hs2, hg2⟩
  have H2 := Lib.hid (And.intro hs2 (And.intro (H1.out.2.1.trans hg2) (H1.out.2.2.src hg2 hq)))
  clear hs2 hg2
  obtain ⟨g, c', hv, hgB, hcells, hfr⟩ := H2.out.2.2.cells (by omega)
  simp only [Value.slice.injEq] at hv
  obtain ⟨rfl, _, rfl⟩ := hv
  have hc0 := (hcells 0 (by omega)).1
  have hc1 := (hcells 0 (by omega)).2.1
  simp only [Nat.zero_mul, Nat.zero_add] at hc0 hc1
  have hf0 := hfr 0
  have hf1 := hfr 1
  have hn0 : 0 < n := by omega
  have hzz := H2.out.2.1.size
  clear hcells hfr
  have hcase : z = 0 ∨ z = 1 ∨ z = 2 ∨ z = 3 ∨ z = 4 ∨ (¬ z = 0 ∧ ¬ z = 1 ∧ ¬ z = 2 ∧ ¬ z = 3 ∧ ¬ z = 4) := by omega
  rcases hcase with rfl | rfl | rfl | rfl | rfl | ⟨h0, h1, h2, h3, h4⟩
  · have HF := Lib.hid (set_step H2.out.1 H2.out.2.1 H2.out.2.2 hgB hq (Nat.le_refl _) 0 (by omega) 1 (by omega))
    go_wp2_with fail
    go_ret
    obtain ⟨ps', hps'⟩ := HF.out.2.2
    exact ⟨⟨_, _, _, _, rfl, hps', hn1, by omega⟩, HF.out.1.mono (by omega), HF.out.2.1⟩
  · go_wp2_with fail
    refine (among_lit _ _ [8999, 9000, 9001, 0] _ _ _ _ _ H2.out.1 (by omega) rfl rfl (by decide) (by decide) (by decide)).mono ?_
    rintro e w3 ⟨⟨y, hy, rfl⟩, hs3, hg3⟩
    have hy3 : -30000 ≤ y ∧ y ≤ 30000 := by
      simp only [List.mem_cons, List.not_mem_nil, or_false] at hy
      omega
    replace hc1 := hg3.cell hc1 (fun e => by injection e with e; simp at e; omega)
    have H3 := Lib.hid (And.intro hs3 (And.intro (H2.out.2.1.trans hg3) (H2.out.2.2.src hg3 hq)))
    obtain ⟨g', c'', hv', _, _, hfr'⟩ := H3.out.2.2.cells (by omega)
    simp only [Value.slice.injEq, Option.some.injEq, Addr.mk.injEq, and_true, true_and] at hv'
    obtain ⟨rfl, rfl⟩ := hv'
    have hf1' := hfr' 1
    have HF := Lib.hid (set_step H3.out.1 H3.out.2.1 H3.out.2.2 hgB hq (Nat.le_refl _) 1 (by omega) y hy3)
    clear hs3 hg3 hy hc0 hf0 hf1 hfr'
    go_wp2_with fail
    go_ret
    obtain ⟨ps', hps'⟩ := HF.out.2.2
    exact ⟨⟨_, _, _, _, rfl, hps', hn1, by omega⟩, HF.out.1.mono (by omega), HF.out.2.1⟩
  · have hnc : n ≤ c := by
      obtain ⟨_, _, hnc, _⟩ := own_to_rowIs H2.out.2.2.1
      exact hnc
    have hnm : c ≤ 9223372036854775807 := by
      obtain ⟨_, _, _, hcm, _⟩ := own_to_rowIs H2.out.2.2.1
      unfold maxLen at hcm
      omega
    have HF := Lib.hid (H2.out.2.2.cut hn1)
    clear hc0 hc1 hf0 hf1
    go_wp2_with fail
    go_ret
    exact ⟨⟨_, _, _, _, rfl, HF.out, by omega, by omega⟩, H2.out.1.mono (by omega), H2.out.2.1⟩
  · clear hc0 hc1 hf0 hf1
    go_wp2_with fail
    refine (among_lit _ _ [0, 20000, 20001] _ _ _ _ _ H2.out.1 (by omega) rfl rfl (by decide) (by decide) (by decide)).mono ?_
    rintro e w3 ⟨⟨y, hy, rfl⟩, hs3, hg3⟩
    have hy3 : -30000 ≤ y ∧ y ≤ 30000 := by
      simp only [List.mem_cons, List.not_mem_nil, or_false] at hy
      omega
    have hz3 := hg3.size
    have H3 := Lib.hid (And.intro hs3 (And.intro (H2.out.2.1.trans hg3) (H2.out.2.2.src hg3 hq)))
    clear hs3 hg3 hy
    go_wp2_with (at_builtin; refine wp_app rfl (.tmp 29) (.tmp 34) 24 rfl w.heap.size 36 (.agg #[.int .i64 0, .int .i64 0]) 2 16 Tryz.underlying24 info_ipt rfl (by omega) _ n (ptCells ps) rfl H3.out.2.2.1 [.int .i64 y, .int .i64 5] rfl (by rfl) (by intro u hu; simp at hu; rcases hu with rfl | rfl <;> rfl) (by unfold maxLen; omega) (by omega) (by omega) ?_; intro v' w5 hown5 hgrow5 hv5)
    obtain ⟨g5, c5, rfl⟩ := hv5
    have HF := Lib.hid (pbag_step H3.out.1 H3.out.2.1 H3.out.2.2 (x := y) (y := 5) hy3 (by omega) hq (Nat.le_refl _) hown5 hgrow5)
    clear hown5 hgrow5
    go_wp2_with fail
    go_ret
    exact ⟨⟨_, _, _, _, rfl, HF.out.2.2, by omega, by omega⟩, HF.out.1.mono (by omega), HF.out.2.1⟩
  · clear hc0 hc1 hf0 hf1
    go_wp2_with fail
    refine (among_lit _ _ [24, 25] _ _ _ _ _ H2.out.1 (by omega) rfl rfl (by decide) (by decide) (by decide)).mono ?_
    rintro e w3 ⟨⟨y, hy, rfl⟩, hs3, hg3⟩
    have hy3 : ∃ mm : Nat, y = (mm : Int) ∧ mm ≤ 25 ∧ 24 ≤ mm := by
      simp only [List.mem_cons, List.not_mem_nil, or_false] at hy
      exact ⟨y.toNat, by omega, by omega, by omega⟩
    obtain ⟨mm, rfl, hm25, hm24⟩ := hy3
    have hz3 := hg3.size
    have hown0 := World.ownsRow_lit (base := w.heap.size) (e := 36) (size := 2) w3 #[] 0 (by omega) (by simp) rfl
    have hba : Below w3.heap.size w3 (w3.alloc (.cells #[] 36)) := (Below.refl _ _).alloc (Nat.le_refl _) _
    have H3 := Lib.hid (And.intro (hs3.below hba) (And.intro (grown_belowP (H2.out.2.1.trans hg3) hba) (show PBag (w3.alloc (.cells #[] 36)) w.heap.size 0 (.slice (some ⟨w3.heap.size, 0, none⟩) 0 0) [] from ⟨hown0, rfl, by simp⟩)))
    clear hs3 hg3 hy hown0 hba
    go_wp2_with fail
    go_loopw [3, 5] (fun o kv wr => ∃ (k : Nat) (ps : Pth), k ≤ mm ∧ kv = .int .i64 k ∧ SrcP wr q (m + 104) ∧ w.grownBy wr (some q) ∧ PBag wr w.heap.size k o ps ∧ w.heap.size ≤ wr.heap.size) (fun _ kv _ => mm - (intOf kv).toNat)
    case atStart => exact ⟨0, [], by omega, rfl, H3.out.1.mono (by omega), H3.out.2.1, H3.out.2.2, H3.out.2.1.size⟩
    case round =>
      clear H3 hz3
      obtain ⟨k, ps, hk, rfl, hs, hgr, hbag, hz⟩ := hrel
      have HR := Lib.hid (And.intro hs (And.intro hgr hbag))
      clear hs hgr hbag
      by_cases hlt : k < mm
      · go_wp2_with (at_builtin; refine wp_app rfl (.tmp 47) (.tmp 54) 24 rfl w.heap.size 36 (.agg #[.int .i64 0, .int .i64 0]) 2 16 Tryz.underlying24 info_ipt rfl (by omega) _ k (ptCells ps) (by rfl) HR.out.2.2.1 [.int .i64 (20 * k), .int .i64 (1000 - 10 * k)] rfl (by rfl) (by intro u hu; simp at hu; rcases hu with rfl | rfl <;> rfl) (by unfold maxLen; omega) (by omega) (by omega) ?_; intro v' w5 hown5 hgrow5 hv5)
        have hz5 := hgrow5.size
        have HF := Lib.hid (pbag_step HR.out.1 HR.out.2.1 HR.out.2.2 (x := 20 * (k : Int)) (y := 1000 - 10 * (k : Int)) (by omega) (by omega) hq (Nat.le_refl _) hown5 hgrow5)
        clear hown5 hgrow5
        go_roundw
        case rel => exact ⟨k + 1, _, by omega, by go_num, HF.out.1, HF.out.2.1, HF.out.2.2, by omega⟩
        case measure => simp [intOf]; omega
      · obtain rfl : k = mm := by omega
        obtain ⟨A', c', rfl, _⟩ := own_form HR.out.2.2.1
        go_wp2_with fail
        go_ret
        exact ⟨⟨_, _, _, _, rfl, HR.out.2.2, by omega, by omega⟩, HR.out.1.mono (by omega), HR.out.2.1⟩
  · clear hc0 hc1 hf0 hf1
    go_wp2_with fail
    go_ret
    exact ⟨⟨_, _, _, _, rfl, H2.out.2.2, hn1, by omega⟩, H2.out.1.mono (by omega), H2.out.2.1⟩
set_option maxRecDepth 100000 in
theorem l14DrawDistance_d (q m : Nat) (A : Option Addr) (n c B : Nat) (ps : Pth) (w : World) (h : SrcP w q m) (hm : m ≤ 1000000000) (hbag : PBag w B n (.slice A n c) ps) (hn : 1 ≤ n) (hn2 : n ≤ 25) (hq : q < B) :
    Calls Tryz.prog 51 #[.pointer (some ⟨q, 0, none⟩), .slice A n c] w fun e w' => (∃ x : Int, e = .returned (.int .i64 x) ∧ -30000 ≤ x ∧ x ≤ 30001) ∧ SrcP w' q (m + 4) ∧ w.grownBy w' (some q) := by
  obtain ⟨g, c', hv, hgB, hcells, _⟩ := hbag.cells hn
  simp only [Value.slice.injEq] at hv
  obtain ⟨rfl, _, rfl⟩ := hv
  have hc := (hcells (n - 1) (by omega)).1
  have hcb := (hcells (n - 1) (by omega)).2.2.1
  obtain ⟨last, hl⟩ : ∃ last, last = dAt ps (n - 1) := ⟨_, rfl⟩
  rw [← hl] at hc hcb
  have HH := Lib.hid h
  have hk1 : ((n : Int) - 1).toNat = n - 1 := by omega
  have hk2 : (0 : Int) ≤ (n : Int) - 1 := by omega
  have hk2' : (1 : Int) ≤ (n : Int) := by omega
  have hk3 : (n : Int) - 1 < (n : Int) := by omega
  have hn0 : ¬ (n : Int) = 0 := by omega
  clear hcells hbag h hl
  go_enter Tryz.func51, Tryz.ntmps51
  go_wp2_with fail
  refine (one_p _ _ 9 _ HH.out (by omega) (by omega)).mono ?_
  rintro e w1 ⟨⟨b, rfl⟩, hs1, hg1⟩
  have H1 := Lib.hid (And.intro hs1 hg1)
  clear hs1 hg1
  cases b
  · go_wp2_with (first | (go_at_call 86; refine (l00Max_p _ _ _).mono ?_; rintro e w' ⟨rfl, rfl⟩) | (go_at_call 87; refine (l00Min_p _ _ _).mono ?_; rintro e w' ⟨rfl, rfl⟩))
    refine (pick_p _ _ _ _ H1.out.1 (by omega) (by omega)).mono ?_
    rintro e w2 ⟨⟨x, rfl, hx1, hx2⟩, hs2, hg2⟩
    have hx3 : x ≤ 30001 := by omega
    have H2 := Lib.hid (And.intro hs2 (H1.out.2.trans hg2))
    clear hs2 hg2 hx2
    go_wp2_with fail
    go_ret
    exact ⟨⟨x, rfl, by omega, hx3⟩, H2.out.1, H2.out.2⟩
  · go_wp2_with fail
    refine (among_lit _ _ [-1, 0, last, last + 1] _ _ _ _ _ H1.out.1 (by omega) rfl rfl (by simp) (by simp) (by
      intro x hx
      simp only [List.mem_cons, List.not_mem_nil, or_false] at hx
      omega)).mono ?_
    rintro e w2 ⟨⟨x, hx, rfl⟩, hs2, hg2⟩
    have hx3 : -30000 ≤ x ∧ x ≤ 30001 := by
      simp only [List.mem_cons, List.not_mem_nil, or_false] at hx
      omega
    have H2 := Lib.hid (And.intro hs2 (H1.out.2.trans hg2))
    clear hs2 hg2 hx
    go_wp2_with fail
    go_ret
    exact ⟨⟨x, rfl, hx3.1, hx3.2⟩, H2.out.1, H2.out.2⟩
/-- A draw that gives a path and a number. -/
def PathNum (e : Ending) (w' : World) : Prop := ∃ A m c ps, ∃ d : Int, e = .returned (.tuple #[.slice A m c, .int .i64 d]) ∧ Pts w' A m ps ∧ (-30000 ≤ d ∧ d ≤ 30001)
/-- A draw that gives a path and two numbers. -/
def PathNum2 (e : Ending) (w' : World) : Prop := ∃ A m c ps, ∃ a b : Int, e = .returned (.tuple #[.slice A m c, .int .i64 a, .int .i64 b]) ∧ Pts w' A m ps ∧ (0 ≤ a ∧ a ≤ 2001) ∧ (-1 ≤ b ∧ b ≤ 1001)
end Go.Proofs.YtknppcgoooaaaaaGreatDoor
