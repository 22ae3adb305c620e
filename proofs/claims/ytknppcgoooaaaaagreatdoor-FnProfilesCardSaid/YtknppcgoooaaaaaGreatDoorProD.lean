/-
  A profile with a further layer.
-/
import Derived.Test.YtknppcgoooaaaaaGreatDoorProA
import Derived.Deep.DeepCutAuto
import Derived.Deep.RegionLaw
namespace Go.Proofs.YtknppcgoooaaaaaGreatDoor
open Go.ChangeShapes Go.WideShapes Go.ChangeAt Go.RowKit Go.Deep
set_option linter.unusedVariables false

theorem step_app_ly {P : Program} {wz : World} {ops : Array Oper} {o : Oper} {a : Act} {K : Act → World → Prop} {Q : Exit → Act → World → Prop} {E : Prop} (hgd : o.guard = none) (s x : Operand) (t : TypeId)
    (ho : o.op = .call { callee := .builtin .append, args := #[s, x], argTypes := #[t, t] })
    (base : Nat) (e : TypeId) (ht : P.underlying t = some (.slice e)) (hinfo : (P.info? e).map (fun i => (i.zero, i.size, i.bytes)) = some (some (.agg #[.int .i64 0, .int .i64 0, .int .i64 0, .int .i64 0, .int .i64 0, .int .i64 0, .int .i64 0]), 7, 56))
    (v : Value) (n : Nat) (ls : List Ly) (y0 y1 y2 y3 y4 y5 y6 : Int) (hs : a.eval s = v) (hown : wz.ownsRow base e 7 v n (lyCells ls))
    (B : Nat) (hx : a.eval x = .slice (some ⟨B, 0, none⟩) 1 1) (hB : wz.heap[B]? = some (.cells (lyArr y0 y1 y2 y3 y4 y5 y6) e (0, 0))) (hn : n ≤ 1000) (hbase : base ≤ wz.heap.size)
    (h : ∀ v' w', w'.ownsRow base e 7 v' (n + 1) (lyCells (ls ++ [⟨y0, y1, y2, y3, y4, y5, y6⟩])) → wz.grownBy w' v.ownBlock → (∃ g c, v' = .slice (some ⟨g, 0, none⟩) (n + 1) c) → K (a.put o.dst v') w') :
    if Region.wanted o (yielded ops a.tmps) = true then Oper.wp P o a wz K Q else E := by
  obtain ⟨i, hi, hz0, hz1, hz2⟩ := info_parts hinfo
  exact step_append_lies wz hgd s x t ho base e i _ 7 56 ht hi hz0 hz1 hz2 rfl (by omega) v n _ hs hown ⟨B, 0, none⟩ 1 1 [.int .i64 y0, .int .i64 y1, .int .i64 y2, .int .i64 y3, .int .i64 y4, .int .i64 y5, .int .i64 y6] hx rfl (World.news_of_block (cs := lyArr y0 y1 y2 y3 y4 y5 y6) hB)
    (by intro u hu; simp at hu; rcases hu with rfl | rfl | rfl | rfl | rfl | rfl | rfl <;> rfl)
    (by omega) (by unfold maxLen; omega) (by omega) hbase _ rfl (fun g cap w' h1 h2 _ _ => h _ w' (by rw [lyCells_snoc]; exact h1) h2 ⟨g, cap, rfl⟩)
set_option maxRecDepth 100000 in
set_option maxHeartbeats 400000 in
theorem cloneLy_o (A : Option Addr) (n c : Nat) (ls : List Ly) (w : World) (H : Lys w A n ls) :
    Calls Tryz.prog 59 #[.slice A n c] w fun e w' => ∃ A' c', e = .returned (.slice A' n c') ∧ w'.ownsRow w.heap.size 44 7 (.slice A' n c') n (lyCells ls) ∧ Below w.heap.size w w' := by
  have hn := H.2.1
  cases A with
  | none =>
    obtain rfl : n = 0 := by
      rcases Nat.eq_zero_or_pos n with h | h
      · exact h
      · obtain ⟨b, off, e, _⟩ := H.2.2.2 h
        cases e
    obtain rfl : ls = [] := List.length_eq_zero_iff.1 H.1
    have hnil := fun W => Lib.run_eql_slice_nil (P := Tryz.prog) W 41 44 none 0 c 0 0 Tryz.underlying41
    clear H
    go_enter Tryz.func59, Tryz.ntmps59
    go_wp2_with fail
    go_ret
    exact ⟨none, 0, rfl, World.ownsRow_nil _ _ _ _, Below.refl _ _⟩
  | some a =>
    have HL := Lib.hid H.1
    have HC := Lib.hid (H.below ((Below.refl _ _).alloc (Nat.le_refl _) (.cells #[] 44))).cells
    have hown := World.ownsRow_lit (base := w.heap.size) (e := 44) (size := 7) w #[] 0 (Nat.le_refl _) (by simp) rfl
    have hnil := fun W => Lib.run_eql_slice_nil (P := Tryz.prog) W 41 44 (some a) n c 0 0 Tryz.underlying41
    obtain ⟨i0, hi, hz0, hz1, hz2⟩ := info_parts info_ly
    have HO := Lib.hid hown
    clear hown H
    go_enter Tryz.func59, Tryz.ntmps59
    go_wp2_with (at_builtin; refine wpList_append_own _ rfl _ _ 41 rfl w.heap.size 44 i0 (.agg #[.int .i64 0, .int .i64 0, .int .i64 0, .int .i64 0, .int .i64 0, .int .i64 0, .int .i64 0]) 7 56 Tryz.underlying41 hi hz0 hz1 hz2 rfl (by decide) _ 0 [] rfl HO.out a n c (lyCells ls) rfl (by rw [lyCells_length, HL.out]) HC.out (lyCells_one _) (by unfold maxLen; omega) (by omega) (by simp) ?_; intro v' w1 hown1 hgrow1 hv1)
    go_ret
    obtain ⟨A', c', rfl, _⟩ := own_form hown1
    rw [Nat.zero_add, List.nil_append] at hown1
    exact ⟨A', c', by rw [Nat.zero_add]; rfl, hown1, ((Below.refl _ _).alloc (Nat.le_refl _) _).grown hgrow1 (by simp) (fun k hk => (HO.out.lt k hk).1)⟩
set_option maxRecDepth 100000 in
set_option maxHeartbeats 3200000 in
theorem AddLayer_i (A : Option Addr) (n c : Nat) (ls : List Ly) (f i v d t h a : Int) (w : World) (H : Lys w A n ls) (hn15 : n ≤ 15) (B : Lb f i v d t h a) :
    Calls Tryz.prog 24 #[.slice A n c, Lyv f i v d t h a] w fun e w' => ∃ A' c', e = .returned (.tuple #[.slice A' (n + 1) c', .int .i64 0]) ∧ LBag w' 44 w.heap.size A' (n + 1) c' (ls ++ [⟨f, i, v, d, t, h, a⟩]) ∧ Below w.heap.size w w' := by
  have HBB := Lib.hid B
  have hba : Below w.heap.size w (w.alloc (.cells (lyArr f i v d t h a) 44)) := (Below.refl _ _).alloc (Nat.le_refl _) _
  have hla := ly_alloc w f i v d t h a 44
  have HA := Lib.hid (And.intro hba (And.intro hla (H.below hba)))
  have HOK := Lib.hid (show (ls ++ [(⟨f, i, v, d, t, h, a⟩ : Ly)]).length = n + 1 ∧ ∀ x ∈ ls ++ [(⟨f, i, v, d, t, h, a⟩ : Ly)], LyOk x from ⟨by rw [List.length_append, H.1]; rfl, fun x hx => by
    rcases List.mem_append.1 hx with hx | hx
    · exact H.2.2.1 x hx
    · simp at hx; subst hx; exact ly_ok B⟩)
  clear hba hla H B
  go_enter Tryz.func24, Tryz.ntmps24
  obtain ⟨x0, x1, x2, x3, x4, x5, x6⟩ := HA.out.2.1
  simp only [Nat.zero_add] at x1 x2 x3 x4 x5 x6
  go_wp2_with fail
  refine (ValidProfile_t A n _ ls _ HA.out.2.2).mono ?_
  rintro e w1 ⟨rfl, hb1⟩
  have H1 := Lib.hid (And.intro (HA.out.1.trans (hb1.mono HA.out.1.size)) (And.intro (HA.out.2.1.below hb1) (HA.out.2.2.below hb1)))
  clear hb1 x0 x1 x2 x3 x4 x5 x6
  obtain ⟨x0, x1, x2, x3, x4, x5, x6⟩ := H1.out.2.1
  simp only [Nat.zero_add] at x1 x2 x3 x4 x5 x6
  go_wp2_with fail
  refine (ValidLayer_t _ _ _ _ _ _ _ _ HBB.out).mono ?_
  rintro e w2 ⟨rfl, hb2⟩
  have H2 := Lib.hid (And.intro (H1.out.1.trans (hb2.mono H1.out.1.size)) (And.intro (H1.out.2.1.below hb2) (H1.out.2.2.below hb2)))
  clear hb2 x0 x1 x2 x3 x4 x5 x6
  obtain ⟨x0, x1, x2, x3, x4, x5, x6⟩ := H2.out.2.1
  simp only [Nat.zero_add] at x1 x2 x3 x4 x5 x6
  have hnb : ((n : Int) == 16) = false := by rw [beq_eq_false_iff_ne]; omega
  have hnc : (n == 16) = false := by rw [beq_eq_false_iff_ne]; omega
  have hni : ¬ (n : Int) = 16 := by omega
  have hzw := H2.out.1.size
  go_upto_region 5 with (fail)
  go_region_law (first
    | (go_simp; go_at_call 59; refine (cloneLy_o A n _ ls w2.drew (show Lys w2.drew A n ls from H2.out.2.2)).mono ?_; rintro e w3 ⟨A3, c3, rfl, ho3, hb3⟩; have y0 := cell_kept hb3 (show w2.drew.cell? ⟨w.heap.size, 0, none⟩ = _ from x0); have y1 := cell_kept hb3 (show w2.drew.cell? ⟨w.heap.size, 1, none⟩ = _ from x1); have y2 := cell_kept hb3 (show w2.drew.cell? ⟨w.heap.size, 2, none⟩ = _ from x2); have y3 := cell_kept hb3 (show w2.drew.cell? ⟨w.heap.size, 3, none⟩ = _ from x3); have y4 := cell_kept hb3 (show w2.drew.cell? ⟨w.heap.size, 4, none⟩ = _ from x4); have y5 := cell_kept hb3 (show w2.drew.cell? ⟨w.heap.size, 5, none⟩ = _ from x5); have y6 := cell_kept hb3 (show w2.drew.cell? ⟨w.heap.size, 6, none⟩ = _ from x6))
    | (go_simp; go_at_call 59; refine (cloneLy_o A n _ ls _ (H2.out.2.2.below (show Below w2.heap.size w2 (w2.drew.alloc (.cells (lyArr f i v d t h a) 44)) from ((Below.refl _ _).drew).alloc (Nat.le_refl _) _))).mono ?_; rintro e w3 ⟨A3, c3, rfl, ho3, hb3⟩; have hB3 := (hb3.block w2.heap.size (by simp)).trans (heap_alloc_new w2.drew _))
    | (refine step_app_ly rfl (.tmp 20) (.tmp 22) 41 rfl w2.heap.size 44 Tryz.underlying41 info_ly _ n ls f i v d t h a rfl (ho3.alloc _) w3.heap.size rfl (heap_alloc_new w3 _) (by omega) (by have := hb3.size; simp at this ⊢; omega) ?_; intro v' w4 ho4 hg4 hv4)
    | (refine step_app_ly rfl (.tmp 20) (.tmp 22) 41 rfl _ 44 Tryz.underlying41 info_ly _ n ls f i v d t h a rfl ho3 w2.heap.size rfl hB3 (by omega) (by exact hb3.size) ?_; intro v' w4 ho4 hg4 hv4))
  all_goals
    obtain ⟨g4, c4, rfl⟩ := hv4
    have HF := Lib.hid (show Below w.heap.size w w4 ∧ LBag w4 44 w.heap.size (some ⟨g4, 0, none⟩) (n + 1) c4 (ls ++ [⟨f, i, v, d, t, h, a⟩]) from by
      refine ⟨?_, (LBag.of_own ho4 HOK.out.1 (by omega) HOK.out.2).base (by first | omega | (simp; omega))⟩
      first
        | (have hq := (H2.out.1.drew).trans (hb3.mono H2.out.1.drew.size)
           exact (hq.alloc hq.size _).grown hg4 (hq.alloc hq.size _).size (fun g hg => Nat.le_trans hzw (ho3.lt g hg).1))
        | (have hq0 := H2.out.1.drew.alloc H2.out.1.drew.size (.cells (lyArr f i v d t h a) 44)
           have hq := hq0.trans (hb3.mono hq0.size)
           exact hq.grown hg4 hq.size (fun g hg => Nat.le_trans hq0.size (ho3.lt g hg).1)))
    clear ho4 hg4 ho3 hb3
    go_wp2_with fail
    go_ret2
    exact ⟨_, _, rfl, HF.out.2, HF.out.1⟩
end Go.Proofs.YtknppcgoooaaaaaGreatDoor
