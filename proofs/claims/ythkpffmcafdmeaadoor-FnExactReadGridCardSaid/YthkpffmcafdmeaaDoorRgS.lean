/-
  Reading a grid: the reference's.
-/
import Derived.Test.YthkpffmcafdmeaaDoorRgM
import Derived.Test.YthkpffmcafdmeaaDoorRlS
import Derived.BigRegion
namespace Go.Proofs.YthkpffmcafdmeaaDoor
open Go.ChangeShapes Go.WideShapes Go.ChangeAt Go.RowKit Go.Deep
set_option linter.unusedVariables false

theorem rl_ints {l : List UInt8} {w : World} {base : Nat} {A : Option Addr} {c : Nat} {xs : List Int} (h : xs = (rl l).getD []) (ho : w.ownsRow base 2 1 (.slice A xs.length c) xs.length (xs.map (.int .i64))) : Ints w A xs.length xs :=
  Ints.of_own ho (by
    intro u hu
    rw [h] at hu
    cases hr : rl l with
    | none => rw [hr] at hu; simp at hu
    | some ys =>
      rw [hr] at hu
      have := (fits_iff.1 (rl_iff.1 hr).1).2 u hu
      omega)
theorem isSome_false {α : Type} {o : Option α} (h : false = o.isSome) : o = none := by
  cases o with
  | none => rfl
  | some _ => cases h
theorem isSome_true {l : List UInt8} {xs : List Int} (h : true = (rl l).isSome) (hx : xs = (rl l).getD []) : rl l = some xs := by
  cases hr : rl l with
  | none => rw [hr] at h; cases h
  | some ys => rw [hr] at hx; rw [hx]; rfl
set_option maxRecDepth 100000 in
set_option maxHeartbeats 6400000 in
theorem ReadGrid_s (s : ByteArray) (w : World) (hs : s.size ≤ 1048576) :
    Calls Tryd.prog 24 #[.string s] w (RgR s.data.toList w) := by
  have hba : Below w.heap.size w (w.alloc (.cells gZ 34)) := (Below.refl _ _).alloc (Nat.le_refl _) _
  have hbk : (w.alloc (.cells gZ 34)).heap[w.heap.size]? = some (.cells gZ 34 (0, 0)) := heap_alloc_new w _
  have hz0 : w.heap.size < (w.alloc (.cells gZ 34)).heap.size := by simp
  have H0 := Lib.hid (And.intro hba (And.intro hbk hz0))
  clear hba hbk hz0
  have hsl : s.data.toList.length = s.size := by rw [Lib.size_eq]
  go_enter Tryd.func24, Tryd.ntmps24
  go_wp2_with fail
  refine (l01Split_s s 58 58 _ (by omega) rfl).mono ?_
  rintro e w1 ⟨A1, c1, PB, rfl, HPB, hstr, hb1⟩
  have HB1 := Lib.hid hb1
  have hbk1 : w1.heap[w.heap.size]? = some (.cells gZ 34 (0, 0)) := (hb1.block _ H0.out.2.2).trans H0.out.2.1
  clear hb1
  by_cases h2 : (spl 58 s.data.toList).length = 2
  rotate_left
  · have HN2 := Lib.hid (rg_len h2)
    obtain ⟨⟨r0, r1, r2, r3⟩, f0, f1, f2, f3⟩ := z_facts hbk1
    have HF := Lib.hid (put4_below (H0.out.1.trans (HB1.out.mono H0.out.1.size)) (Nat.le_refl _) (.int .i64 0) (.int .i64 0) (.int .i64 0) (.slice none 0 0))
    obtain ⟨m, hm⟩ : ∃ m, m = (spl 58 s.data.toList).length := ⟨_, rfl⟩
    rw [← hm] at h2 ⊢
    have h2b : ((m : Int) == 2) = false := by rw [beq_eq_false_iff_ne]; omega
    have h2n : (m == 2) = false := by rw [beq_eq_false_iff_ne]; exact h2
    have h2c : ((m : Int) != 2) = true := by simp [bne, h2b]
    clear hm h2 hstr hbk1
    go_wp2_with fail
    exact bodyPost_ret (v := .tuple #[.agg #[.int .i64 0, .int .i64 0, .int .i64 0, .slice none 0 0], .bool false]) (by simp [results, Tryd.results24, go_sem, *]) rfl (rgr_none HN2.out HF.out)
  obtain ⟨y1, y2, hy⟩ : ∃ y1 y2, spl 58 s.data.toList = [y1, y2] := by
    generalize spl 58 s.data.toList = L at h2
    match L, h2 with
    | [a, b], _ => exact ⟨a, b, rfl⟩
  rw [hy] at hstr HPB ⊢
  obtain ⟨z1, z2, hz⟩ : ∃ z1 z2, PB = [z1, z2] := by
    have h3 := congrArg List.length HPB.out
    simp only [List.length_map, List.length_cons, List.length_nil] at h3
    match PB, h3 with
    | [a, b], _ => exact ⟨a, b, rfl⟩
  subst hz
  have hz12 : z1.data.toList = y1 ∧ z2.data.toList = y2 := by
    have h3 := HPB.out
    simp only [List.map_cons, List.map_nil, List.cons.injEq, and_true] at h3
    exact h3
  obtain ⟨b2, o2, _, rfl, _, _⟩ := hstr.at_ (k := 0) (by simp)
  have hc0 : w1.cell? ⟨b2, o2, none⟩ = some (.string z1) := by
    obtain ⟨_, _, _, e1, e2, e3⟩ := hstr.at_ (k := 0) (by simp)
    injection e1 with e1
    injection e1 with e4 e5 _
    subst e4 e5
    have e6 := e2.out
    simp at e6
    rw [e6]; exact e3
  have hc1 : w1.cell? ⟨b2, o2 + 1, none⟩ = some (.string z2) := by
    obtain ⟨_, _, _, e1, e2, e3⟩ := hstr.at_ (k := 1) (by simp)
    injection e1 with e1
    injection e1 with e4 e5 _
    subst e4 e5
    have e6 := e2.out
    simp at e6
    rw [e6]; exact e3
  have hzs : z1.size ≤ 1048576 ∧ z2.size ≤ 1048576 := by
    have h3 := spl_mem_le 58 s.data.toList y1 (by rw [hy]; simp)
    have h4 := spl_mem_le 58 s.data.toList y2 (by rw [hy]; simp)
    rw [hsl] at h3 h4
    rw [Lib.size_eq z1, Lib.size_eq z2, hz12.1, hz12.2]
    omega
  have HM := Lib.hid (rg_mid hy)
  have HZ := Lib.hid hz12
  have hl2 : [y1, y2].length = 2 := rfl
  clear hstr HPB hz12 h2 hy hbk1 hsl
  go_wp2_with fail
  refine (ReadList_s z1 _ hzs.1).mono ?_
  rintro e w2 ⟨A2, c2, xs, rfl, HX, HO, hb2⟩
  have HB2 := Lib.hid (HB1.out.trans (hb2.mono HB1.out.size))
  have hc1' := cell_kept hb2 hc1
  have hz1' := HB1.out.size
  have HI2 := Lib.hid (rl_ints HX.out HO.out)
  clear hb2 hc0 hc1 HB1 HO
  go_wp2_with fail
  refine (ReadList_s z2 _ hzs.2).mono ?_
  rintro e w3 ⟨A3, c3, hs', rfl, HX3, HO3, hb3⟩
  have HB3 := Lib.hid (HB2.out.trans (hb3.mono HB2.out.size))
  have HB3w := Lib.hid (H0.out.1.trans (HB3.out.mono H0.out.1.size))
  have hz2' := HB2.out.size
  have HOW := Lib.hid (own_base HO3.out hz2')
  have HI3 := Lib.hid (HI2.out.below hb3)
  have HXI := Lib.hid (rl_ints HX3.out HO3.out)
  clear hb3 HB2 HI2 hc1' HO3
  have hbk3 : w3.heap[w.heap.size]? = some (.cells gZ 34 (0, 0)) := (HB3.out.block _ H0.out.2.2).trans H0.out.2.1
  have hlt : w.heap.size < w3.heap.size := (Array.getElem?_eq_some_iff.1 hbk3).1
  have HZF := Lib.hid (z_facts hbk3)
  have HBK := Lib.hid hbk3
  clear hbk3
  obtain ⟨b1, hb1⟩ : ∃ b, b = (rl z1.data.toList).isSome := ⟨_, rfl⟩
  obtain ⟨b3, hb3⟩ : ∃ b, b = (rl z2.data.toList).isSome := ⟨_, rfl⟩
  obtain ⟨m, hm⟩ : ∃ m, m = xs.length := ⟨_, rfl⟩
  obtain ⟨n, hn⟩ : ∃ n, n = hs'.length := ⟨_, rfl⟩
  rw [← hn] at HXI HOW ⊢
  rw [← hb1, ← hb3, ← hm]
  have HS1 := Lib.hid hb1
  have HS3 := Lib.hid hb3
  have HMM := Lib.hid hm
  have HNN := Lib.hid hn
  have HF0 := Lib.hid (put4_below HB3w.out (Nat.le_refl _) (.int .i64 0) (.int .i64 0) (.int .i64 0) (.slice none 0 0))
  clear hb1 hb3 hm hn
  cases b1
  · obtain ⟨⟨r0, r1, r2, r3⟩, f0, f1, f2, f3⟩ := HZF.out
    have HN2 := Lib.hid (rg_none1 (l := s.data.toList) (by rw [HM.out.1, ← HZ.out.1, isSome_false HS1.out]; intro R C S; simp))
    go_wp2_with fail
    exact bodyPost_ret (v := .tuple #[.agg #[.int .i64 0, .int .i64 0, .int .i64 0, .slice none 0 0], .bool false]) (by simp [results, Tryd.results24, go_sem, *]) rfl (rgr_none HN2.out HF0.out)
  cases b3
  · obtain ⟨⟨r0, r1, r2, r3⟩, f0, f1, f2, f3⟩ := HZF.out
    have HN2 := Lib.hid (rg_none2 (l := s.data.toList) (by rw [HM.out.2, ← HZ.out.2, isSome_false HS3.out]))
    go_wp2_with fail
    exact bodyPost_ret (v := .tuple #[.agg #[.int .i64 0, .int .i64 0, .int .i64 0, .slice none 0 0], .bool false]) (by simp [results, Tryd.results24, go_sem, *]) rfl (rgr_none HN2.out HF0.out)
  have HR1 := Lib.hid (isSome_true HS1.out HX.out)
  have HR3 := Lib.hid (isSome_true HS3.out HX3.out)
  by_cases h3 : m = 3
  rotate_left
  · obtain ⟨⟨r0, r1, r2, r3⟩, f0, f1, f2, f3⟩ := HZF.out
    have HN2 := Lib.hid (rg_none1 (l := s.data.toList) (by
      rw [HM.out.1, ← HZ.out.1, HR1.out]
      intro R C S e
      injection e with e
      have := HMM.out
      rw [e] at this
      exact h3 this))
    have h3b : ((m : Int) == 3) = false := by rw [beq_eq_false_iff_ne]; omega
    have h3c : ((m : Int) != 3) = true := by simp [bne, h3b]
    have h3n : (m == 3) = false := by rw [beq_eq_false_iff_ne]; exact h3
    clear h3
    go_wp2_with fail
    exact bodyPost_ret (v := .tuple #[.agg #[.int .i64 0, .int .i64 0, .int .i64 0, .slice none 0 0], .bool false]) (by simp [results, Tryd.results24, go_sem, *]) rfl (rgr_none HN2.out HF0.out)
  subst h3
  obtain ⟨R, C, S, rfl⟩ : ∃ R C S, xs = [R, C, S] := by
    have h3 := HMM.out
    match xs, h3 with
    | [x, y, z], _ => exact ⟨x, y, z, rfl⟩
  obtain ⟨b, off, x0, rfl, hX0, hd0, _, _⟩ := HI3.out.at_ (k := 0) (by simp)
  obtain rfl : x0 = R := by have := hX0.out; simp at this; exact this.symm
  have hd1 : w3.cell? ⟨b, off + 1, none⟩ = some (.int .i64 C) := by
    obtain ⟨_, _, x, e1, e2, e3, _⟩ := HI3.out.at_ (k := 1) (by simp)
    injection e1 with e1
    injection e1 with e4 e5 _
    subst e4 e5
    have e6 := e2.out
    simp at e6
    rw [e6]; exact e3
  have hd2 : w3.cell? ⟨b, off + 2, none⟩ = some (.int .i64 S) := by
    obtain ⟨_, _, x, e1, e2, e3, _⟩ := HI3.out.at_ (k := 2) (by simp)
    injection e1 with e1
    injection e1 with e4 e5 _
    subst e4 e5
    have e6 := e2.out
    simp at e6
    rw [e6]; exact e3
  have hd0' : w3.cell? ⟨b, off, none⟩ = some (.int .i64 x0) := hd0
  have HIB := HI3.out.2.2.1
  have hR : -9223372036854775808 ≤ x0 ∧ x0 ≤ 9223372036854775807 := HIB x0 (by simp)
  have hC : -9223372036854775808 ≤ C ∧ C ≤ 9223372036854775807 := HIB C (by simp)
  have hS : -9223372036854775808 ≤ S ∧ S ≤ 9223372036854775807 := HIB S (by simp)
  have HRCS := Lib.hid (And.intro hR (And.intro hC hS))
  have hbl : b < w3.heap.size := cell_lt hd0'
  have hbn : b ≠ w3.heap.size := by omega
  have hne : w.heap.size ≠ w3.heap.size := by omega
  have hgs := rg_some (l := s.data.toList) (by rw [HM.out.1, ← HZ.out.1]; exact HR1.out) (by rw [HM.out.2, ← HZ.out.2]; exact HR3.out)
  have hb4 : Below w3.heap.size w3 (w3.alloc (.cells #[.int .i64 x0, .int .i64 C, .int .i64 S, .slice A3 n c3] 34)).drew := ((Below.refl _ _).alloc (Nat.le_refl _) _).drew
  have HG4 := Lib.hid (show GridAt (w3.alloc (.cells #[.int .i64 x0, .int .i64 C, .int .i64 S, .slice A3 n c3] 34)).drew w3.heap.size x0 C S A3 n c3 hs' from GridA.box ⟨HXI.out, HRCS.out⟩ 34)
  have HB4 := Lib.hid (And.intro (HB3w.out.trans (hb4.mono HB3w.out.size)) (own_below HOW.out hb4))
  have HK4 := Lib.hid (show (w3.alloc (.cells #[.int .i64 x0, .int .i64 C, .int .i64 S, .slice A3 n c3] 34)).drew.heap[w.heap.size]? = some (.cells gZ 34 (0, 0)) from (hb4.block _ hlt).trans HBK.out)
  clear hb4 hX0 HIB HI3
  cases hg : gridOk x0 C S hs'
  · have HG := Lib.hid hg
    have HN2 := Lib.hid (show rg s.data.toList = none by rw [hgs, hg]; rfl)
    clear hg hgs
    go_wp2_with fail
    go_region
    go_wp2_with fail
    refine (l09Ok_any w3.heap.size x0 C S A3 n c3 hs' _ HG4.out).mono ?_
    rintro e w5 ⟨rfl, hb5⟩
    rw [HG.out]
    have hb5 := below_held hb5
    have hbk5 := (hb5.block _ (Array.getElem?_eq_some_iff.1 HK4.out).1).trans HK4.out
    obtain ⟨⟨r0, r1, r2, r3⟩, f0, f1, f2, f3⟩ := z_facts hbk5
    have HF := Lib.hid (put4_below (HB4.out.1.trans (hb5.mono HB4.out.1.size)) (Nat.le_refl _) (.int .i64 0) (.int .i64 0) (.int .i64 0) (.slice none 0 0))
    clear hb5 hbk5
    go_wp2_with fail
    exact bodyPost_ret (v := .tuple #[.agg #[.int .i64 0, .int .i64 0, .int .i64 0, .slice none 0 0], .bool false]) (by simp [results, Tryd.results24, go_sem, *]) rfl (rgr_none HN2.out HF.out)
  · have HG := Lib.hid hg
    have HN2 := Lib.hid (show rg s.data.toList = some (x0, C, S, hs') by rw [hgs, hg]; rfl)
    clear hg hgs
    go_wp2_with fail
    go_region
    go_wp2_with fail
    refine (l09Ok_any w3.heap.size x0 C S A3 n c3 hs' _ HG4.out).mono ?_
    rintro e w5 ⟨rfl, hb5⟩
    rw [HG.out]
    have hb5 := below_held hb5
    obtain ⟨p0, p1, p2, p3, _⟩ := HG4.out.below hb5
    have hbk5 := (hb5.block _ (Array.getElem?_eq_some_iff.1 HK4.out).1).trans HK4.out
    obtain ⟨⟨r0, r1, r2, r3⟩, f0, f1, f2, f3⟩ := z_facts hbk5
    have HB5 := Lib.hid (And.intro (HB4.out.1.trans (hb5.mono HB4.out.1.size)) (own_below HB4.out.2 hb5))
    have HF := Lib.hid (And.intro (put4_below HB5.out.1 (Nat.le_refl _) (.int .i64 x0) (.int .i64 C) (.int .i64 S) (.slice A3 n c3)) (put4_own HB5.out.2 H0.out.2.2 (.int .i64 x0) (.int .i64 C) (.int .i64 S) (.slice A3 n c3)))
    clear hb5 hbk5
    go_wp2_with fail
    obtain rfl := HNN.out
    exact bodyPost_ret (v := .tuple #[.agg #[.int .i64 x0, .int .i64 C, .int .i64 S, .slice A3 hs'.length c3], .bool true]) (by simp [results, Tryd.results24, go_sem, *]) rfl (rgr_some HN2.out (own_base HF.out.2 (Nat.le_of_lt H0.out.2.2)) HF.out.1)
end Go.Proofs.YthkpffmcafdmeaaDoor
