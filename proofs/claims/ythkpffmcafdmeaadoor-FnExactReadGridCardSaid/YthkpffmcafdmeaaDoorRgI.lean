/-
  Reading a grid: the program's.
-/
import Derived.Test.YthkpffmcafdmeaaDoorRgM
import Derived.Test.YthkpffmcafdmeaaDoorRlI
import Derived.BigRegion
namespace Go.Proofs.YthkpffmcafdmeaaDoor
open Go.ChangeShapes Go.WideShapes Go.ChangeAt Go.RowKit Go.Deep
set_option linter.unusedVariables false

/-- Three numbers. -/
def RnR (l : List UInt8) (w : World) (e : Ending) (w' : World) : Prop :=
  ∃ A c x y z b, e = .returned (.tuple #[.slice A 3 c, .bool b]) ∧ Hid (if b = true then rl l = some [x, y, z] else ∀ R C S, rl l ≠ some [R, C, S]) ∧ Ints w' A 3 [x, y, z] ∧ Below w.heap.size w w'
set_option maxRecDepth 100000 in
set_option maxHeartbeats 3200000 in
theorem readNumbers_i (s : ByteArray) (w : World) (hE : Env w) (hs : s.size ≤ 1048576) :
    Calls Tryd.prog 78 #[.string s, .int .i64 3] w (RnR s.data.toList w) := by
  have hmk : ∀ W : World, Sem.run Tryd.prog (Instr.makeSlice 29 (.int .i64 3) (.int .i64 3)) W = Result.ok (.slice (some ⟨W.heap.size, 0, none⟩) 3 3) (W.alloc (.cells #[.int .i64 0, .int .i64 0, .int .i64 0] 2)) := fun W => by
    have h := run_make_row' (P := Tryd.prog) 29 2 (.int .i64 0) 8 Tryd.underlying29 info_int rfl .i64 .i64 3 (by omega) (by omega) W
    rw [show madeCells #[Value.int .i64 0] 3 = #[.int .i64 0, .int .i64 0, .int .i64 0] by kernel_rfl] at h
    exact h
  have HZ := fun (W : World) => Lib.hid (show Ints (W.alloc (.cells #[.int .i64 0, .int .i64 0, .int .i64 0] 2)) (some ⟨W.heap.size, 0, none⟩) 3 [0, 0, 0] from ints_lit W [0, 0, 0] #[.int .i64 0, .int .i64 0, .int .i64 0] 2 rfl (by simp) (by intro x hx; simp at hx; omega))
  go_enter Tryd.func78, Tryd.ntmps78
  go_wp2_with fail
  refine (ReadList_i s _ hE hs).mono ?_
  rintro e w1 ⟨A1, c1, xs, rfl, HX, HO, hb1⟩
  have HB := Lib.hid hb1
  clear hb1
  obtain ⟨m, hm⟩ : ∃ m, m = xs.length := ⟨_, rfl⟩
  rw [← hm]
  cases hr : rl s.data.toList with
  | none =>
    have HN := Lib.hid (show ∀ R C S, rl s.data.toList ≠ some [R, C, S] from fun R C S => by rw [hr]; simp)
    have hz := HZ w1
    simp only [Option.isSome_none]
    clear hr hm HO HX HZ
    go_wp2_with fail
    go_ret2
    exact ⟨_, _, 0, 0, 0, false, rfl, HN.out, hz.out, HB.out.alloc HB.out.size _⟩
  | some ys =>
    obtain rfl : xs = ys := by rw [HX.out, hr]; rfl
    simp only [Option.isSome_some]
    by_cases h3 : m = 3
    · obtain ⟨x, y, z, rfl⟩ : ∃ x y z, xs = [x, y, z] := by
        rw [hm] at h3
        match xs, h3 with
        | [x, y, z], _ => exact ⟨x, y, z, rfl⟩
      subst h3
      have HI := Lib.hid (And.intro hr (show Ints w1 A1 3 [x, y, z] from Ints.of_own HO.out (by
        intro u hu
        have := (fits_iff.1 (rl_iff.1 hr).1).2 u hu
        omega)))
      clear hr hm HO HX HZ hmk
      go_wp2_with fail
      go_ret2
      exact ⟨_, _, x, y, z, true, rfl, HI.out.1, HI.out.2, HB.out⟩
    · have HN := Lib.hid (show ∀ R C S, rl s.data.toList ≠ some [R, C, S] from fun R C S e => by
        rw [hr] at e
        injection e with e
        rw [hm, e] at h3
        exact h3 rfl)
      have hz := HZ w1
      have h3b : ((m : Int) == 3) = false := by rw [beq_eq_false_iff_ne]; omega
      have h3c : ((m : Int) != 3) = true := by simp [bne, h3b]
      have h3n : (m == 3) = false := by rw [beq_eq_false_iff_ne]; exact h3
      clear hr hm HO HX HZ h3
      go_wp2_with fail
      go_ret2
      exact ⟨_, _, 0, 0, 0, false, rfl, HN.out, hz.out, HB.out.alloc HB.out.size _⟩
set_option maxRecDepth 100000 in
set_option maxHeartbeats 6400000 in
theorem ReadGrid_i (s : ByteArray) (w : World) (hE : Env w) (hs : s.size ≤ 1048576) :
    Calls Tryd.prog 25 #[.string s] w (RgR s.data.toList w) := by
  have hba : Below w.heap.size w (w.alloc (.cells gZ 34)) := (Below.refl _ _).alloc (Nat.le_refl _) _
  have hbk : (w.alloc (.cells gZ 34)).heap[w.heap.size]? = some (.cells gZ 34 (0, 0)) := heap_alloc_new w _
  have hz0 : w.heap.size < (w.alloc (.cells gZ 34)).heap.size := by simp
  have H0 := Lib.hid (And.intro (hE.below hba) (And.intro hba (And.intro hbk hz0)))
  clear hba hbk hz0 hE
  go_enter Tryd.func25, Tryd.ntmps25
  go_wp2_with fail
  refine (cut_n s 58 _ H0.out.1 hs).mono ?_
  rintro e w1 ⟨z1, z2, fb, rfl, HZ, ⟨hz1, hz2⟩, hb1⟩
  have HB1 := Lib.hid hb1
  clear hb1
  go_wp2_with fail
  refine (readNumbers_i z1 _ (H0.out.1.below HB1.out) hz1).mono ?_
  rintro e w2 ⟨A2, c2, R, C, S, b1, rfl, HR, HI, hb2⟩
  have HB2 := Lib.hid (HB1.out.trans (hb2.mono HB1.out.size))
  clear hb2 HB1
  go_wp2_with fail
  refine (ReadList_i z2 _ (H0.out.1.below HB2.out) hz2).mono ?_
  rintro e w3 ⟨A3, c3, hs', rfl, HX, HO, hb3⟩
  have HB3 := Lib.hid (HB2.out.trans (hb3.mono HB2.out.size))
  have HB3w := Lib.hid (H0.out.2.1.trans (HB3.out.mono H0.out.2.1.size))
  have HI3 := HI.below hb3
  have hz3 := HB3.out.size
  have hz2' := HB2.out.size
  have HOW := Lib.hid (own_base HO.out hz2')
  clear hb3 HB2 HI HO
  obtain ⟨b, off, x0, rfl, hX0, hc0, hx0, hx0'⟩ := HI3.at_ (k := 0) (by omega)
  obtain rfl : x0 = R := by have := hX0.out; simp at this; exact this.symm
  have hc1 : w3.cell? ⟨b, off + 1, none⟩ = some (.int .i64 C) := by
    obtain ⟨_, _, x, e1, e2, e3, _⟩ := HI3.at_ (k := 1) (by omega)
    injection e1 with e1
    injection e1 with e4 e5 _
    subst e4 e5
    have e6 := e2.out
    simp at e6
    rw [e6]; exact e3
  have hc2 : w3.cell? ⟨b, off + 2, none⟩ = some (.int .i64 S) := by
    obtain ⟨_, _, x, e1, e2, e3, _⟩ := HI3.at_ (k := 2) (by omega)
    injection e1 with e1
    injection e1 with e4 e5 _
    subst e4 e5
    have e6 := e2.out
    simp at e6
    rw [e6]; exact e3
  have HIB := HI3.2.2.1
  have hR : -9223372036854775808 ≤ x0 ∧ x0 ≤ 9223372036854775807 := HIB x0 (by simp)
  have hC : -9223372036854775808 ≤ C ∧ C ≤ 9223372036854775807 := HIB C (by simp)
  have hS : -9223372036854775808 ≤ S ∧ S ≤ 9223372036854775807 := HIB S (by simp)
  have HRCS := Lib.hid (And.intro hR (And.intro hC hS))
  have hc0' : w3.cell? ⟨b, off, none⟩ = some (.int .i64 x0) := hc0
  have HXI := Lib.hid (show Ints w3 A3 hs'.length hs' from Ints.of_own HOW.out (by
    intro u hu
    rw [HX.out] at hu
    cases hr : rl z2.data.toList with
    | none => rw [hr] at hu; simp at hu
    | some ys =>
      rw [hr] at hu
      have := (fits_iff.1 (rl_iff.1 hr).1).2 u hu
      omega))
  clear HI3 hX0 HIB hR hC hS
  obtain ⟨n, hn⟩ : ∃ n, n = hs'.length := ⟨_, rfl⟩
  obtain ⟨b2, hb2⟩ : ∃ b2, b2 = (rl z2.data.toList).isSome := ⟨_, rfl⟩
  rw [← hn] at HXI HOW ⊢
  rw [← hb2]
  have HN := Lib.hid (And.intro hn hb2)
  clear hn hb2
  go_wp2_with fail
  have hb4 : Below w3.heap.size w3 (w3.alloc (.cells #[.int .i64 x0, .int .i64 C, .int .i64 S, .slice A3 n c3] 34)).drew := ((Below.refl _ _).alloc (Nat.le_refl _) _).drew
  have HP4 := Lib.hid (show BoxG (w3.alloc (.cells #[.int .i64 x0, .int .i64 C, .int .i64 S, .slice A3 n c3] 34)).drew w3.heap.size x0 C S A3 n c3 from boxG_of w3 x0 C S A3 n c3 34)
  have HG4 := Lib.hid (show GridA (w3.alloc (.cells #[.int .i64 x0, .int .i64 C, .int .i64 S, .slice A3 n c3] 34)).drew x0 C S A3 n hs' from ⟨HXI.out.below hb4, HRCS.out⟩)
  have HB4 := Lib.hid (And.intro hb4 (And.intro (HB3w.out.trans (hb4.mono HB3w.out.size)) (own_below HOW.out hb4)))
  have hbk3 : w3.heap[w.heap.size]? = some (.cells gZ 34 (0, 0)) := (HB3.out.block _ H0.out.2.2.2).trans H0.out.2.2.1
  have HK4 := Lib.hid (show (w3.alloc (.cells #[.int .i64 x0, .int .i64 C, .int .i64 S, .slice A3 n c3] 34)).drew.heap[w.heap.size]? = some (.cells gZ 34 (0, 0)) from (hb4.block _ (Array.getElem?_eq_some_iff.1 hbk3).1).trans hbk3)
  have HE4 := Lib.hid ((H0.out.1.below HB3.out).below hb4)
  have hne : w.heap.size ≠ w3.heap.size := by have := (Array.getElem?_eq_some_iff.1 hbk3).1; omega
  have hlt : w.heap.size < w3.heap.size := (Array.getElem?_eq_some_iff.1 hbk3).1
  have HZF := Lib.hid (z_facts hbk3)
  have hbl : b < w3.heap.size := cell_lt hc0'
  have hbn : b ≠ w3.heap.size := by omega
  clear hb4 hbk3
  cases b1
  · obtain ⟨⟨r0, r1, r2, r3⟩, f0, f1, f2, f3⟩ := HZF.out
    have HN2 := Lib.hid (rg_none1 (l := s.data.toList) (by rw [← HZ.out.1]; exact HR.out))
    have HF := Lib.hid (((put4_below HB3w.out (Nat.le_refl _) (.int .i64 0) (.int .i64 0) (.int .i64 0) (.slice none 0 0)).alloc (put4_below HB3w.out (Nat.le_refl _) (.int .i64 0) (.int .i64 0) (.int .i64 0) (.slice none 0 0)).size (.cells #[.int .i64 x0, .int .i64 C, .int .i64 S, .slice A3 n c3] 34)).drew)
    go_region
    trace_state
    go_wp2_with fail
    exact bodyPost_ret (v := .tuple #[.agg #[.int .i64 0, .int .i64 0, .int .i64 0, .slice none 0 0], .bool false]) (by simp [results, Tryd.results25, go_sem, *]) rfl (rgr_none HN2.out HF.out)
  cases b2
  · obtain ⟨⟨r0, r1, r2, r3⟩, f0, f1, f2, f3⟩ := HZF.out
    have HN2 := Lib.hid (rg_none2 (l := s.data.toList) (by
      rw [← HZ.out.2]
      have := HN.out.2
      cases hr : rl z2.data.toList with
      | none => rfl
      | some _ => rw [hr] at this; cases this))
    have HF := Lib.hid (((put4_below HB3w.out (Nat.le_refl _) (.int .i64 0) (.int .i64 0) (.int .i64 0) (.slice none 0 0)).alloc (put4_below HB3w.out (Nat.le_refl _) (.int .i64 0) (.int .i64 0) (.int .i64 0) (.slice none 0 0)).size (.cells #[.int .i64 x0, .int .i64 C, .int .i64 S, .slice A3 n c3] 34)).drew)
    go_region
    go_wp2_with fail
    exact bodyPost_ret (v := .tuple #[.agg #[.int .i64 0, .int .i64 0, .int .i64 0, .slice none 0 0], .bool false]) (by simp [results, Tryd.results25, go_sem, *]) rfl (rgr_none HN2.out HF.out)
  have HR2 := Lib.hid (show rl z1.data.toList = some [x0, C, S] from HR.out)
  have HX2 := Lib.hid (show rl z2.data.toList = some hs' by
    have h1 := HN.out.2
    have h2 := HX.out
    cases hr : rl z2.data.toList with
    | none => rw [hr] at h1; cases h1
    | some ys => rw [hr] at h2; rw [h2]; rfl)
  have hgt := rg_text (l := s.data.toList) (by rw [← HZ.out.1]; exact HR2.out) (by rw [← HZ.out.2]; exact HX2.out)
  have hgs := rg_some (l := s.data.toList) (by rw [← HZ.out.1]; exact HR2.out) (by rw [← HZ.out.2]; exact HX2.out)
  by_cases hg : gridOk x0 C S hs' = true
  · have HS := Lib.hid (show (⟨(grdS x0 C S hs').toArray⟩ : ByteArray) = s by rw [hgt.2 hg, Lib.mk_data])
    have HN2 := Lib.hid (show rg s.data.toList = some (x0, C, S, hs') by rw [hgs, if_pos hg])
    clear hgt hgs hg
    go_region
    go_wp2_with fail
    refine (GridText_i x0 C S A3 n c3 hs' _ HG4.out HE4.out.tab).mono ?_
    rintro e w5 ⟨rfl, hb5⟩
    rw [HS.out]
    obtain ⟨p0, p1, p2, p3⟩ := HP4.out.below hb5
    have hbk5 := (hb5.block _ (Array.getElem?_eq_some_iff.1 HK4.out).1).trans HK4.out
    obtain ⟨⟨r0, r1, r2, r3⟩, f0, f1, f2, f3⟩ := z_facts hbk5
    have HB5 := Lib.hid (And.intro (HB4.out.2.1.trans (hb5.mono HB4.out.2.1.size)) (own_below HB4.out.2.2 hb5))
    have HF := Lib.hid (And.intro (put4_below HB5.out.1 (Nat.le_refl _) (.int .i64 x0) (.int .i64 C) (.int .i64 S) (.slice A3 n c3)) (put4_own HB5.out.2 H0.out.2.2.2 (.int .i64 x0) (.int .i64 C) (.int .i64 S) (.slice A3 n c3)))
    have HNN := Lib.hid HN.out.1
    clear hb5 hbk5
    go_wp2_with fail
    obtain rfl := HNN.out
    exact bodyPost_ret (v := .tuple #[.agg #[.int .i64 x0, .int .i64 C, .int .i64 S, .slice A3 hs'.length c3], .bool true]) (by simp [results, Tryd.results25, go_sem, *]) rfl (rgr_some HN2.out (own_base HF.out.2 (Nat.le_of_lt H0.out.2.2.2)) HF.out.1)
  · obtain ⟨T, hT⟩ : ∃ T : ByteArray, T = ⟨(grdS x0 C S hs').toArray⟩ := ⟨_, rfl⟩
    have hne2 : T ≠ s := fun e => hg (hgt.1 (by rw [← e, hT]))
    have hq1 : (T.toList == s.toList) = false := (Lib.bytes_beq_false_iff T s).2 hne2
    have hq2 : (T.toList != s.toList) = true := by simp [bne, hq1]
    have HT := Lib.hid hT
    have HN2 := Lib.hid (show rg s.data.toList = none by rw [hgs, if_neg hg])
    clear hgt hgs hg hT hne2
    go_region
    go_wp2_with fail
    refine (GridText_i x0 C S A3 n c3 hs' _ HG4.out HE4.out.tab).mono ?_
    rintro e w5 ⟨rfl, hb5⟩
    rw [← HT.out]
    have hbk5 := (hb5.block _ (Array.getElem?_eq_some_iff.1 HK4.out).1).trans HK4.out
    obtain ⟨⟨r0, r1, r2, r3⟩, f0, f1, f2, f3⟩ := z_facts hbk5
    have HF := Lib.hid (put4_below (HB4.out.2.1.trans (hb5.mono HB4.out.2.1.size)) (Nat.le_refl _) (.int .i64 0) (.int .i64 0) (.int .i64 0) (.slice none 0 0))
    clear hb5 hbk5
    go_wp2_with fail
    exact bodyPost_ret (v := .tuple #[.agg #[.int .i64 0, .int .i64 0, .int .i64 0, .slice none 0 0], .bool false]) (by simp [results, Tryd.results25, go_sem, *]) rfl (rgr_none HN2.out HF.out)
end Go.Proofs.YthkpffmcafdmeaaDoor
