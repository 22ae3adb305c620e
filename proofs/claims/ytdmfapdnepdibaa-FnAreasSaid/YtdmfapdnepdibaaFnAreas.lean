/-
  Proves: for every input the law FnAreas returns true, and its arguments read as before. No condition.
-/
import Derived.Test.YtdmfapdnepdibaaLift
import Derived.Test.YtdmfapdnepdibaaAreaM
import Derived.Test.YtdmfapdnepdibaaR8
namespace Go.Proofs.Ytdmfapdnepdibaa.fnAreas
open Go.ChangeShapes Go.WideShapes Go.ChangeAt Go.RowKit Go.Deep
set_option linter.unusedVariables false

/-- What the law keeps in memory: the grid, the cells, its four answers. -/
structure Fam (w : World) (gb : Nat) (R C : Int) (a : Addr) (n c : Nat) (hs : List Int) (A6 : Option Addr) (m : Nat) (xs : List Int) (A7 A9 A11 A13 : Option Addr) (n7 n9 n11 n13 : Nat) (b7 b9 b11 b13 : List Int) : Prop where
  box : BoxG w gb R C 10 (some a) n c
  grid : GridA w R C 10 (some a) n hs
  cells : Ints w A6 m xs
  i7 : Ints w A7 n7 b7
  i9 : Ints w A9 n9 b9
  i11 : Ints w A11 n11 b11
  i13 : Ints w A13 n13 b13
theorem Fam.below {w w' : World} {gb : Nat} {R C : Int} {a : Addr} {n c : Nat} {hs : List Int} {A6 : Option Addr} {m : Nat} {xs : List Int} {A7 A9 A11 A13 : Option Addr} {n7 n9 n11 n13 : Nat} {b7 b9 b11 b13 : List Int}
    (h : Fam w gb R C a n c hs A6 m xs A7 A9 A11 A13 n7 n9 n11 n13 b7 b9 b11 b13) (hb : Below w.heap.size w w') : Fam w' gb R C a n c hs A6 m xs A7 A9 A11 A13 n7 n9 n11 n13 b7 b9 b11 b13 :=
  ⟨h.box.below hb, h.grid.below hb, h.cells.below hb, h.i7.below hb, h.i9.below hb, h.i11.below hb, h.i13.below hb⟩
theorem codes {R C : Int} {hs xs : List Int} {n : Nat} (hv : gridOk R C 10 hs = true) (hl : hs.length = n) (hp : xs.Pairwise (· < ·)) (hb : ∀ x ∈ xs, 0 ≤ x ∧ x < n) : cellsC R C 10 hs xs = 0 ∧ growC R C 10 hs xs 2 = 0 ∧ growC R C 10 hs xs 5000 = 0 := by
  obtain ⟨_, _, _, hn, _⟩ := gridOk_iff.1 hv
  have hr : risesB xs 0 (R * C - 1) = true := rises_iff.2 ⟨inc_pw hp, allB_iff.2 fun j x hx => by have := hb x (List.mem_of_getElem? hx); omega⟩
  have h2 : inB 2 0 5000 = true := rfl
  have h5 : inB 5000 0 5000 = true := rfl
  exact ⟨by rw [cellsC, if_pos hv, if_pos hr], by rw [growC, if_pos hv, if_pos h2, if_pos hr], by rw [growC, if_pos hv, if_pos h5, if_pos hr]⟩
theorem cellsB_bd (n : Nat) (p : Nat → Bool) (hn : n ≤ 1000) : ∀ x ∈ cellsB n p, -9223372036854775808 ≤ x ∧ x ≤ 9223372036854775807 := fun x hx => by have := cellsB_mem hx; omega
theorem all_snoc {N : List Int} {i : Nat} {x : Int} {p : Int → Bool} (h : N[i]? = some x) : (N.take (i + 1)).all p = ((N.take i).all p && p x) := by
  rw [List.take_add_one, h, List.all_append]; simp
theorem any_snoc {N : List Int} {i : Nat} {x : Int} {p : Int → Bool} (h : N[i]? = some x) : (N.take (i + 1)).any p = ((N.take i).any p || p x) := by
  rw [List.take_add_one, h, List.any_append]; simp
theorem has_b (A : Option Addr) (n c : Nat) (v : Int) (xs : List Int) (b : Bool) (w : World) (h : Ints w A n xs) (hb : hasB xs v = b) :
    Calls Try.prog 16 #[.slice A n c, .int .i64 v] w fun e w' => e = .returned (.bool b) ∧ Below w.heap.size w w' :=
  (r8Has_any A n c v xs w h).mono fun e w' ⟨he, q, hw⟩ => ⟨by rw [he, hb], by rw [hw]; exact below_drewN (Below.refl _ _) _⟩
set_option maxRecDepth 100000 in
set_option maxHeartbeats 8000000 in
theorem walk (A0 : Option Addr) (n0 c0 : Nat) (z0 : Unit) (A1 : Option Addr) (n1 c1 : Nat) (z1 : Unit) (w : World) (h0 : Byts w A0 n0) (h1 : Byts w A1 n1) :
    Calls Try.prog 3 #[.slice A0 n0 c0, .slice A1 n1 c1] w fun e w' => e = .returned (.bool true) ∧ Below w.heap.size w w' := by
  have hm0 := h0.1
  have hm1 := h1.1
  by_cases hn : n0 ≤ 1048576 ∧ n1 ≤ 1048576
  rotate_left
  · have HN := Lib.hid hn
    clear hn
    go_enter Try.func3, Try.ntmps3
    go_wp2_with (go_at_call 8; refine (r8Long_yes _ _ _ _ _ _ _ hm0 hm1 HN.out).mono ?_; rintro e w' ⟨rfl, rfl⟩)
    go_ret
    exact ⟨rfl, Below.refl _ _⟩
  obtain ⟨hn0, hn1⟩ := hn
  have HH := Lib.hid (And.intro h0 h1)
  clear h0 h1
  go_enter Try.func3, Try.ntmps3
  go_wp2_with (go_at_call 8; refine (r8Long_no _ _ _ _ _ _ _ hn0 hn1).mono ?_; rintro e w' ⟨rfl, rfl⟩)
  refine (R8Grid_d _ _ _ _ HH.out.1).mono ?_
  rintro e w1 ⟨⟨R, C, a, n, c, hs, rfl, hga, hok, hn20, _⟩, hb1⟩
  have hba : Below w1.heap.size w1 (w1.alloc (.cells (gArr R C (.slice (some a) n c)) 26)) := (Below.refl _ _).alloc (Nat.le_refl _) _
  have HV := Lib.hid hok
  have H1 := Lib.hid (And.intro (hb1.trans (hba.mono hb1.size)) (And.intro (boxG_of w1 R C 10 (some a) n c 26) (And.intro (hga.below hba) (HH.out.2.below (hb1.trans (hba.mono hb1.size))))))
  clear hb1 hga hok hba
  go_wp2_with fail
  refine (R8Cells_d _ _ _ R C (some a) n c _ H1.out.2.2.2 hn20).mono ?_
  rintro e w3 ⟨⟨a6, m, d, xs, rfl, hxi, hpw, hxb⟩, hb3⟩
  have HX := Lib.hid (And.intro hpw (And.intro hxb hxi.1))
  have HK := Lib.hid (codes HV.out H1.out.2.2.1.1.1 hpw hxb)
  have H3 := Lib.hid (And.intro (H1.out.1.trans (hb3.mono H1.out.1.size)) (And.intro (H1.out.2.1.below hb3) (And.intro (H1.out.2.2.1.below hb3) hxi)))
  have hm63 := hxi.2.1
  have hmn : m ≤ n := by
    have h1 := pw_len hpw hxb (by omega)
    have h2 := hxi.1
    omega
  clear hb3 hxi hpw hxb
  obtain ⟨p0, p1, p2, p3⟩ := H3.out.2.1
  go_wp2_with fail
  refine (BorderOf_i R C 10 (some a) n c a6 m d hs xs _ H3.out.2.2.1 H3.out.2.2.2).mono ?_
  rintro e w4 ⟨A7, c7, rfl, hf, hb⟩
  rw [HK.out.1] at hf ⊢
  rw [borderR_yes rfl] at hf ⊢
  obtain ⟨b7, hb7⟩ : ∃ b7, b7 = keptTo (innerB R C xs) xs m := ⟨_, rfl⟩
  rw [← hb7] at hf ⊢
  have H4 := Lib.hid (And.intro (H3.out.1.trans (hb.mono H3.out.1.size)) (And.intro (H3.out.2.1.below hb) (And.intro (H3.out.2.2.1.below hb) (And.intro (H3.out.2.2.2.below hb) (hf.ints (fun x hx => by
    rw [hb7] at hx
    have := HX.out.2.1 x (List.mem_of_mem_take (List.mem_filter.1 hx).1)
    omega))))))
  have HB7 := Lib.hid hb7
  clear hf hb hb7 p0 p1 p2 p3
  obtain ⟨p0, p1, p2, p3⟩ := H4.out.2.1
  go_wp2_with fail
  refine (GrowCells_i R C 10 (some a) n c (some a6) m d 2 hs xs _ H4.out.2.2.1 H4.out.2.2.2.1).mono ?_
  rintro e w5 ⟨A9, c9, rfl, hf, hb⟩
  rw [HK.out.2.1] at hf ⊢
  rw [cellsR_yes rfl] at hf ⊢
  obtain ⟨b9, hb9⟩ : ∃ b9, b9 = cellsB n (growP R C hs xs 2) := ⟨_, rfl⟩
  rw [← hb9] at hf ⊢
  have H5 := Lib.hid (And.intro (H4.out.1.trans (hb.mono H4.out.1.size)) (And.intro (H4.out.2.1.below hb) (And.intro (H4.out.2.2.1.below hb) (And.intro (H4.out.2.2.2.1.below hb) (And.intro (H4.out.2.2.2.2.below hb) (hf.ints (by rw [hb9]; exact cellsB_bd _ _ (by omega))))))))
  have HB9 := Lib.hid hb9
  clear hf hb hb9 p0 p1 p2 p3
  obtain ⟨p0, p1, p2, p3⟩ := H5.out.2.1
  go_wp2_with fail
  refine (GrowCells_i R C 10 (some a) n c (some a6) m d 5000 hs xs _ H5.out.2.2.1 H5.out.2.2.2.1).mono ?_
  rintro e w6 ⟨A11, c11, rfl, hf, hb⟩
  rw [HK.out.2.2] at hf ⊢
  rw [cellsR_yes rfl] at hf ⊢
  obtain ⟨b11, hb11⟩ : ∃ b11, b11 = cellsB n (growP R C hs xs 5000) := ⟨_, rfl⟩
  rw [← hb11] at hf ⊢
  have H6 := Lib.hid (And.intro (H5.out.1.trans (hb.mono H5.out.1.size)) (And.intro (H5.out.2.1.below hb) (And.intro (H5.out.2.2.1.below hb) (And.intro (H5.out.2.2.2.1.below hb) (And.intro (H5.out.2.2.2.2.1.below hb) (And.intro (H5.out.2.2.2.2.2.below hb) (hf.ints (by rw [hb11]; exact cellsB_bd _ _ (by omega)))))))))
  have HB11 := Lib.hid hb11
  clear hf hb hb11 p0 p1 p2 p3
  obtain ⟨p0, p1, p2, p3⟩ := H6.out.2.1
  go_wp2_with fail
  refine (AboveCells_i R C 10 (some a) n c (some a6) m d hs xs _ H6.out.2.2.1 H6.out.2.2.2.1).mono ?_
  rintro e w7 ⟨A13, c13, rfl, hf, hb⟩
  rw [HK.out.1] at hf ⊢
  rw [cellsR_yes rfl] at hf ⊢
  obtain ⟨b13, hb13⟩ : ∃ b13, b13 = cellsB n (aboveP R C 10 hs xs) := ⟨_, rfl⟩
  rw [← hb13] at hf ⊢
  have HF := Lib.hid (show Fam w7 w1.heap.size R C a n c hs (some a6) m xs A7 A9 A11 A13 b7.length b9.length b11.length b13.length b7 b9 b11 b13 from
    ⟨H6.out.2.1.below hb, H6.out.2.2.1.below hb, H6.out.2.2.2.1.below hb, H6.out.2.2.2.2.1.below hb, H6.out.2.2.2.2.2.1.below hb, H6.out.2.2.2.2.2.2.below hb, hf.ints (by rw [hb13]; exact cellsB_bd _ _ (by omega))⟩)
  have HBW := Lib.hid (H6.out.1.trans (hb.mono H6.out.1.size))
  have HB13 := Lib.hid hb13
  clear hf hb hb13 p0 p1 p2 p3
  go_wp2_with fail
  go_loopw [15] (fun kv wr => ∃ k : Nat, k ≤ n ∧ kv = .int .i64 k ∧ Hid (Fam wr w1.heap.size R C a n c hs (some a6) m xs A7 A9 A11 A13 b7.length b9.length b11.length b13.length b7 b9 b11 b13) ∧ Below w7.heap.size w7 wr) (fun kv _ => n - (intOf kv).toNat)
  case atStart => exact ⟨0, Nat.zero_le _, rfl, HF.out, Below.refl _ _⟩
  case round =>
    clear H1 H3 H4 H5 H6 HF HH HK
    obtain ⟨k, hk, rfl, HF, hbl⟩ := hrel
    have HBL := Lib.hid hbl
    clear hbl
    obtain ⟨p0, p1, p2, p3⟩ := HF.out.box
    by_cases hlt : k < n
    rotate_left
    · obtain rfl : k = n := by omega
      have HE := Lib.hid (HBW.out.trans (HBL.out.mono HBW.out.size))
      go_wp2_with fail
      go_ret
      exact ⟨rfl, HE.out⟩
    have hki : (k : Int) < (n : Int) := by omega
    obtain ⟨q1, q2, q3, q4, q5, q6, q7⟩ := area_law (xs := xs) HV.out HX.out.2.2 hlt
    have HQ := Lib.hid (And.intro q1 (And.intro q2 (And.intro q3 (And.intro q4 (And.intro q5 (And.intro q6 q7))))))
    clear q1 q2 q3 q4 q5 q6 q7
    go_wp2_with fail
    refine (NeighboursOf_t R C 10 (some a) n c k hs _ HF.out.grid HV.out hlt).mono ?_
    rintro e wa ⟨A16, c16, rfl, hi16, hba⟩
    have HFa := Lib.hid (HF.out.below hba)
    have HBa := Lib.hid (HBL.out.trans (hba.mono HBL.out.size))
    obtain ⟨N, hN⟩ : ∃ N, N = near R C (k : Int) := ⟨_, rfl⟩
    rw [← hN] at hi16 HQ ⊢
    have HN := Lib.hid hi16
    have hn16 := hi16.2.1
    clear hba hi16 hN p0 p1 p2 p3
    obtain ⟨p0, p1, p2, p3⟩ := HFa.out.box
    go_wp2_with fail
    refine (DescentOf_t R C 10 (some a) n c k hs _ HFa.out.grid HV.out hlt).mono ?_
    rintro e wb ⟨A18, c18, rfl, hi18, hbb⟩
    have HFb := Lib.hid (HFa.out.below hbb)
    have HBb := Lib.hid (HBa.out.trans (hbb.mono HBa.out.size))
    obtain ⟨D, hD⟩ : ∃ D, D = descL R C 10 hs (k : Int) := ⟨_, rfl⟩
    rw [← hD] at hi18 HQ ⊢
    have HND := Lib.hid (And.intro (HN.out.below hbb) hi18)
    have hn18 := hi18.2.1
    obtain ⟨I, hI⟩ : ∃ I, I = hasB xs (k : Int) := ⟨_, rfl⟩
    rw [← hI] at HQ
    have HI := Lib.hid hI
    clear hbb hi18 hD p0 p1 p2 p3 hI
    go_wp2_with fail
    refine (has_b _ _ _ _ xs I _ HFb.out.cells HI.out.symm).mono ?_
    rintro e wc ⟨rfl, hbc⟩
    have HFc := Lib.hid (HFb.out.below hbc)
    have HBc := Lib.hid (HBb.out.trans (hbc.mono HBb.out.size))
    have HNc := Lib.hid (And.intro (HND.out.1.below hbc) (HND.out.2.below hbc))
    clear hbc
    go_wp2_with fail
    go_loopw [21, 22, 23] (fun v1 v2 iv wr => ∃ (i : Nat) (x1 x2 : Bool), i ≤ N.length ∧ iv = .int .i64 i ∧ v1 = .bool x1 ∧ v2 = .bool x2 ∧ Hid (x1 = (((N.length : Int) == 8) && (N.take i).all (hasB xs))) ∧ Hid (x2 = (I || (N.take i).any (hasB xs))) ∧ Hid (Fam wr w1.heap.size R C a n c hs (some a6) m xs A7 A9 A11 A13 b7.length b9.length b11.length b13.length b7 b9 b11 b13) ∧ Hid (Ints wr A16 N.length N ∧ Ints wr A18 D.length D) ∧ Below wc.heap.size wc wr) (fun _ _ iv _ => N.length - (intOf iv).toNat)
    case atStart => exact ⟨0, _, _, Nat.zero_le _, rfl, rfl, rfl, by show _ = _; simp, by show _ = _; simp, HFc.out, HNc.out, Below.refl _ _⟩
    case round =>
      clear HFc HNc HF HFa HFb HND HN
      obtain ⟨i, x1, x2, hi, rfl, rfl, rfl, HX1, HX2, HFr, HNr, hblr⟩ := hrel
      have HBr := Lib.hid hblr
      clear hblr
      by_cases hil : i < N.length
      · obtain ⟨b, off, x, rfl, HXX, hc, hx1, hx2⟩ := HNr.out.1.at_ hil
        have hii : (i : Int) < (N.length : Int) := by omega
        obtain ⟨y, hy⟩ : ∃ y, y = hasB xs x := ⟨_, rfl⟩
        have HY := Lib.hid (And.intro hy (And.intro (all_snoc (p := hasB xs) HXX.out) (any_snoc (p := hasB xs) HXX.out)))
        clear hy
        cases x1 <;> cases x2
        · go_wp2_with fail
          refine (has_b _ _ _ _ xs y _ HFr.out.cells HY.out.1.symm).mono ?_
          rintro e wx ⟨rfl, hbx⟩
          have HFx := Lib.hid (And.intro (HFr.out.below hbx) (And.intro (And.intro (HNr.out.1.below hbx) (HNr.out.2.below hbx)) (HBr.out.trans (hbx.mono HBr.out.size))))
          clear hbx hc
          go_wp2_with fail
          go_roundw
          case rel => exact ⟨i + 1, _, _, by omega, by go_num, rfl, rfl, by rw [HY.out.2.1, ← Bool.and_assoc, ← HX1.out]; exact Lib.hid rfl, by rw [HY.out.2.2, ← Bool.or_assoc, ← HX2.out, ← HY.out.1]; exact Lib.hid (by simp), HFx.out.1, HFx.out.2.1, HFx.out.2.2⟩
          case measure => simp [intOf]; omega
        · go_wp2_with fail
          go_roundw
          case rel => exact ⟨i + 1, _, _, by omega, by go_num, rfl, rfl, by rw [HY.out.2.1, ← Bool.and_assoc, ← HX1.out]; exact Lib.hid rfl, by rw [HY.out.2.2, ← Bool.or_assoc, ← HX2.out]; exact Lib.hid (by simp), HFr.out, HNr.out, HBr.out⟩
          case measure => simp [intOf]; omega
        · go_wp2_with fail
          refine (has_b _ _ _ _ xs y _ HFr.out.cells HY.out.1.symm).mono ?_
          rintro e wx ⟨rfl, hbx⟩
          have HFx := Lib.hid (And.intro (HFr.out.below hbx) (And.intro (And.intro (HNr.out.1.below hbx) (HNr.out.2.below hbx)) (HBr.out.trans (hbx.mono HBr.out.size))))
          have hcx := cell_kept hbx hc
          clear hbx hc
          go_wp2_with fail
          refine (has_b _ _ _ _ xs y _ HFx.out.1.cells HY.out.1.symm).mono ?_
          rintro e wy ⟨rfl, hby⟩
          have HFy := Lib.hid (And.intro (HFx.out.1.below hby) (And.intro (And.intro (HFx.out.2.1.1.below hby) (HFx.out.2.1.2.below hby)) (HFx.out.2.2.trans (hby.mono HFx.out.2.2.size))))
          clear hby hcx
          go_wp2_with fail
          go_roundw
          case rel => exact ⟨i + 1, _, _, by omega, by go_num, rfl, rfl, by rw [HY.out.2.1, ← Bool.and_assoc, ← HX1.out, ← HY.out.1]; exact Lib.hid (by simp), by rw [HY.out.2.2, ← Bool.or_assoc, ← HX2.out, ← HY.out.1]; exact Lib.hid (by simp), HFy.out.1, HFy.out.2.1, HFy.out.2.2⟩
          case measure => simp [intOf]; omega
        · go_wp2_with fail
          refine (has_b _ _ _ _ xs y _ HFr.out.cells HY.out.1.symm).mono ?_
          rintro e wx ⟨rfl, hbx⟩
          have HFx := Lib.hid (And.intro (HFr.out.below hbx) (And.intro (And.intro (HNr.out.1.below hbx) (HNr.out.2.below hbx)) (HBr.out.trans (hbx.mono HBr.out.size))))
          clear hbx hc
          go_wp2_with fail
          go_roundw
          case rel => exact ⟨i + 1, _, _, by omega, by go_num, rfl, rfl, by rw [HY.out.2.1, ← Bool.and_assoc, ← HX1.out, ← HY.out.1]; exact Lib.hid (by simp), by rw [HY.out.2.2, ← Bool.or_assoc, ← HX2.out]; exact Lib.hid (by simp), HFx.out.1, HFx.out.2.1, HFx.out.2.2⟩
          case measure => simp [intOf]; omega
      · obtain rfl : i = N.length := by omega
        have hX1 : x1 = innerN xs N := by rw [HX1.out, List.take_length]; unfold innerN; congr 1; apply bool_iff; simp; omega
        have hX2 : x2 = (I || N.any (hasB xs)) := by rw [HX2.out, List.take_length]
        have HXX := Lib.hid (And.intro hX1 hX2)
        clear hX1 hX2 HX1 HX2
        go_wp2_with fail
        go_loopw [24, 25] (fun v1 iv wr => ∃ (i : Nat) (x1 : Bool), i ≤ D.length ∧ iv = .int .i64 i ∧ v1 = .bool x1 ∧ Hid (x1 = (D.take i).any (hasB xs)) ∧ Hid (Fam wr w1.heap.size R C a n c hs (some a6) m xs A7 A9 A11 A13 b7.length b9.length b11.length b13.length b7 b9 b11 b13) ∧ Hid (Ints wr A18 D.length D) ∧ Below wc.heap.size wc wr) (fun _ iv _ => D.length - (intOf iv).toNat)
        case atStart => exact ⟨0, _, Nat.zero_le _, rfl, rfl, by show _ = _; simp, HFr.out, HNr.out.2, HBr.out⟩
        case round =>
          clear HFr HNr HBr hil hi
          obtain ⟨i, l1, hi, rfl, rfl, HL1, HFr, HNr, hblr⟩ := hrel
          have HBr := Lib.hid hblr
          clear hblr
          by_cases hil : i < D.length
          · obtain ⟨b, off, x, rfl, HXX2, hc, hx1, hx2⟩ := HNr.out.at_ hil
            have hii : (i : Int) < (D.length : Int) := by omega
            obtain ⟨y, hy⟩ : ∃ y, y = hasB xs x := ⟨_, rfl⟩
            have HY := Lib.hid (And.intro hy (any_snoc (p := hasB xs) HXX2.out))
            clear hy
            cases l1
            · go_wp2_with fail
              refine (has_b _ _ _ _ xs y _ HFr.out.cells HY.out.1.symm).mono ?_
              rintro e wx ⟨rfl, hbx⟩
              have HFx := Lib.hid (And.intro (HFr.out.below hbx) (And.intro (HNr.out.below hbx) (HBr.out.trans (hbx.mono HBr.out.size))))
              clear hbx hc
              go_wp2_with fail
              go_roundw
              case rel => exact ⟨i + 1, _, by omega, by go_num, rfl, by rw [HY.out.2, ← HL1.out, ← HY.out.1]; exact Lib.hid (by simp), HFx.out.1, HFx.out.2.1, HFx.out.2.2⟩
              case measure => simp [intOf]; omega
            · go_wp2_with fail
              go_roundw
              case rel => exact ⟨i + 1, _, by omega, by go_num, rfl, by rw [HY.out.2, ← HL1.out]; exact Lib.hid (by simp), HFr.out, HNr.out, HBr.out⟩
              case measure => simp [intOf]; omega
          · obtain rfl : i = D.length := by omega
            have hl1 : l1 = D.any (hasB xs) := by rw [HL1.out, List.take_length]
            have HZ := Lib.hid (And.intro HFr.out HBr.out)
            obtain ⟨k1, k2, k3, k4, k5, k6, k7⟩ := HQ.out
            rw [← HB7.out, ← HXX.out.1] at k1
            rw [← HB11.out, ← HXX.out.2] at k2
            rw [← HB9.out] at k3
            rw [← HB13.out, ← hl1] at k4
            rw [← HXX.out.2] at k6 k7
            obtain ⟨G, hG⟩ : ∃ G, G = growP R C hs xs 2 k := ⟨_, rfl⟩
            rw [← hG] at k3 k5 k7
            have K := Lib.hid (And.intro k1 (And.intro k2 (And.intro k3 k4)))
            clear hl1 HL1 HFr HBr HNr HXX hG k1 k2 k3 k4 HI HQ hil
            cases I
            · clear k5 k6
              have hcs : (x2 = false ∧ G = false) ∨ (x2 = true ∧ G = false) ∨ (x2 = true ∧ G = true) := by cases x2 <;> cases G <;> simp_all
              clear k7
              rcases hcs with ⟨rfl, rfl⟩ | ⟨rfl, rfl⟩ | ⟨rfl, rfl⟩ <;> cases l1
              all_goals
                have E7 := Lib.hid K.out.1
                have E11 := Lib.hid K.out.2.1
                have E9 := Lib.hid K.out.2.2.1
                have E13 := Lib.hid K.out.2.2.2
                simp only [Bool.false_and, Bool.not_false, Bool.and_true] at E7 E11 E9 E13
                clear K
                go_wp2_with (first | (go_at_call 16; (with_reducible refine (has_b A7 _ _ _ b7 _ _ HZ.out.1.i7 E7.out).mono ?_); rintro e w' ⟨rfl, hb'⟩; replace HZ := Lib.hid (And.intro (HZ.out.1.below hb') (HZ.out.2.trans (hb'.mono HZ.out.2.size))); clear hb') | (go_at_call 16; (with_reducible refine (has_b A11 _ _ _ b11 _ _ HZ.out.1.i11 E11.out).mono ?_); rintro e w' ⟨rfl, hb'⟩; replace HZ := Lib.hid (And.intro (HZ.out.1.below hb') (HZ.out.2.trans (hb'.mono HZ.out.2.size))); clear hb') | (go_at_call 16; (with_reducible refine (has_b A9 _ _ _ b9 _ _ HZ.out.1.i9 E9.out).mono ?_); rintro e w' ⟨rfl, hb'⟩; replace HZ := Lib.hid (And.intro (HZ.out.1.below hb') (HZ.out.2.trans (hb'.mono HZ.out.2.size))); clear hb') | (go_at_call 16; (with_reducible refine (has_b A13 _ _ _ b13 _ _ HZ.out.1.i13 E13.out).mono ?_); rintro e w' ⟨rfl, hb'⟩; replace HZ := Lib.hid (And.intro (HZ.out.1.below hb') (HZ.out.2.trans (hb'.mono HZ.out.2.size))); clear hb'))
                go_roundw
                case rel => exact ⟨k + 1, by omega, by go_num, HZ.out.1, HBc.out.trans (HZ.out.2.mono HBc.out.size)⟩
                case measure => simp [intOf]; omega
            · obtain rfl : G = true := k5 rfl
              obtain rfl : x2 = true := k6 rfl
              clear k5 k6 k7
              cases x1 <;> cases l1
              all_goals
                have E7 := Lib.hid K.out.1
                have E11 := Lib.hid K.out.2.1
                have E9 := Lib.hid K.out.2.2.1
                have E13 := Lib.hid K.out.2.2.2
                simp only [Bool.and_false, Bool.true_and, Bool.not_false, Bool.not_true] at E7 E11 E9 E13
                clear K
                go_wp2_with (first | (go_at_call 16; (with_reducible refine (has_b A7 _ _ _ b7 _ _ HZ.out.1.i7 E7.out).mono ?_); rintro e w' ⟨rfl, hb'⟩; replace HZ := Lib.hid (And.intro (HZ.out.1.below hb') (HZ.out.2.trans (hb'.mono HZ.out.2.size))); clear hb') | (go_at_call 16; (with_reducible refine (has_b A11 _ _ _ b11 _ _ HZ.out.1.i11 E11.out).mono ?_); rintro e w' ⟨rfl, hb'⟩; replace HZ := Lib.hid (And.intro (HZ.out.1.below hb') (HZ.out.2.trans (hb'.mono HZ.out.2.size))); clear hb') | (go_at_call 16; (with_reducible refine (has_b A9 _ _ _ b9 _ _ HZ.out.1.i9 E9.out).mono ?_); rintro e w' ⟨rfl, hb'⟩; replace HZ := Lib.hid (And.intro (HZ.out.1.below hb') (HZ.out.2.trans (hb'.mono HZ.out.2.size))); clear hb') | (go_at_call 16; (with_reducible refine (has_b A13 _ _ _ b13 _ _ HZ.out.1.i13 E13.out).mono ?_); rintro e w' ⟨rfl, hb'⟩; replace HZ := Lib.hid (And.intro (HZ.out.1.below hb') (HZ.out.2.trans (hb'.mono HZ.out.2.size))); clear hb'))
                go_roundw
                case rel => exact ⟨k + 1, by omega, by go_num, HZ.out.1, HBc.out.trans (HZ.out.2.mono HBc.out.size)⟩
                case measure => simp [intOf]; omega

set_option maxRecDepth 100000 in
theorem lifted (os : Os) (started : os.Started) (H : Type) (enc : TypeId × Value → H) :
    ReturnsInHanded {} Try.checked os 3 .any (Rows.fnAreasSpec.pre6 enc Try.prog Try.f3 Rows.fnAreasRow.domain false) (Rows.fnAreasSpec.post enc Try.prog Try.f3 false true false false) := by
  refine returnsInHanded_of_change (C := Try.checked) own started (by kernel_rfl) Try.func3
    (ChangeSpec.witness6 (enc := enc) (C := Try.checked) false ⟨#[], #[.slice none 0 0, .slice none 0 0], []⟩ 8 (by kernel_rfl) (by kernel_rfl) (by kernel_rfl) (by kernel_rfl)) ?_
  intro W base args ds gs before hval0 hW hcnd _
  have hval : ∀ (j : Nat) t v, Try.f3.params[j]? = some t → args[j]? = some v → Value.okWide Try.prog W .any base t v := hval0
  have hW' := hW
  obtain ⟨p, q, hA0, hV, rfl, hfz, hnd⟩ := hW
  have hA : DataW.TrodAll enc Try.prog W 0 (fun _ => true) true Try.f3.params.toList args.toList ds p := hA0
  rw [Try.params3] at hA hval
  obtain ⟨v0, vs0, d0, ds0, p0, q0, hargs, rfl, rfl, h0, r0⟩ := trodAll_cons hA
  obtain ⟨v1, vs1, d1, ds1, p1, q1, rfl, rfl, rfl, h1, r1⟩ := trodAll_cons r0
  obtain ⟨rfl, rfl, rfl⟩ := trodAll_nil r1
  obtain rfl : args = #[v0, v1] := by cases args; simp_all
  obtain ⟨rfl, rfl⟩ := trodVars_none hV
  have k0 := h0
  have lt0 : ∀ x ∈ p0, x.block < W.heap.size := by obtain ⟨m, hm⟩ := k0; exact DataW.trod_lt m _ _ _ hm
  obtain ⟨a0, n0, c0, rfl⟩ := okWide_slice Try.underlying22 (hval 0 22 v0 rfl rfl)
  obtain ⟨z0, w0⟩ := bytes_open Try.underlying22 Try.underlying5 (by kernel_rfl) h0
  have k1 := h1
  have lt1 : ∀ x ∈ p1, x.block < W.heap.size := by obtain ⟨m, hm⟩ := k1; exact DataW.trod_lt m _ _ _ hm
  obtain ⟨a1, n1, c1, rfl⟩ := okWide_slice Try.underlying22 (hval 1 22 v1 rfl rfl)
  obtain ⟨z1, w1⟩ := bytes_open Try.underlying22 Try.underlying5 (by kernel_rfl) h1
  clear hA0 hval0
  refine (walk a0 n0 c0 z0 a1 n1 c1 z1 W w0 w1).mono fun e W' ⟨he, bel⟩ => ?_
  subst he
  exact ⟨_, rfl, _, _, _, [], _, [], hW', trodAll_mk1 (shut_bool Try.underlying4 _), (trodAll_cons_mk (Below.trod laidOut (by kernel_rfl) (of_decide_eq_true (by kernel_rfl)) k0 bel lt0) (trodAll_cons_mk (Below.trod laidOut (by kernel_rfl) (of_decide_eq_true (by kernel_rfl)) k1 bel lt1) trodAll_mk0)), rfl, bel.frame _, fun h => by cases h⟩

theorem over : Rows.fnAreasRow.holds Try.pinned (OpenSpec.ofChange Rows.fnAreasSpec) :=
  OpenClaim.holds_of_wide 3 Try.f3 rfl rfl rfl rfl rfl rfl rfl ⟨rfl, rfl, rfl, rfl, rfl⟩ rfl rfl rfl rfl rfl (by kernel_rfl) Try.func3 (by kernel_rfl)
    (of_decide_eq_true (by kernel_rfl)) (by unfold Func.isWrapper; first | (rw [if_pos (by decide +kernel)]; kernel_rfl) | (rw [if_neg (by decide +kernel)]; exact ⟨rfl, rfl⟩))
    (fun os started H enc _ => lifted os started H enc)

/-- The statement. -/
theorem proved : Rows.FnAreasSaid := over
end Go.Proofs.Ytdmfapdnepdibaa.fnAreas
