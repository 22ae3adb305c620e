/-
  Proves: for every input the law FnRelease returns true, and its arguments read as before. No condition.
-/
import Derived.Test.YtknppcgoooaaaaaLift
import Derived.Test.YtknppcgoooaaaaaRelT
import Derived.Test.YtknppcgoooaaaaaPartC
import Derived.Test.YtknppcgoooaaaaaQuietB
import Derived.Test.YtknppcgoooaaaaaRelS
import Derived.Test.YtknppcgoooaaaaaR8
import Derived.Test.YtknppcgoooaaaaaGridZ
import Derived.Test.YtknppcgoooaaaaaGridDr
import Derived.Test.YtknppcgoooaaaaaSrcP
import Derived.Deep.DeepCutAuto
namespace Go.Proofs.Ytknppcgoooaaaaa.fnRelease
open Go.ChangeShapes Go.WideShapes Go.ChangeAt Go.RowKit Go.Deep
set_option linter.unusedVariables false

/-- What the law keeps in memory: the grid, the cells, the parts, the slopes. -/
structure Fam (w : World) (gb : Nat) (R C : Int) (a : Addr) (n c : Nat) (hs : List Int) (A6 : Option Addr) (m : Nat) (xs : List Int) (A7 A13 : Option Addr) (p n13 : Nat) (rs : Rws) (sl : List Int) (A0 : Option Addr) (n0 : Nat) : Prop where
  box : BoxG w gb R C 10 (some a) n c
  grid : GridA w R C 10 (some a) n hs
  cells : Ints w A6 m xs
  rows : RowsI w A7 p rs
  slopes : Ints w A13 n13 sl
  code : Byts w A0 n0
theorem Fam.below {w w' : World} {gb : Nat} {R C : Int} {a : Addr} {n c : Nat} {hs : List Int} {A6 : Option Addr} {m : Nat} {xs : List Int} {A7 A13 : Option Addr} {p n13 : Nat} {rs : Rws} {sl : List Int} {A0 : Option Addr} {n0 : Nat}
    (h : Fam w gb R C a n c hs A6 m xs A7 A13 p n13 rs sl A0 n0) (hb : Below w.heap.size w w') : Fam w' gb R C a n c hs A6 m xs A7 A13 p n13 rs sl A0 n0 :=
  ⟨h.box.below hb, h.grid.below hb, h.cells.below hb, h.rows.below hb, h.slopes.below hb, h.code.below hb⟩
theorem codes {R C : Int} {hs xs : List Int} {n : Nat} (hv : gridOk R C 10 hs = true) (hl : hs.length = n) (hp : xs.Pairwise (· < ·)) (hb : ∀ x ∈ xs, 0 ≤ x ∧ x < n) : cellsC R C 10 hs xs = 0 ∧ areaV R C 10 hs xs = (xs.length : Int) * 10 * 10 ∧ gridC R C 10 hs = 0 := by
  obtain ⟨_, _, _, hn, _⟩ := gridOk_iff.1 hv
  have hr : risesB xs 0 (R * C - 1) = true := rises_iff.2 ⟨inc_pw hp, allB_iff.2 fun j x hx => by have := hb x (List.mem_of_getElem? hx); omega⟩
  have h0 : cellsC R C 10 hs xs = 0 := by rw [cellsC, if_pos hv, if_pos hr]
  exact ⟨h0, by rw [areaV, if_pos h0], by rw [gridC, if_pos hv]⟩
theorem has_b (A : Option Addr) (n c : Nat) (v : Int) (xs : List Int) (b : Bool) (w : World) (h : Ints w A n xs) (hb : hasB xs v = b) :
    Calls Try.prog 12 #[.slice A n c, .int .i64 v] w fun e w' => e = .returned (.bool b) ∧ Below w.heap.size w w' :=
  (r8Has_any A n c v xs w h).mono fun e w' ⟨he, q, hw⟩ => ⟨by rw [he, hb], by rw [hw]; exact below_drewN (Below.refl _ _) _⟩
theorem two_call {wd W W' : World} {gb n c : Nat} {R C : Int} {a : Addr} {b off k m d pb po j : Nat} {y : Int} (H : (W.cell? ⟨gb, 0, none⟩ = some (.int .i64 R) ∧ W.cell? ⟨gb, 1, none⟩ = some (.int .i64 C) ∧ W.cell? ⟨gb, 2, none⟩ = some (.int .i64 10) ∧ W.cell? ⟨gb, 3, none⟩ = some (.slice (some a) n c)) ∧ W.cell? ⟨b, off + k, none⟩ = some (.slice (some ⟨pb, po, none⟩) m d) ∧ W.cell? ⟨pb, po + j, none⟩ = some (.int .i64 y) ∧ Below wd.heap.size wd W) (hb : Below W.heap.size W W') : (W'.cell? ⟨gb, 0, none⟩ = some (.int .i64 R) ∧ W'.cell? ⟨gb, 1, none⟩ = some (.int .i64 C) ∧ W'.cell? ⟨gb, 2, none⟩ = some (.int .i64 10) ∧ W'.cell? ⟨gb, 3, none⟩ = some (.slice (some a) n c)) ∧ W'.cell? ⟨b, off + k, none⟩ = some (.slice (some ⟨pb, po, none⟩) m d) ∧ W'.cell? ⟨pb, po + j, none⟩ = some (.int .i64 y) ∧ Below wd.heap.size wd W' := by
  obtain ⟨⟨p0, p1, p2, p3⟩, e0, e1, hw⟩ := H
  exact ⟨⟨cell_kept hb p0, cell_kept hb p1, cell_kept hb p2, cell_kept hb p3⟩, cell_kept hb e0, cell_kept hb e1, hw.trans (hb.mono hw.size)⟩
theorem two_drew {wd W : World} {gb n c : Nat} {R C : Int} {a : Addr} {b off k m d pb po j : Nat} {y : Int} (H : (W.cell? ⟨gb, 0, none⟩ = some (.int .i64 R) ∧ W.cell? ⟨gb, 1, none⟩ = some (.int .i64 C) ∧ W.cell? ⟨gb, 2, none⟩ = some (.int .i64 10) ∧ W.cell? ⟨gb, 3, none⟩ = some (.slice (some a) n c)) ∧ W.cell? ⟨b, off + k, none⟩ = some (.slice (some ⟨pb, po, none⟩) m d) ∧ W.cell? ⟨pb, po + j, none⟩ = some (.int .i64 y) ∧ Below wd.heap.size wd W) : (W.drew.cell? ⟨gb, 0, none⟩ = some (.int .i64 R) ∧ W.drew.cell? ⟨gb, 1, none⟩ = some (.int .i64 C) ∧ W.drew.cell? ⟨gb, 2, none⟩ = some (.int .i64 10) ∧ W.drew.cell? ⟨gb, 3, none⟩ = some (.slice (some a) n c)) ∧ W.drew.cell? ⟨b, off + k, none⟩ = some (.slice (some ⟨pb, po, none⟩) m d) ∧ W.drew.cell? ⟨pb, po + j, none⟩ = some (.int .i64 y) ∧ Below wd.heap.size wd W.drew := by
  obtain ⟨⟨p0, p1, p2, p3⟩, e0, e1, hw⟩ := H
  exact ⟨⟨p0, p1, p2, p3⟩, e0, e1, hw.drew⟩
theorem cellsB_bd' (n : Nat) (p : Nat → Bool) (hn : n ≤ 1000) : ∀ x ∈ cellsB n p, -9223372036854775808 ≤ x ∧ x ≤ 9223372036854775807 := fun x hx => by have := cellsB_mem hx; omega
/-- Start cells for a literal list of aspects. -/
theorem start_lit (R C lo hi : Int) (a : Addr) (n c : Nat) (ls : List Int) (cs : Array Value) (T : TypeId) (k d : Nat) (hs : List Int) (w : World) (h : GridA w R C 10 (some a) n hs) (hc : startC R C 10 hs lo hi ls = 0) (hn : n ≤ 64)
    (hcs : cs = (ls.map (.int .i64)).toArray) (hk : k = ls.length) (hl : ls.length ≤ 1000) (hb : ∀ x ∈ ls, -9223372036854775808 ≤ x ∧ x ≤ 9223372036854775807) :
    Calls Try.prog 15 #[.agg #[.int .i64 R, .int .i64 C, .int .i64 10, .slice (some a) n c], .int .i64 lo, .int .i64 hi, .slice (some ⟨w.heap.size, 0, none⟩) k d] (w.alloc (.cells cs T)) fun e w' => ∃ A' c', e = .returned (.tuple #[.slice A' (cellsB n (startP R C 10 hs lo hi ls)).length c', .int .i64 0]) ∧ Ints w' A' (cellsB n (startP R C 10 hs lo hi ls)).length (cellsB n (startP R C 10 hs lo hi ls)) ∧ Below w.heap.size w w' := by
  have hb1 : Below w.heap.size w (w.alloc (.cells cs T)) := (Below.refl _ _).alloc (Nat.le_refl _) _
  subst hk
  refine (StartCells_i R C 10 (some a) n c lo hi _ _ d hs ls _ (h.below hb1) (ints_lit w ls cs T hcs hl hb)).mono ?_
  rintro e w' ⟨A', c', rfl, hf, hb2⟩
  rw [hc] at hf ⊢
  rw [cellsR_yes rfl] at hf ⊢
  exact ⟨A', c', rfl, hf.ints (cellsB_bd' _ _ (by omega)), hb1.trans (hb2.mono hb1.size)⟩
/-- Bounds of the parts' cells. -/
theorem rows_bd {R C : Int} {xs : List Int} {n : Nat} (hb : ∀ x ∈ xs, 0 ≤ x ∧ x < n) : ∀ r ∈ partsF (near R C) xs, ∀ x ∈ r, 0 ≤ x ∧ x < n := by
  intro r hr x hx
  obtain ⟨f, hf, rfl⟩ := (partsF_ok (near R C) xs).2 r hr
  exact hb x (((spread_ok (nr := near R C) hf).2 x).1 hx).mem
theorem rAt_mem {rs : Rws} {k : Nat} (h : k < rs.length) : rAt rs k ∈ rs := by
  rw [rAt, List.getD_eq_getElem?_getD, List.getElem?_eq_getElem h]; exact List.getElem_mem h
set_option maxRecDepth 100000 in
set_option maxHeartbeats 60000000 in
theorem walk (A0 : Option Addr) (n0 c0 : Nat) (z0 : Unit) (A1 : Option Addr) (n1 c1 : Nat) (z1 : Unit) (w : World) (h0 : Byts w A0 n0) (h1 : Byts w A1 n1) :
    Calls Try.prog 3 #[.slice A0 n0 c0, .slice A1 n1 c1] w fun e w' => e = .returned (.bool true) ∧ Below w.heap.size w w' := by
  have hm0 := h0.1
  have hm1 := h1.1
  by_cases hn : n0 ≤ 1048576 ∧ n1 ≤ 1048576
  rotate_left
  · have HN := Lib.hid hn
    clear hn
    go_enter Try.func3, Try.ntmps3
    go_wp2_with (go_at_call 4; refine (r8Long_yes _ _ _ _ _ _ _ hm0 hm1 HN.out).mono ?_; rintro e w' ⟨rfl, rfl⟩)
    go_ret
    exact ⟨rfl, Below.refl _ _⟩
  obtain ⟨hn0, hn1⟩ := hn
  have HH := Lib.hid (And.intro h0 h1)
  clear h0 h1
  go_enter Try.func3, Try.ntmps3
  go_wp2_with (go_at_call 4; refine (r8Long_no _ _ _ _ _ _ _ hn0 hn1).mono ?_; rintro e w' ⟨rfl, rfl⟩)
  refine (R8Grid_d _ _ _ _ HH.out.1).mono ?_
  rintro e w1 ⟨⟨R, C, a, n, c, hs, rfl, hga, hok, hn20, _⟩, hb1⟩
  have hba : Below w1.heap.size w1 (w1.alloc (.cells (gArr R C (.slice (some a) n c)) 26)) := (Below.refl _ _).alloc (Nat.le_refl _) _
  have HV := Lib.hid hok
  have H1 := Lib.hid (And.intro (hb1.trans (hba.mono hb1.size)) (And.intro (boxG_of w1 R C 10 (some a) n c 26) (And.intro (hga.below hba) (And.intro (HH.out.1.below (hb1.trans (hba.mono hb1.size))) (HH.out.2.below (hb1.trans (hba.mono hb1.size)))))))
  clear hb1 hga hok hba
  go_wp2_with fail
  refine (R8Cells_d _ _ _ R C (some a) n c _ H1.out.2.2.2.2 hn20).mono ?_
  rintro e w3 ⟨⟨a6, m, d, xs, rfl, hxi, hpw, hxb⟩, hb3⟩
  have HX := Lib.hid (And.intro hpw (And.intro hxb hxi.1))
  have hlh : hs.length = n := H1.out.2.2.1.1.1
  have HK := Lib.hid (codes HV.out hlh hpw hxb)
  have HPW := Lib.hid (parts_whole HV.out hlh hpw hxb)
  obtain ⟨rs, hrs⟩ : ∃ rs, rs = partsF (near R C) xs := ⟨_, rfl⟩
  have HPA := Lib.hid (show (∀ k, k < rs.length → PartAt R C hs xs rs k) ∧ (∀ r ∈ rs, ∀ x ∈ r, 0 ≤ x ∧ x < n) ∧ totR rs rs.length = m ∧ (rs.length = 0 ↔ m = 0) by
    have h1 := HPW.out
    rw [← hrs, hxi.1] at h1
    exact ⟨by rw [hrs]; exact part_at HV.out hlh hpw hxb, by rw [hrs]; exact rows_bd hxb, h1.1, h1.2⟩)
  have HRS := Lib.hid hrs
  have H3 := Lib.hid (And.intro (H1.out.1.trans (hb3.mono H1.out.1.size)) (And.intro (H1.out.2.1.below hb3) (And.intro (H1.out.2.2.1.below hb3) (And.intro hxi (H1.out.2.2.2.1.below hb3)))))
  have hm63 := hxi.2.1
  have hmn : m ≤ n := by
    have h1 := pw_len hpw hxb (by omega)
    have h2 := hxi.1
    omega
  have hp20 : rs.length ≤ 20 := by
    have h1 := (partsF_ok (near R C) xs).1
    rw [← hrs] at h1
    have h2 := hxi.1
    omega
  clear hb3 hxi hpw hxb hlh hrs H1
  obtain ⟨p0, p1, p2, p3⟩ := H3.out.2.1
  go_wp2_with fail
  refine (PartsOf_i R C 10 (some a) n c (some a6) m d hs xs _ H3.out.2.2.1 H3.out.2.2.2.1).mono ?_
  rintro e w4 ⟨A7, c7, rfl, hf, hb⟩
  rw [HK.out.1] at hf ⊢
  rw [show partsR 0 R C xs = rs by rw [partsR, if_pos rfl, HRS.out]] at hf ⊢
  have H4 := Lib.hid (And.intro (H3.out.1.trans (hb.mono H3.out.1.size)) (And.intro (H3.out.2.1.below hb) (And.intro (H3.out.2.2.1.below hb) (And.intro (H3.out.2.2.2.1.below hb) (And.intro (H3.out.2.2.2.2.below hb) (hf.rows fun r hr x hx => by have := HPA.out.2.1 r hr x hx; omega))))))
  obtain ⟨p, hp⟩ : ∃ p, p = rs.length := ⟨_, rfl⟩
  rw [← hp] at H4 HPA hp20 ⊢
  have HP := Lib.hid hp
  clear hf hb p0 p1 p2 p3 hp H3
  obtain ⟨p0, p1, p2, p3⟩ := H4.out.2.1
  go_wp2_with fail
  refine (LargestPart_i R C 10 (some a) n c (some a6) m d hs xs _ H4.out.2.2.1 H4.out.2.2.2.1).mono ?_
  rintro e w5 ⟨A9, c9, rfl, hf, hb⟩
  rw [HK.out.1] at hf ⊢
  rw [show bigR 0 R C xs = bigF rs by rw [bigR, if_pos rfl, HRS.out]] at hf ⊢
  obtain ⟨bc, hbc⟩ : ∃ bc, bc = bigC 0 R C xs := ⟨_, rfl⟩
  rw [← hbc]
  have HBC := Lib.hid (show (bc = 3 ∧ m = 0) ∨ (bc = 0 ∧ 0 < m) by
    have h1 := HPA.out.2.2.2
    rw [hbc, bigC, if_pos rfl, ← HRS.out, ← HP.out]
    by_cases h0 : p = 0
    · left; rw [if_pos h0]; exact ⟨rfl, h1.1 h0⟩
    · right; rw [if_neg h0]; exact ⟨rfl, by omega⟩)
  obtain ⟨L, hL⟩ : ∃ L, L = (bigF rs).length := ⟨_, rfl⟩
  rw [← hL]
  have HL := Lib.hid hL
  have H5 := Lib.hid (And.intro (H4.out.1.trans (hb.mono H4.out.1.size)) (And.intro (H4.out.2.1.below hb) (And.intro (H4.out.2.2.1.below hb) (And.intro (H4.out.2.2.2.1.below hb) (And.intro (H4.out.2.2.2.2.1.below hb) (H4.out.2.2.2.2.2.below hb))))))
  clear hf hb p0 p1 p2 p3 hbc hL H4
  obtain ⟨p0, p1, p2, p3⟩ := H5.out.2.1
  go_wp2_with fail
  refine (AreaOf_i R C 10 (some a) n c (some a6) m d hs xs _ H5.out.2.2.1 H5.out.2.2.2.1).mono ?_
  rintro e w6 ⟨rfl, hb⟩
  rw [HK.out.1, HK.out.2.1, HX.out.2.2]
  have H6 := Lib.hid (And.intro (H5.out.1.trans (hb.mono H5.out.1.size)) (And.intro (H5.out.2.1.below hb) (And.intro (H5.out.2.2.1.below hb) (And.intro (H5.out.2.2.2.1.below hb) (And.intro (H5.out.2.2.2.2.1.below hb) (H5.out.2.2.2.2.2.below hb))))))
  clear hb p0 p1 p2 p3 H5
  obtain ⟨p0, p1, p2, p3⟩ := H6.out.2.1
  go_wp2_with fail
  refine (SlopesOf_i R C 10 (some a) n c hs _ H6.out.2.2.1).mono ?_
  rintro e w7 ⟨A13, c13, rfl, hf, hb⟩
  rw [HK.out.2.2]
  rw [show slopesR R C 10 hs n = slopesL R C 10 hs n by rw [slopesR, if_pos HV.out]] at hf ⊢
  obtain ⟨sl, hsl⟩ : ∃ sl, sl = slopesL R C 10 hs n := ⟨_, rfl⟩
  rw [← hsl] at hf ⊢
  have hsn : sl.length = n := by rw [hsl, slopesL_len]
  rw [hsn] at hf ⊢
  have HSL := Lib.hid hsl
  have HF := Lib.hid (show Fam w7 w1.heap.size R C a n c hs (some a6) m xs A7 A13 p n rs sl A0 n0 from
    ⟨H6.out.2.1.below hb, H6.out.2.2.1.below hb, H6.out.2.2.2.1.below hb, H6.out.2.2.2.2.2.below hb, hf.ints (by
      have h1 := slopesR_ok R C 10 hs H6.out.2.2.1.1.1
      rw [show slopesR R C 10 hs n = sl by rw [slopesR, if_pos HV.out, hsl]] at h1
      exact h1.1), H6.out.2.2.2.2.1.below hb⟩)
  have HBW := Lib.hid (H6.out.1.trans (hb.mono H6.out.1.size))
  clear hf hb p0 p1 p2 p3 hsl hsn H6
  obtain ⟨p0, p1, p2, p3⟩ := HF.out.box
  go_upto_region 9 with (fail)
  go_cut [6, 11, 102] (fun s ar r wr => s = .slice (some a6) m d ∧ ar = .int .i64 ((m : Int) * 10 * 10) ∧ r = .bool false ∧ wr = w7)
  case first =>
   as_aux_lemma =>
    rcases HBC.out with ⟨e1, e2⟩ | ⟨e1, e2⟩
    · have e3 : ¬ (0 : Int) < (m : Int) := by omega
      subst e1
      go_wp2_with fail
      go_meet
      exact ⟨by first | rfl | rw [e2], by first | rfl | (rw [e2]; rfl) | simp [e2], rfl, rfl⟩
    · have e3 : (0 : Int) < (m : Int) := by omega
      subst e1
      go_wp2_with fail
      go_meet
      exact ⟨rfl, rfl, rfl, rfl⟩
  case rest =>
  obtain ⟨rfl, rfl, rfl, rfl⟩ := hcut
  go_wp2_with fail
  clear p0 p1 p2 p3
  go_loopw [15, 16] (fun mv iv wr => ∃ k : Nat, k ≤ p ∧ iv = .int .i64 k ∧ mv = .int .i64 (totR rs k : Nat) ∧ Hid (Fam wr w1.heap.size R C a n c hs (some a6) m xs A7 A13 p n rs sl A0 n0) ∧ Hid (Below w.heap.size w wr)) (fun _ iv _ => p - (intOf iv).toNat)
  case atStart => exact ⟨0, Nat.zero_le _, rfl, by simp [totR], HF.out, HBW.out⟩
  case round =>
    clear HF HBW
    obtain ⟨k, hk, rfl, rfl, HF, HB⟩ := hrel
    have htk : totR rs k ≤ m := by
      have h1 := totR_le rs hk
      have h2 := HPA.out.2.2.1
      omega
    obtain ⟨T, hT⟩ : ∃ T, T = totR rs k := ⟨_, rfl⟩
    rw [← hT] at htk ⊢
    have HT := Lib.hid hT
    clear hT
    by_cases hlt : k < p
    · as_aux_lemma =>
      have hki : (k : Int) < (p : Int) := by omega
      have HPK := Lib.hid (HPA.out.1 k hlt)
      obtain ⟨b, off, P, mm, dd, rfl, hc1, hp1⟩ := HF.out.rows.at_ hlt
      have hmm : (rAt rs k).length = mm := hp1.1
      have hpos : 0 < mm := by rw [← hmm]; exact HPK.out.pos
      have hlm : mm ≤ L := by rw [← hmm, HL.out]; exact HPK.out.le
      have htn : T + mm ≤ m := by
        have h1 := totR_le rs (show k + 1 ≤ p by omega)
        have h2 := HPA.out.2.2.1
        have h3 := totR_succ (rs := rs) (k := k) (by rw [← HP.out]; exact hlt)
        have h4 := HT.out
        omega
      have hpi : ¬ (mm : Int) = 0 := by omega
      have hpn : ¬ mm = 0 := by omega
      have hpb : ((mm : Int) == 0) = false := by simpa using hpn
      have hpd : decide ((mm : Int) = 0) = false := by simpa using hpn
      have hpe : decide (mm = 0) = false := by simpa using hpn
      have hpf : (mm == 0) = false := by simpa using hpn
      have hli : ¬ (L : Int) < (mm : Int) := by omega
      have hln : ¬ L < mm := by omega
      have hld : decide ((L : Int) < (mm : Int)) = false := by simp; omega
      have hle : decide (L < mm) = false := by simp; omega
      have HR := Lib.hid hp1
      have HM := Lib.hid hmm
      clear hmm
      obtain ⟨p0, p1, p2, p3⟩ := HF.out.box
      have HIC := fun (W : World) (hW : Below wr.heap.size wr W) => Lib.hid ((IsConnected_i R C 10 (some a) n c P mm dd hs (rAt rs k) W (HF.out.grid.below hW) (hp1.below hW)).mono (fun e w' (h : _ ∧ _) => (show e = .returned (.bool true) ∧ Below W.heap.size W w' from ⟨by rw [h.1, HPK.out.conn], h.2⟩)))
      go_upto_region 15 with (fail)
      go_cut [153] (fun r wz => r = .bool false ∧ Hid (Below wr.heap.size wr wz))
      case first =>
        by_cases hk0 : k = 0
        · obtain rfl : k = 0 := hk0
          rw [Nat.add_zero] at hc1
          have hp0 : (0 : Int) < (p : Int) := by omega
          have q0 := BW.cell p0
          have q1 := BW.cell p1
          have q2 := BW.cell p2
          have q3 := BW.cell p3
          have q4 := BW.cell hc1
          clear hp1 hki hk htk htn hm0 hm1 hn0 hn1 HH hn20 HV HX HK HPW HRS hm63 hmn hp20 HPA HP HBC HL HSL HB HF hpos hlm HT HPK HR HM p0 p1 p2 p3 hc1
          refine region_quietB wr (Below.refl _ _) (by kernel_rfl) (by kernel_rfl) ?_
          repeat (go_big_quiet_step ((go_at_call 11; with_reducible exact quietB_call (HIC _ (BW.h _)).out)))
          refine wpQuiet_nil ?_
          rintro w2 ⟨x, rfl⟩
          go_wp2_with fail
          go_meet
          exact ⟨rfl, x.h⟩
        · obtain ⟨t, hkt⟩ : ∃ t, k = t + 1 := ⟨k - 1, by omega⟩
          obtain ⟨b', off', Q, m', d', hA, hc2, hq1⟩ := HF.out.rows.at_ (show t < p by omega)
          have hbb : b = b' ∧ off = off' := by
            injection hA with hA
            injection hA with h1 h2
            exact ⟨h1, h2⟩
          obtain ⟨rfl, rfl⟩ := hbb
          have hhd := HPK.out.head (by omega)
          rw [show k - 1 = t by omega] at hhd
          obtain ⟨pb, po, y, rfl, HY, hc3, _, _⟩ := hp1.at_ hpos
          obtain ⟨qb, qo, z, rfl, HZ, hc4, _, _⟩ := hq1.at_ (show 0 < m' by rw [← hq1.1]; exact hhd.2)
          have hzy : z < y := by
            have h1 := hhd.1
            rw [List.getD_eq_getElem?_getD, List.getD_eq_getElem?_getD, HY.out, HZ.out] at h1
            exact h1
          have hm'0 : 0 < m' := by rw [← hq1.1]; exact hhd.2
          rw [Nat.add_zero] at hc3 hc4
          have hk1 : (0 : Int) < (k : Int) := by omega
          have hkn : 0 < k := by omega
          have hkd : decide (0 < k) = true := by simp; omega
          have hk2 : (k : Int) - 1 = (t : Int) := by omega
          have htb : (t : Int) ≤ 20 := by omega
          have htp : (t : Int) < (p : Int) := by omega
          have hmp : (0 : Int) < (mm : Int) := by omega
          have hmq : (0 : Int) < (m' : Int) := by omega
          have hyz : ¬ y ≤ z := by omega
          have hyd : decide (y ≤ z) = false := by simp; omega
          have q0 := BW.cell p0
          have q1 := BW.cell p1
          have q2 := BW.cell p2
          have q3 := BW.cell p3
          have q4 := BW.cell hc1
          have q5 := BW.cell hc2
          have q6 := BW.cell hc3
          have q7 := BW.cell hc4
          have hk3 : (0 : Int) ≤ (k : Int) - 1 := by omega
          have hk4 : ((k : Int) - 1).toNat = t := by omega
          have hk5 : (k : Int) - 1 < (p : Int) := by omega
          clear hkt hk0 hp1 hq1 hhd hzy hA hk htk htn hm0 hm1 hn0 hn1 HH hn20 HV HX HK HPW HRS hm63 hmn hp20 HPA HP HBC HL HSL HB HF hlm HT HPK HR HM HY HZ p0 p1 p2 p3 hc1 hc2 hc3 hc4
          refine region_quietB wr (Below.refl _ _) (by kernel_rfl) (by kernel_rfl) ?_
          repeat (go_big_quiet_step ((go_at_call 11; with_reducible exact quietB_call (HIC _ (BW.h _)).out)))
          refine wpQuiet_nil ?_
          rintro w2 ⟨x, rfl⟩
          go_wp2_with fail
          go_meet
          exact ⟨rfl, x.h⟩
      case rest =>
      as_aux_lemma =>
      obtain ⟨rfl, HZ⟩ := hcut
      clear HIC p0 p1 p2 p3
      have HFz := Lib.hid (HF.out.below HZ.out)
      have HBz := Lib.hid (HB.out.trans (HZ.out.mono HB.out.size))
      replace hc1 := cell_kept HZ.out hc1
      replace HR := Lib.hid (HR.out.below HZ.out)
      clear HF HB HZ hp1
      have hTw : (T : Int) + (mm : Int) ≤ 9223372036854775807 := by omega
      have HTS := Lib.hid (show totR rs (k + 1) = T + mm by rw [totR_succ (rs := rs) (k := k) (by rw [← HP.out]; exact hlt), ← HT.out, HM.out])
      go_wp2_with fail
      go_loopw [17] (fun iv wq => ∃ q : Nat, q ≤ mm ∧ iv = .int .i64 q ∧ Hid (Fam wq w1.heap.size R C a n c hs (some a6) m xs (some ⟨b, off, none⟩) A13 p n rs sl A0 n0) ∧ Hid (Ints wq P mm (rAt rs k) ∧ wq.cell? ⟨b, off + k, none⟩ = some (.slice P mm dd)) ∧ Hid (Below w.heap.size w wq)) (fun iv _ => mm - (intOf iv).toNat)
      case atStart => exact ⟨0, Nat.zero_le _, rfl, HFz.out, ⟨HR.out, hc1⟩, HBz.out⟩
      case round =>
        clear HFz HBz HR hc1
        obtain ⟨q, hq, rfl, HFq, HRq, HBq⟩ := hrel
        have hcq := HRq.out.2
        by_cases hql : q < mm
        · obtain ⟨pb, po, y, rfl, HY, hcy, hy1, hy2⟩ := HRq.out.1.at_ hql
          have hym : y ∈ rAt rs k := List.mem_of_getElem? HY.out
          have hyb := HPA.out.2.1 _ (rAt_mem (by rw [← HP.out]; exact hlt)) y hym
          obtain ⟨v, rfl⟩ : ∃ v : Nat, y = (v : Int) := ⟨y.toNat, by omega⟩
          have HYS := Lib.hid (And.intro (HPK.out.sub _ hym) (HPK.out.shut _ hym))
          have hvn : v < n := by omega
          have hqi : (q : Int) < (mm : Int) := by omega
          clear hym hyb HY
          go_wp2_with fail
          refine (has_b _ _ _ _ xs true _ HFq.out.cells HYS.out.1).mono ?_
          rintro e wx ⟨rfl, hbx⟩
          have HFx := Lib.hid (HFq.out.below hbx)
          have HRx := Lib.hid (And.intro (HRq.out.1.below hbx) (cell_kept hbx HRq.out.2))
          have HBx := Lib.hid (HBq.out.trans (hbx.mono HBq.out.size))
          replace hcy := cell_kept hbx hcy
          replace hcq := cell_kept hbx hcq
          clear hbx HFq HRq HBq
          have p4 := HFx.out.box
          have HNB := fun (W : World) (hW : Below wx.heap.size wx W) => Lib.hid (NeighboursOf_t R C 10 (some a) n c v hs W (HFx.out.grid.below hW) HV.out hvn)
          obtain ⟨NR, hNR⟩ : ∃ NR, NR = near R C (v : Int) := ⟨_, rfl⟩
          rw [← hNR] at HNB HYS
          have HNR := Lib.hid hNR
          clear hNR
          go_upto_region 23 with (fail)
          go_cut [18, 19] (fun r ev wz => ∃ A' c', r = .slice A' NR.length c' ∧ ev = .int .i64 0 ∧ Hid (Ints wz A' NR.length NR) ∧ Hid (Below wx.heap.size wx wz))
          case first =>
            clear HM hlm hTw htk htn hm0 hm1 hn0 hn1 HH hn20 HV HX HK HPW HRS hm63 hmn hp20 HPA HP HBC HL HSL hpos HT HPK
            obtain ⟨p0, p1, p2, p3⟩ := p4
            have HS0 : (wx.cell? ⟨w1.heap.size, 0, none⟩ = some (.int .i64 R) ∧ wx.cell? ⟨w1.heap.size, 1, none⟩ = some (.int .i64 C) ∧ wx.cell? ⟨w1.heap.size, 2, none⟩ = some (.int .i64 10) ∧ wx.cell? ⟨w1.heap.size, 3, none⟩ = some (.slice (some a) n c)) ∧ wx.cell? ⟨b, off + k, none⟩ = some (.slice (some ⟨pb, po, none⟩) mm dd) ∧ wx.cell? ⟨pb, po + q, none⟩ = some (.int .i64 (v : Int)) ∧ Below wx.heap.size wx wx := ⟨⟨p0, p1, p2, p3⟩, hcq, hcy, Below.refl _ _⟩
            go_region_held3 (fun W => (W.cell? ⟨w1.heap.size, 0, none⟩ = some (.int .i64 R) ∧ W.cell? ⟨w1.heap.size, 1, none⟩ = some (.int .i64 C) ∧ W.cell? ⟨w1.heap.size, 2, none⟩ = some (.int .i64 10) ∧ W.cell? ⟨w1.heap.size, 3, none⟩ = some (.slice (some a) n c)) ∧ W.cell? ⟨b, off + k, none⟩ = some (.slice (some ⟨pb, po, none⟩) mm dd) ∧ W.cell? ⟨pb, po + q, none⟩ = some (.int .i64 (v : Int)) ∧ Below wx.heap.size wx W)
              (first | assumption | exact HS0 | exact two_drew HS0 | exact two_drew (by assumption) | exact two_call (by assumption) hb2)
              ((go_at_call 13; refine (HNB _ (by first | assumption | exact (Below.refl _ _).drew | exact Below.refl _ _)).out.mono ?_; rintro e w2 ⟨A', c', rfl, hi2, hb2⟩))
            go_wp2_with fail
            go_meet
            exact ⟨A', c', rfl, rfl, hi2, (two_call (two_drew HS0) hb2).2.2.2⟩
          case rest =>
          as_aux_lemma =>
          obtain ⟨A18, c18, rfl, rfl, HN, HZ⟩ := hcut
          clear HNB p4
          have HFz := Lib.hid (HFx.out.below HZ.out)
          have HRz := Lib.hid (And.intro (HRx.out.1.below HZ.out) (cell_kept HZ.out HRx.out.2))
          have HBz := Lib.hid (HBx.out.trans (HZ.out.mono HBx.out.size))
          have hNn := HN.out.2.1
          clear HFx HRx HBx HZ hcy hcq
          go_wp2_with fail
          go_loopw [20] (fun jv wq2 => ∃ j : Nat, j ≤ NR.length ∧ jv = .int .i64 j ∧ Hid (Fam wq2 w1.heap.size R C a n c hs (some a6) m xs (some ⟨b, off, none⟩) A13 p n rs sl A0 n0) ∧ Hid (Ints wq2 (some ⟨pb, po, none⟩) mm (rAt rs k) ∧ wq2.cell? ⟨b, off + k, none⟩ = some (.slice (some ⟨pb, po, none⟩) mm dd)) ∧ Hid (Ints wq2 A18 NR.length NR) ∧ Hid (Below w.heap.size w wq2)) (fun jv _ => NR.length - (intOf jv).toNat)
          case atStart => exact ⟨0, Nat.zero_le _, rfl, HFz.out, HRz.out, HN.out, HBz.out⟩
          case round =>
            clear HFz HRz HN HBz
            obtain ⟨j, hj, rfl, HFj, HRj, HNj, HBj⟩ := hrel
            have hcj := HRj.out.2
            by_cases hjl : j < NR.length
            · obtain ⟨nb, no, z, rfl, HZZ, hcz, hz1, hz2⟩ := HNj.out.at_ hjl
              have hji : (j : Int) < (NR.length : Int) := by omega
              have hzm : z ∈ NR := List.mem_of_getElem? HZZ.out
              obtain ⟨g1, hg1⟩ : ∃ g1, g1 = hasB xs z := ⟨_, rfl⟩
              have HG := Lib.hid (show hasB xs z = g1 ∧ (g1 = true → hasB (rAt rs k) z = true) from ⟨hg1.symm, fun h => HYS.out.2 z hzm (by rw [← hg1]; exact h)⟩)
              clear hzm hg1
              have HC1 := fun (W : World) (hW : Below wr.heap.size wr W) => Lib.hid (has_b (some a6) m d z xs g1 W (HFj.out.cells.below hW) HG.out.1)
              go_upto_region 29 with (fail)
              go_cut [217] (fun r wz => r = .bool false ∧ Hid (Below wr.heap.size wr wz))
              case first =>
                have q0 := BW.cell hcj
                have q1 := BW.cell hcz
                have HRb := Lib.hid HRj.out.1
                cases g1
                · clear hcj hcz HFj HRj HNj HBj HRb HM hlm hTw htk htn hm0 hm1 hn0 hn1 HH hn20 HV HX HK HPW HRS hm63 hmn hp20 HPA HP HBC HL HSL hpos HT HPK HYS HTS HZZ
                  refine region_quietB wr (Below.refl _ _) (by kernel_rfl) (by kernel_rfl) ?_
                  repeat (go_big_quiet_step ((go_at_call 12; with_reducible exact quietB_call (HC1 _ (BW.h _)).out)))
                  refine wpQuiet_nil ?_
                  rintro w2 ⟨x, rfl⟩
                  go_wp2_with fail
                  go_meet
                  exact ⟨rfl, x.h⟩
                · have HC2 := fun (W : World) (hW : Below wr.heap.size wr W) => Lib.hid (has_b (some ⟨pb, po, none⟩) mm dd z (rAt rs k) true W (HRb.out.below hW) (HG.out.2 rfl))
                  clear hcj hcz HFj HRj HNj HBj HRb HM hlm hTw htk htn hm0 hm1 hn0 hn1 HH hn20 HV HX HK HPW HRS hm63 hmn hp20 HPA HP HBC HL HSL hpos HT HPK HYS HTS HZZ
                  refine region_quietB wr (Below.refl _ _) (by kernel_rfl) (by kernel_rfl) ?_
                  repeat (go_big_quiet_step ((go_at_call 12; first | (with_reducible exact quietB_call (HC1 _ (BW.h _)).out) | (with_reducible exact quietB_call (HC2 _ (BW.h _)).out))))
                  refine wpQuiet_nil ?_
                  rintro w2 ⟨x, rfl⟩
                  go_wp2_with fail
                  go_meet
                  exact ⟨rfl, x.h⟩
              case rest =>
              as_aux_lemma =>
              obtain ⟨rfl, HZ⟩ := hcut
              clear HC1
              have HFk := Lib.hid (HFj.out.below HZ.out)
              have HRk := Lib.hid (And.intro (HRj.out.1.below HZ.out) (cell_kept HZ.out HRj.out.2))
              have HNk := Lib.hid (HNj.out.below HZ.out)
              have HBk := Lib.hid (HBj.out.trans (HZ.out.mono HBj.out.size))
              clear HFj HRj HNj HBj hcj hcz HZ
              go_wp2_with fail
              go_roundw
              case rel => exact ⟨j + 1, by omega, by go_num, HFk.out, HRk.out, HNk.out, HBk.out⟩
              case measure => simp [intOf]; omega
            · obtain rfl : j = NR.length := by omega
              clear hj hjl HNj
              go_wp2_with fail
              go_roundw
              case rel => exact ⟨q + 1, by omega, by go_num, HFj.out, HRj.out, HBj.out⟩
              case measure => simp [intOf]; omega
        · obtain rfl : q = mm := by omega
          clear hql hq
          go_wp2_with fail
          go_roundw
          case rel => exact ⟨k + 1, by omega, by go_num, by rw [HTS.out]; go_num, HFq.out, HBq.out⟩
          case measure => simp [intOf]; omega
    · obtain rfl : k = p := by omega
      have hTm : T = m := by rw [HT.out]; exact HPA.out.2.2.1
      rw [hTm]
      clear HT hTm htk hlt
      have hn64 : n ≤ 64 := by omega
      obtain ⟨p0, p1, p2, p3⟩ := HF.out.box
      have hp63 : (k : Int) ≤ 9223372036854775807 := by omega
      have HIC : Hid (Calls Try.prog 11 #[.agg #[.int .i64 R, .int .i64 C, .int .i64 10, .slice (some a) n c], .slice (some a6) m d] wr fun e w' => e = .returned (.bool (decide (k = 1))) ∧ Below wr.heap.size wr w') :=
        (IsConnected_i R C 10 (some a) n c (some a6) m d hs xs wr HF.out.grid HF.out.cells).mono fun e w' (h : _ ∧ _) => ⟨by rw [h.1, HK.out.1, connV, ← HRS.out, ← HP.out]; simp, h.2⟩
      have hmm0 : ((m : Int) != (m : Int)) = false := by simp
      go_upto_region 31 with (fail)
      go_cut [230] (fun r wz => r = .bool false ∧ Hid (Below wr.heap.size wr wz))
      case first =>
       as_aux_lemma =>
        go_wp2_with fail
        refine HIC.out.mono ?_
        rintro e w2 ⟨rfl, hb2⟩
        go_wp2_with fail
        go_meet
        exact ⟨by first | rfl | (simp; done) | (simp; omega) | (congr 1; by_cases h1 : k = 1 <;> simp [h1] <;> omega), hb2⟩
      case rest =>
      obtain ⟨rfl, HZ⟩ := hcut
      clear HIC hmm0
      have HF2 := Lib.hid (HF.out.below HZ.out)
      have HB2 := Lib.hid (HB.out.trans (HZ.out.mono HB.out.size))
      clear HF HB HZ p0 p1 p2 p3
      go_wp2_with fail
      refine (r8At_any _ _ _ 40 40 _ HF2.out.code hn0 (by omega) (by omega) (by omega)).mono ?_
      rintro e w2 ⟨⟨x1, rfl, hx1, hx2⟩, rfl⟩
      go_wp2_with fail
      obtain ⟨lo, hlo⟩ : ∃ lo, lo = 20 * x1 := ⟨_, rfl⟩
      rw [← hlo]
      have hlo1 : 0 ≤ lo := by omega
      have hlo2 : lo ≤ 780 := by omega
      clear hlo hx1 hx2
      refine (r8At_any _ _ _ 41 60 _ HF2.out.code hn0 (by omega) (by omega) (by omega)).mono ?_
      rintro e w2 ⟨⟨x2, rfl, hx1, hx2⟩, rfl⟩
      obtain ⟨q0, q1, q2, q3⟩ := HF2.out.box
      go_wp2_with fail
      obtain ⟨hi, hhi⟩ : ∃ hi, hi = lo + 20 * x2 := ⟨_, rfl⟩
      rw [← hhi]
      have hhi1 : lo ≤ hi := by omega
      have hhi2 : hi ≤ 1960 := by omega
      clear hhi hx1 hx2
      have HSC := Lib.hid (start_codes (R := R) (C := C) (hs := hs) HV.out hlo1 hhi1 (by omega))
      refine (start_lit R C lo hi a n c [0, 1, 2, 3, 4, 5, 6, 7] _ _ 8 _ hs _ HF2.out.grid HSC.out.1 hn64 rfl rfl (by simp) (by simp)).mono ?_
      rintro e w2 ⟨A23, c23, rfl, hi23, hb2⟩
      obtain ⟨st, hst⟩ : ∃ st, st = cellsB n (startP R C 10 hs lo hi [0, 1, 2, 3, 4, 5, 6, 7]) := ⟨_, rfl⟩
      rw [← hst] at hi23 ⊢
      have HST := Lib.hid hst
      have HI23 := Lib.hid hi23
      have HF3 := Lib.hid (HF2.out.below hb2)
      have HB3 := Lib.hid (HB2.out.trans (hb2.mono HB2.out.size))
      clear hb2 hi23 hst HF2 HB2 q0 q1 q2 q3
      obtain ⟨q0, q1, q2, q3⟩ := HF3.out.box
      go_wp2_with fail
      refine (start_lit R C lo hi a n c [4] _ _ 1 _ hs _ HF3.out.grid HSC.out.2 hn64 rfl rfl (by simp) (by simp)).mono ?_
      rintro e w3 ⟨A25, c25, rfl, hi25, hb3⟩
      obtain ⟨so, hso⟩ : ∃ so, so = cellsB n (startP R C 10 hs lo hi [4]) := ⟨_, rfl⟩
      rw [← hso] at hi25 ⊢
      have HSO := Lib.hid hso
      have HI25 := Lib.hid (And.intro (HI23.out.below hb3) hi25)
      have HF4 := Lib.hid (HF3.out.below hb3)
      have HB4 := Lib.hid (HB3.out.trans (hb3.mono HB3.out.size))
      clear hb3 hi25 hso HF3 HB3 HI23 HSC q0 q1 q2 q3
      obtain ⟨q0, q1, q2, q3⟩ := HF4.out.box
      go_wp2_with fail
      clear q0 q1 q2 q3
      as_aux_lemma =>
      go_loopw [27] (fun kv wq => ∃ q : Nat, q ≤ n ∧ kv = .int .i64 q ∧ Hid (Fam wq w1.heap.size R C a n c hs (some a6) m xs A7 A13 k n rs sl A0 n0) ∧ Hid (Ints wq A23 st.length st ∧ Ints wq A25 so.length so) ∧ Hid (Below w.heap.size w wq)) (fun kv _ => n - (intOf kv).toNat)
      case atStart => exact ⟨0, Nat.zero_le _, rfl, HF4.out, HI25.out, HB4.out⟩
      case round =>
        clear HF4 HI25 HB4
        obtain ⟨q, hq, rfl, HFq, HIq, HBq⟩ := hrel
        obtain ⟨q0, q1, q2, q3⟩ := HFq.out.box
        by_cases hql : q < n
        rotate_left
        · obtain rfl : q = n := by omega
          go_wp2_with fail
          go_ret
          exact ⟨rfl, HBq.out⟩
        have hqi : (q : Int) < (n : Int) := by omega
        have HC := Lib.hid (rel_cell (R := R) (C := C) (lo := lo) (hi := hi) (hs := hs) HV.out hql)
        rw [← HST.out, ← HSO.out, ← HSL.out] at HC
        have HS1 := fun (W : World) (hG : GridA W R C 10 (some a) n hs) => Lib.hid (SteepestOf_t R C 10 (some a) n c q hs W hG HV.out hql)
        have HS2 := fun (W : World) (hG : GridA W R C 10 (some a) n hs) => Lib.hid (AspectOf_t R C 10 (some a) n c q hs W hG HV.out hql)
        obtain ⟨P, hP⟩ : ∃ P, P = steep R C 10 hs (q : Int) := ⟨_, rfl⟩
        rw [← hP] at HC HS1 HS2
        clear hP
        obtain ⟨b13, o13, x13, rfl, HX13, hc13, _, _⟩ := HFq.out.slopes.at_ hql
        by_cases hneg : P.1 < 0
        · obtain ⟨h1, h2, h3⟩ := HC.out.1 hneg
          obtain rfl : x13 = 0 := by
            have h4 := HX13.out
            rw [h3] at h4
            exact (Option.some.inj h4).symm
          have HB1 := Lib.hid h1
          have HB2 := Lib.hid h2
          have HS1n := fun (W : World) (hG : GridA W R C 10 (some a) n hs) => Lib.hid (((HS1 W hG).out).mono (fun e w' (h : _ ∧ _) => (show (∃ y : Int, e = .returned (.tuple #[.int .i64 0, .int .i64 y, .int .i64 3])) ∧ Below W.heap.size W w' from ⟨by obtain ⟨y, hy⟩ := h.1; exact ⟨y, by rw [hy, if_pos hneg, if_pos hneg]⟩, h.2⟩)))
          have HS2n := fun (W : World) (hG : GridA W R C 10 (some a) n hs) => Lib.hid (((HS2 W hG).out).mono (fun e w' (h : _ ∧ _) => (show e = .returned (.tuple #[.int .i64 0, .int .i64 3]) ∧ Below W.heap.size W w' from ⟨by rw [h.1, if_pos hneg, if_pos hneg], h.2⟩)))
          clear h1 h2 h3 HC HS1 HS2 HX13
          go_wp2_with fail
          refine (HS1n _ HFq.out.grid).out.mono ?_
          rintro e wa ⟨⟨y, rfl⟩, hba⟩
          have HFa := Lib.hid (HFq.out.below hba)
          have HIa := Lib.hid (And.intro (HIq.out.1.below hba) (HIq.out.2.below hba))
          have HBa := Lib.hid (HBq.out.trans (hba.mono HBq.out.size))
          replace hc13 := cell_kept hba hc13
          clear hba HFq HIq HBq q0 q1 q2 q3
          obtain ⟨q0, q1, q2, q3⟩ := HFa.out.box
          go_wp2_with fail
          refine (HS2n _ HFa.out.grid).out.mono ?_
          rintro e wb ⟨rfl, hbb⟩
          have HFb := Lib.hid (HFa.out.below hbb)
          have HIb := Lib.hid (And.intro (HIa.out.1.below hbb) (HIa.out.2.below hbb))
          have HBb := Lib.hid (HBa.out.trans (hbb.mono HBa.out.size))
          replace hc13 := cell_kept hbb hc13
          clear hbb HFa HIa HBa q0 q1 q2 q3 HS1n HS2n
          go_wp2_with fail
          refine (has_b _ _ _ _ st false _ HIb.out.1 HB1.out).mono ?_
          rintro e wc ⟨rfl, hbc⟩
          have HFc := Lib.hid (HFb.out.below hbc)
          have HIc := Lib.hid (And.intro (HIb.out.1.below hbc) (HIb.out.2.below hbc))
          have HBc := Lib.hid (HBb.out.trans (hbc.mono HBb.out.size))
          replace hc13 := cell_kept hbc hc13
          clear hbc HFb HIb HBb
          go_wp2_with fail
          refine (has_b _ _ _ _ so false _ HIc.out.2 HB2.out).mono ?_
          rintro e wd ⟨rfl, hbd⟩
          have HFd := Lib.hid (HFc.out.below hbd)
          have HId := Lib.hid (And.intro (HIc.out.1.below hbd) (HIc.out.2.below hbd))
          have HBd := Lib.hid (HBc.out.trans (hbd.mono HBc.out.size))
          replace hc13 := cell_kept hbd hc13
          clear hbd HFc HIc HBc
          go_wp2_with fail
          go_roundw
          case rel => exact ⟨q + 1, by omega, by go_num, HFd.out, HId.out, HBd.out⟩
          case measure => simp [intOf]; omega
        · obtain ⟨h1, h2, h3⟩ := HC.out.2 hneg
          obtain ⟨P1, P2⟩ := P
          obtain rfl : x13 = P2 := by
            have h4 := HX13.out
            rw [h3] at h4
            exact (Option.some.inj h4).symm
          have HS1n := fun (W : World) (hG : GridA W R C 10 (some a) n hs) => Lib.hid (((HS1 W hG).out).mono (fun e w' (h : _ ∧ _) => (show (∃ y : Int, e = .returned (.tuple #[.int .i64 x13, .int .i64 y, .int .i64 0])) ∧ Below W.heap.size W w' from ⟨by obtain ⟨y, hy⟩ := h.1; exact ⟨y, by rw [hy, if_neg hneg, if_neg hneg]⟩, h.2⟩)))
          have HS2n := fun (W : World) (hG : GridA W R C 10 (some a) n hs) => Lib.hid (((HS2 W hG).out).mono (fun e w' (h : _ ∧ _) => (show e = .returned (.tuple #[.int .i64 P1, .int .i64 0]) ∧ Below W.heap.size W w' from ⟨by rw [h.1, if_neg hneg, if_neg hneg], h.2⟩)))
          have hcs : ∃ b1 b2, hasB st (q : Int) = b1 ∧ hasB so (q : Int) = b2 ∧ ((b1 = false ∧ b2 = false ∧ x13 < lo) ∨ (b1 = false ∧ b2 = false ∧ lo ≤ x13 ∧ hi < x13) ∨ (b1 = true ∧ b2 = true ∧ lo ≤ x13 ∧ x13 ≤ hi ∧ P1 = 4) ∨ (b1 = true ∧ b2 = false ∧ lo ≤ x13 ∧ x13 ≤ hi ∧ P1 ≠ 4)) := by
            refine ⟨_, _, rfl, rfl, ?_⟩
            rw [h1, h2]
            simp only [inB]
            by_cases g1 : lo ≤ x13
            · by_cases g2 : x13 ≤ hi
              · by_cases g4 : P1 = 4
                · right; right; left; simp [g1, g2, g4]
                · right; right; right; simp [g1, g2, g4]
              · right; left; simp [g1, g2]; omega
            · left; simp [g1]; omega
          obtain ⟨b1, b2, e1, e2, hcs⟩ := hcs
          have HB1 := Lib.hid e1
          have HB2 := Lib.hid e2
          have HCS := Lib.hid hcs
          clear h1 h2 h3 HC HS1 HS2 HX13 e1 e2 hcs hneg
          go_wp2_with fail
          refine (HS1n _ HFq.out.grid).out.mono ?_
          rintro e wa ⟨⟨y, rfl⟩, hba⟩
          have HFa := Lib.hid (HFq.out.below hba)
          have HIa := Lib.hid (And.intro (HIq.out.1.below hba) (HIq.out.2.below hba))
          have HBa := Lib.hid (HBq.out.trans (hba.mono HBq.out.size))
          replace hc13 := cell_kept hba hc13
          clear hba HFq HIq HBq q0 q1 q2 q3
          obtain ⟨q0, q1, q2, q3⟩ := HFa.out.box
          go_wp2_with fail
          refine (HS2n _ HFa.out.grid).out.mono ?_
          rintro e wb ⟨rfl, hbb⟩
          have HFb := Lib.hid (HFa.out.below hbb)
          have HIb := Lib.hid (And.intro (HIa.out.1.below hbb) (HIa.out.2.below hbb))
          have HBb := Lib.hid (HBa.out.trans (hbb.mono HBa.out.size))
          replace hc13 := cell_kept hbb hc13
          clear hbb HFa HIa HBa q0 q1 q2 q3 HS1n HS2n
          rcases HCS.out with ⟨rfl, rfl, g⟩ | ⟨rfl, rfl, g, g'⟩ | ⟨rfl, rfl, g, g', rfl⟩ | ⟨rfl, rfl, g, g', g4⟩
          rotate_left 3
          · have f1 : (P1 == 4) = false := by simpa using g4
            have f2 : decide (P1 = 4) = false := by simpa using g4
            clear g4 HCS
            go_wp2_with fail
            refine (has_b _ _ _ _ st _ _ HIb.out.1 HB1.out).mono ?_
            rintro e wc ⟨rfl, hbc⟩
            have HFc := Lib.hid (HFb.out.below hbc)
            have HIc := Lib.hid (And.intro (HIb.out.1.below hbc) (HIb.out.2.below hbc))
            have HBc := Lib.hid (HBb.out.trans (hbc.mono HBb.out.size))
            replace hc13 := cell_kept hbc hc13
            clear hbc HFb HIb HBb
            go_wp2_with fail
            refine (has_b _ _ _ _ so _ _ HIc.out.2 HB2.out).mono ?_
            rintro e wd ⟨rfl, hbd⟩
            have HFd := Lib.hid (HFc.out.below hbd)
            have HId := Lib.hid (And.intro (HIc.out.1.below hbd) (HIc.out.2.below hbd))
            have HBd := Lib.hid (HBc.out.trans (hbd.mono HBc.out.size))
            replace hc13 := cell_kept hbd hc13
            clear hbd HFc HIc HBc
            go_wp2_with fail
            go_roundw
            case rel => exact ⟨q + 1, by omega, by go_num, HFd.out, HId.out, HBd.out⟩
            case measure => simp [intOf]; omega
          all_goals
            clear HCS
            go_wp2_with fail
            refine (has_b _ _ _ _ st _ _ HIb.out.1 HB1.out).mono ?_
            rintro e wc ⟨rfl, hbc⟩
            have HFc := Lib.hid (HFb.out.below hbc)
            have HIc := Lib.hid (And.intro (HIb.out.1.below hbc) (HIb.out.2.below hbc))
            have HBc := Lib.hid (HBb.out.trans (hbc.mono HBb.out.size))
            replace hc13 := cell_kept hbc hc13
            clear hbc HFb HIb HBb
            go_wp2_with fail
            refine (has_b _ _ _ _ so _ _ HIc.out.2 HB2.out).mono ?_
            rintro e wd ⟨rfl, hbd⟩
            have HFd := Lib.hid (HFc.out.below hbd)
            have HId := Lib.hid (And.intro (HIc.out.1.below hbd) (HIc.out.2.below hbd))
            have HBd := Lib.hid (HBc.out.trans (hbd.mono HBc.out.size))
            replace hc13 := cell_kept hbd hc13
            clear hbd HFc HIc HBc
            go_wp2_with fail
            go_roundw
            case rel => exact ⟨q + 1, by omega, by go_num, HFd.out, HId.out, HBd.out⟩
            case measure => simp [intOf]; omega
end Go.Proofs.Ytknppcgoooaaaaa.fnRelease
