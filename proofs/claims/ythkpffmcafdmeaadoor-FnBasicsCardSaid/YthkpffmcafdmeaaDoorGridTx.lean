/-
  A grid as a text: both sides.
-/
import Derived.Test.YthkpffmcafdmeaaDoorListI
import Derived.Test.YthkpffmcafdmeaaDoorListS
import Derived.Test.YthkpffmcafdmeaaDoorGridV
import Derived.Test.YthkpffmcafdmeaaDoorSrcP
import Derived.Deep.RegionHeld3
namespace Go.Proofs.YthkpffmcafdmeaaDoor
open Go.ChangeShapes Go.WideShapes Go.ChangeAt Go.RowKit Go.Deep
set_option linter.unusedVariables false

def grdT (R C S : Int) (hs : List Int) : List UInt8 := lstT [R, C, S] ++ 58 :: lstT hs
def grdS (R C S : Int) (hs : List Int) : List UInt8 := if gridOk R C S hs = true then grdT R C S hs else []
theorem lst_size {xs : List Int} (h : fitsB xs = true) : (⟨(lstT xs).toArray⟩ : ByteArray).size ≤ 10000 := by
  have h1 := fits_iff.1 h
  show (lstT xs).toArray.size ≤ 10000
  rw [List.size_toArray, lstT]
  split
  · simp
  · have h2 : (Lib.join (xs.map Lib.itoa) [44]).length ≤ (xs.map Lib.itoa).length * (100 + [44].length) := join_le fun y hy => by
      obtain ⟨x, hx, rfl⟩ := List.mem_map.1 hy
      have h3 := h1.2 x hx
      have l1 := Lib.itoa_length_le x (by omega) (by omega)
      omega
    rw [List.length_map, List.length_singleton] at h2
    omega
theorem grid_fits {R C S : Int} {hs : List Int} (h : gridOk R C S hs = true) : fitsB [R, C, S] = true ∧ fitsB hs = true := by
  obtain ⟨⟨r1, r2⟩, ⟨c1, c2⟩, ⟨s1, s2⟩, hn, hall⟩ := gridOk_iff.1 h
  have hm := mul64 r1 r2 c1 c2
  refine ⟨fits_iff.2 ⟨by simp, ?_⟩, fits_iff.2 ⟨by omega, ?_⟩⟩
  · intro x hx
    simp only [List.mem_cons, List.not_mem_nil, or_false] at hx
    omega
  · intro x hx
    obtain ⟨i, hi, e⟩ := List.getElem_of_mem hx
    have := allB_iff.1 hall i x (by rw [List.getElem?_eq_getElem hi, e])
    omega
theorem grd_app (R C S : Int) (hs : List Int) : (⟨(lstT [R, C, S]).toArray⟩ : ByteArray) ++ { data := #[58] } ++ ⟨(lstT hs).toArray⟩ = ⟨(grdT R C S hs).toArray⟩ := by
  rw [bA_lit, bA_app, bA_app, grdT]; simp
theorem g_call {B0 : Nat} {R C S : Int} {A : Option Addr} {n c : Nat} {W0 W W' : World} (H : W.cell? ⟨B0, 0, none⟩ = some (.int .i64 R) ∧ W.cell? ⟨B0, 1, none⟩ = some (.int .i64 C) ∧ W.cell? ⟨B0, 2, none⟩ = some (.int .i64 S) ∧ W.cell? ⟨B0, 3, none⟩ = some (.slice A n c) ∧ Below W0.heap.size W0 W) (hb : Below W.heap.size W W') :
    W'.cell? ⟨B0, 0, none⟩ = some (.int .i64 R) ∧ W'.cell? ⟨B0, 1, none⟩ = some (.int .i64 C) ∧ W'.cell? ⟨B0, 2, none⟩ = some (.int .i64 S) ∧ W'.cell? ⟨B0, 3, none⟩ = some (.slice A n c) ∧ Below W0.heap.size W0 W' :=
  ⟨cell_kept hb H.1, cell_kept hb H.2.1, cell_kept hb H.2.2.1, cell_kept hb H.2.2.2.1, H.2.2.2.2.trans (hb.mono H.2.2.2.2.size)⟩
theorem g_drew {B0 : Nat} {R C S : Int} {A : Option Addr} {n c : Nat} {W0 W : World} (H : W.cell? ⟨B0, 0, none⟩ = some (.int .i64 R) ∧ W.cell? ⟨B0, 1, none⟩ = some (.int .i64 C) ∧ W.cell? ⟨B0, 2, none⟩ = some (.int .i64 S) ∧ W.cell? ⟨B0, 3, none⟩ = some (.slice A n c) ∧ Below W0.heap.size W0 W) :
    W.drew.cell? ⟨B0, 0, none⟩ = some (.int .i64 R) ∧ W.drew.cell? ⟨B0, 1, none⟩ = some (.int .i64 C) ∧ W.drew.cell? ⟨B0, 2, none⟩ = some (.int .i64 S) ∧ W.drew.cell? ⟨B0, 3, none⟩ = some (.slice A n c) ∧ Below W0.heap.size W0 W.drew :=
  ⟨H.1, H.2.1, H.2.2.1, H.2.2.2.1, H.2.2.2.2.drew⟩
theorem g_alloc {B0 : Nat} {R C S : Int} {A : Option Addr} {n c : Nat} {W0 W : World} {o : Obj} (H : W.cell? ⟨B0, 0, none⟩ = some (.int .i64 R) ∧ W.cell? ⟨B0, 1, none⟩ = some (.int .i64 C) ∧ W.cell? ⟨B0, 2, none⟩ = some (.int .i64 S) ∧ W.cell? ⟨B0, 3, none⟩ = some (.slice A n c) ∧ Below W0.heap.size W0 W) :
    (W.alloc o).cell? ⟨B0, 0, none⟩ = some (.int .i64 R) ∧ (W.alloc o).cell? ⟨B0, 1, none⟩ = some (.int .i64 C) ∧ (W.alloc o).cell? ⟨B0, 2, none⟩ = some (.int .i64 S) ∧ (W.alloc o).cell? ⟨B0, 3, none⟩ = some (.slice A n c) ∧ Below W0.heap.size W0 (W.alloc o) := g_call H ((Below.refl _ _).alloc (Nat.le_refl _) _)
theorem g_below {B0 : Nat} {R C S : Int} {A : Option Addr} {n c : Nat} {W0 W : World} (H : W.cell? ⟨B0, 0, none⟩ = some (.int .i64 R) ∧ W.cell? ⟨B0, 1, none⟩ = some (.int .i64 C) ∧ W.cell? ⟨B0, 2, none⟩ = some (.int .i64 S) ∧ W.cell? ⟨B0, 3, none⟩ = some (.slice A n c) ∧ Below W0.heap.size W0 W) : Below W0.heap.size W0 W := H.2.2.2.2
set_option maxRecDepth 100000 in
set_option maxHeartbeats 3200000 in
theorem GridText_i (R C S : Int) (A : Option Addr) (n c : Nat) (hs : List Int) (w : World) (h : GridA w R C S A n hs) (ht : Tab w) :
    Calls Tryd.prog 18 #[.agg #[.int .i64 R, .int .i64 C, .int .i64 S, .slice A n c]] w fun e w' => e = .returned (.string ⟨(grdS R C S hs).toArray⟩) ∧ Below w.heap.size w w' := by
  have hba : Below w.heap.size w (w.alloc (.cells #[.int .i64 R, .int .i64 C, .int .i64 S, .slice A n c] 34)) := (Below.refl _ _).alloc (Nat.le_refl _) _
  have HP := Lib.hid (And.intro (h.below hba) (And.intro (ht.below hba) hba))
  have HX := Lib.hid (boxG_of w R C S A n c 34)
  clear h ht hba
  cases hv : gridOk R C S hs
  · have HE := Lib.hid (show (⟨(grdS R C S hs).toArray⟩ : ByteArray) = { data := #[] } by rw [grdS, hv]; rfl)
    rw [HE.out]
    have HV := Lib.hid hv
    clear hv
    go_enter Tryd.func18, Tryd.ntmps18
    go_wp2_with fail
    refine (ValidGrid_i R C S A n c hs _ HP.out.1).mono ?_
    rintro e w1 ⟨rfl, hb1⟩
    rw [HV.out]
    have H1 := Lib.hid (HP.out.2.2.trans (hb1.mono HP.out.2.2.size))
    clear hb1
    go_wp2_with fail
    go_ret
    exact ⟨rfl, H1.out⟩
  have HE := Lib.hid (show (⟨(grdS R C S hs).toArray⟩ : ByteArray) = ⟨(grdT R C S hs).toArray⟩ by rw [grdS, hv]; rfl)
  rw [HE.out]
  have HV := Lib.hid hv
  clear hv
  go_enter Tryd.func18, Tryd.ntmps18
  go_wp2_with fail
  refine (ValidGrid_i R C S A n c hs _ HP.out.1).mono ?_
  rintro e w1 ⟨rfl, hb1⟩
  rw [HV.out]
  have H1 := Lib.hid (And.intro (HP.out.2.2.trans (hb1.mono HP.out.2.2.size)) (And.intro (HP.out.1.below hb1) (HP.out.2.1.below hb1)))
  obtain ⟨p0, p1, p2, p3⟩ := HX.out.below hb1
  clear hb1
  have hz1 := H1.out.1.size
  obtain ⟨T1, hT1⟩ : ∃ T1 : ByteArray, T1 = ⟨(lstT [R, C, S]).toArray⟩ := ⟨_, rfl⟩
  obtain ⟨T2, hT2⟩ : ∃ T2 : ByteArray, T2 = ⟨(lstT hs).toArray⟩ := ⟨_, rfl⟩
  have hs1 : T1.size ≤ 10000 := by rw [hT1]; exact lst_size (grid_fits HV.out).1
  have hs2 : T2.size ≤ 10000 := by rw [hT2]; exact lst_size (grid_fits HV.out).2
  have hblit : Below w1.heap.size w1 (w1.alloc (.cells #[.int .i64 R, .int .i64 C, .int .i64 S] 2)).drew := ((Below.refl _ _).alloc (Nat.le_refl _) _).drew
  have HC1 := Lib.hid ((ListText_i _ 3 3 [R, C, S] (w1.alloc (.cells #[.int .i64 R, .int .i64 C, .int .i64 S] 2)).drew (ints_lit w1 [R, C, S] #[.int .i64 R, .int .i64 C, .int .i64 S] 2 rfl (by simp) (by
    intro x hx; simp only [List.mem_cons, List.not_mem_nil, or_false] at hx
    rcases hx with rfl | rfl | rfl
    · exact H1.out.2.1.2.1
    · exact H1.out.2.1.2.2.1
    · exact H1.out.2.1.2.2.2)) (H1.out.2.2.below hblit)).mono (fun e w' (h : _ ∧ _) => (show e = .returned (.string T1) ∧ Below (w1.alloc (.cells #[.int .i64 R, .int .i64 C, .int .i64 S] 2)).drew.heap.size (w1.alloc (.cells #[.int .i64 R, .int .i64 C, .int .i64 S] 2)).drew w' from ⟨by rw [h.1, hT1, lstS, if_pos (grid_fits HV.out).1], h.2⟩)))
  clear hblit
  have HC2 := fun (W : World) (hW : Below w1.heap.size w1 W) => Lib.hid ((ListText_i A n c hs W (H1.out.2.1.1.below hW) (H1.out.2.2.below hW)).mono (fun e w' (h : _ ∧ _) => (show e = .returned (.string T2) ∧ Below W.heap.size W w' from ⟨by rw [h.1, hT2, lstS, if_pos (grid_fits HV.out).2], h.2⟩)))
  have HT := Lib.hid (And.intro hT1 hT2)
  clear hT1 hT2
  have e58 : ({ data := #[58] } : ByteArray).size = 1 := rfl
  have hq1 : (9223372036854775807 < T1.size + 1) = False := eq_false (by omega)
  have hq2 : (9223372036854775807 < T1.size + ({ data := #[58] } : ByteArray).size) = False := eq_false (by omega)
  have hq3 : (9223372036854775807 < T1.size + 1 + T2.size) = False := eq_false (by omega)
  have hq4 : (9223372036854775807 < T1.size + ({ data := #[58] } : ByteArray).size + T2.size) = False := eq_false (by omega)
  have hq5 : (9223372036854775807 < (T1 ++ { data := #[58] }).size + T2.size) = False := eq_false (by rw [ByteArray.size_append]; omega)
  clear e58
  have HS0 : w1.cell? ⟨w.heap.size, 0, none⟩ = some (.int .i64 R) ∧ w1.cell? ⟨w.heap.size, 1, none⟩ = some (.int .i64 C) ∧ w1.cell? ⟨w.heap.size, 2, none⟩ = some (.int .i64 S) ∧ w1.cell? ⟨w.heap.size, 3, none⟩ = some (.slice A n c) ∧ Below w1.heap.size w1 w1 := ⟨p0, p1, p2, p3, Below.refl _ _⟩
  go_wp2_with fail
  go_region_held3 (fun W => W.cell? ⟨w.heap.size, 0, none⟩ = some (.int .i64 R) ∧ W.cell? ⟨w.heap.size, 1, none⟩ = some (.int .i64 C) ∧ W.cell? ⟨w.heap.size, 2, none⟩ = some (.int .i64 S) ∧ W.cell? ⟨w.heap.size, 3, none⟩ = some (.slice A n c) ∧ Below w1.heap.size w1 W)
    (first | assumption | exact HS0 | exact g_drew HS0 | exact g_drew (by assumption) | exact g_call (by assumption) hb2 | exact g_alloc HS0 | exact g_alloc (g_drew HS0) | exact g_alloc (by assumption))
    ((go_at_call 36; (first | (with_reducible refine HC1.out.mono ?_) | (with_reducible refine (HC2 _ (by first | exact (Below.refl _ _).drew | exact g_below HS0 | exact g_below (by assumption))).out.mono ?_)); rintro e w2 ⟨rfl, hb2⟩))
  all_goals
    have HB := Lib.hid (H1.out.1.trans ((g_below (by assumption : _ ∧ _ ∧ _ ∧ _ ∧ Below w1.heap.size w1 _)).mono hz1))
    go_wp2_with fail
    go_ret
    exact ⟨ret_str (by rw [← grd_app, ← HT.out.1, ← HT.out.2]), HB.out⟩
set_option maxRecDepth 100000 in
set_option maxHeartbeats 3200000 in
theorem l09Text_s (B0 : Nat) (R C S : Int) (A : Option Addr) (n c : Nat) (hs : List Int) (w1 : World) (h : GridAt w1 B0 R C S A n c hs) (hv : gridOk R C S hs = true) :
    Calls Tryd.prog 69 #[.pointer (some ⟨B0, 0, none⟩)] w1 fun e w' => e = .returned (.string ⟨(grdT R C S hs).toArray⟩) ∧ Below w1.heap.size w1 w' := by
  obtain ⟨p0, p1, p2, p3, hg⟩ := h
  obtain ⟨⟨r1, r2⟩, ⟨c1, c2⟩, ⟨s1, s2⟩, hn, hall⟩ := gridOk_iff.1 hv
  have hm := mul64 r1 r2 c1 c2
  have hl := hg.1.1
  obtain ⟨T1, hT1⟩ : ∃ T1 : ByteArray, T1 = ⟨(lstT [R, C, S]).toArray⟩ := ⟨_, rfl⟩
  obtain ⟨T2, hT2⟩ : ∃ T2 : ByteArray, T2 = ⟨(lstT hs).toArray⟩ := ⟨_, rfl⟩
  have hs1 : T1.size ≤ 10000 := by rw [hT1]; exact lst_size (grid_fits hv).1
  have hs2 : T2.size ≤ 10000 := by rw [hT2]; exact lst_size (grid_fits hv).2
  have HC1 := Lib.hid ((l01List_s _ 3 3 [R, C, S] (w1.alloc (.cells #[.int .i64 R, .int .i64 C, .int .i64 S] 2)).drew (ints_lit w1 [R, C, S] #[.int .i64 R, .int .i64 C, .int .i64 S] 2 rfl (by simp) (by
    intro x hx; simp only [List.mem_cons, List.not_mem_nil, or_false] at hx
    rcases hx with rfl | rfl | rfl <;> omega)) (by omega) (by
    intro x hx; simp only [List.mem_cons, List.not_mem_nil, or_false] at hx
    rcases hx with rfl | rfl | rfl <;> omega)).mono (fun e w' (h : _ ∧ _) => (show e = .returned (.string T1) ∧ Below (w1.alloc (.cells #[.int .i64 R, .int .i64 C, .int .i64 S] 2)).drew.heap.size (w1.alloc (.cells #[.int .i64 R, .int .i64 C, .int .i64 S] 2)).drew w' from ⟨by rw [h.1, hT1], h.2⟩)))
  have HC2 := fun (W : World) (hW : Below w1.heap.size w1 W) => Lib.hid ((l01List_s A n c hs W (hg.1.below hW) (by omega) (by
    intro x hx
    obtain ⟨i, hi, e⟩ := List.getElem_of_mem hx
    have := allB_iff.1 hall i x (by rw [List.getElem?_eq_getElem hi, e])
    omega)).mono (fun e w' (h : _ ∧ _) => (show e = .returned (.string T2) ∧ Below W.heap.size W w' from ⟨by rw [h.1, hT2], h.2⟩)))
  have HT := Lib.hid (And.intro hT1 hT2)
  clear hT1 hT2 hv hn hall hm hg hl r1 r2 c1 c2 s1 s2
  have e58 : ({ data := #[58] } : ByteArray).size = 1 := rfl
  have hq1 : (9223372036854775807 < T1.size + 1) = False := eq_false (by omega)
  have hq2 : (9223372036854775807 < T1.size + ({ data := #[58] } : ByteArray).size) = False := eq_false (by omega)
  have hq3 : (9223372036854775807 < T1.size + 1 + T2.size) = False := eq_false (by omega)
  have hq4 : (9223372036854775807 < T1.size + ({ data := #[58] } : ByteArray).size + T2.size) = False := eq_false (by omega)
  have hq5 : (9223372036854775807 < (T1 ++ { data := #[58] }).size + T2.size) = False := eq_false (by rw [ByteArray.size_append]; omega)
  clear e58
  have HS0 : w1.cell? ⟨B0, 0, none⟩ = some (.int .i64 R) ∧ w1.cell? ⟨B0, 1, none⟩ = some (.int .i64 C) ∧ w1.cell? ⟨B0, 2, none⟩ = some (.int .i64 S) ∧ w1.cell? ⟨B0, 3, none⟩ = some (.slice A n c) ∧ Below w1.heap.size w1 w1 := ⟨p0, p1, p2, p3, Below.refl _ _⟩
  go_enter Tryd.func69, Tryd.ntmps69
  go_wp2_with fail
  go_region_held3 (fun W => W.cell? ⟨B0, 0, none⟩ = some (.int .i64 R) ∧ W.cell? ⟨B0, 1, none⟩ = some (.int .i64 C) ∧ W.cell? ⟨B0, 2, none⟩ = some (.int .i64 S) ∧ W.cell? ⟨B0, 3, none⟩ = some (.slice A n c) ∧ Below w1.heap.size w1 W)
    (first | assumption | exact HS0 | exact g_drew HS0 | exact g_drew (by assumption) | exact g_call (by assumption) hb2 | exact g_alloc HS0 | exact g_alloc (g_drew HS0) | exact g_alloc (by assumption))
    ((go_at_call 113; (first | (with_reducible refine HC1.out.mono ?_) | (with_reducible refine (HC2 _ (by first | exact (Below.refl _ _).drew | exact g_below HS0 | exact g_below (by assumption))).out.mono ?_)); rintro e w2 ⟨rfl, hb2⟩))
  all_goals
    have HB := Lib.hid (g_below (by assumption : _ ∧ _ ∧ _ ∧ _ ∧ Below w1.heap.size w1 _))
    go_wp2_with fail
    go_ret
    exact ⟨ret_str (by rw [← grd_app, ← HT.out.1, ← HT.out.2]), HB.out⟩
theorem GridText_s (R C S : Int) (A : Option Addr) (n c : Nat) (hs : List Int) (w : World) (h : GridA w R C S A n hs) :
    Calls Tryd.prog 16 #[.agg #[.int .i64 R, .int .i64 C, .int .i64 S, .slice A n c]] w fun e w' => e = .returned (.string ⟨(grdS R C S hs).toArray⟩) ∧ Below w.heap.size w w' := by
  have HG := Lib.hid (And.intro (h.box (c := c) 34) ((Below.refl w.heap.size w).alloc (Nat.le_refl _) (.cells #[.int .i64 R, .int .i64 C, .int .i64 S, .slice A n c] 34)))
  clear h
  cases hv : gridOk R C S hs
  · have HE := Lib.hid (show (⟨(grdS R C S hs).toArray⟩ : ByteArray) = { data := #[] } by rw [grdS, hv]; rfl)
    rw [HE.out]
    have HV := Lib.hid hv
    clear hv
    go_enter Tryd.func16, Tryd.ntmps16
    go_wp2_with fail
    refine (l09Ok_any _ R C S A n c hs _ HG.out.1).mono ?_
    rintro e w1 ⟨rfl, q1, rfl⟩
    rw [HV.out]
    go_wp2_with fail
    go_ret
    exact ⟨rfl, below_drewN HG.out.2 _⟩
  · have HE := Lib.hid (show (⟨(grdS R C S hs).toArray⟩ : ByteArray) = ⟨(grdT R C S hs).toArray⟩ by rw [grdS, hv]; rfl)
    rw [HE.out]
    have HV := Lib.hid hv
    clear hv
    go_enter Tryd.func16, Tryd.ntmps16
    go_wp2_with fail
    refine (l09Ok_any _ R C S A n c hs _ HG.out.1).mono ?_
    rintro e w1 ⟨rfl, q1, rfl⟩
    rw [HV.out]
    have H1 := Lib.hid (below_drewN HG.out.2 q1)
    go_wp2_with fail
    refine (l09Text_s _ R C S A n c hs _ (HG.out.1.drewN q1) HV.out).mono ?_
    rintro e w2 ⟨rfl, hb2⟩
    have H2 := Lib.hid (H1.out.trans (hb2.mono H1.out.size))
    clear hb2
    go_wp2_with fail
    go_ret
    exact ⟨rfl, H2.out⟩
end Go.Proofs.YthkpffmcafdmeaaDoor
