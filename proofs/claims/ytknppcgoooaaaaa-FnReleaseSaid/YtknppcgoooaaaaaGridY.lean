/-
  The steepest slopes of all cells, both sides.
-/
import Derived.Test.YtknppcgoooaaaaaGridT
import Derived.Test.YtknppcgoooaaaaaGridX
import Derived.Test.YtknppcgoooaaaaaGridS
namespace Go.Proofs.Ytknppcgoooaaaaa
open Go.ChangeShapes Go.WideShapes Go.ChangeAt Go.RowKit Go.Deep
set_option linter.unusedVariables false

def gridC (R C S : Int) (hs : List Int) : Int := if gridOk R C S hs = true then 0 else 1
def slopesL (R C S : Int) (hs : List Int) (n : Nat) : List Int := (List.range n).map fun k : Nat => (steep R C S hs (k : Int)).2
def slopesR (R C S : Int) (hs : List Int) (n : Nat) : List Int := if gridOk R C S hs = true then slopesL R C S hs n else []
theorem slopesL_len (R C S : Int) (hs : List Int) (n : Nat) : (slopesL R C S hs n).length = n := by simp [slopesL]
theorem slopesL_at {R C S : Int} {hs : List Int} {n k : Nat} (h : k < n) : (slopesL R C S hs n)[k]? = some (steep R C S hs (k : Int)).2 := by simp [slopesL, h]
theorem slopesL_succ (R C S : Int) (hs : List Int) (n : Nat) : slopesL R C S hs (n + 1) = slopesL R C S hs n ++ [(steep R C S hs (n : Int)).2] := by simp [slopesL, List.range_succ]
theorem steep_cases {R C S k : Int} {hs : List Int} (hall : allB hs 0 5000 = true) (s1 : 1 ≤ S) : ((steep R C S hs k).1 = -1 ∧ (steep R C S hs k).2 = 0) ∨
    ∃ a : Nat, (a < 8 ∧ nbOk R C k a = true) ∧ (steep R C S hs k).1 = (a : Int) ∧ (steep R C S hs k).2 = fallAt C S hs k a ∧ hg hs (nbAt C k a) < hg hs k := steepL hall s1 _ fun a h => h
theorem steep_bd {R C S k : Int} {hs : List Int} (hall : allB hs 0 5000 = true) (s1 : 1 ≤ S) : -5000000001 ≤ (steep R C S hs k).2 ∧ (steep R C S hs k).2 ≤ 5000000001 := by
  rcases steep_cases (R := R) (C := C) (k := k) hall s1 with ⟨_, h⟩ | ⟨a, _, _, h, _⟩
  · omega
  · rw [h]; exact fall_bd hall s1
theorem slopesR_ok (R C S : Int) (hs : List Int) {n : Nat} (hl : hs.length = n) : (∀ y ∈ slopesR R C S hs n, -9223372036854775808 ≤ y ∧ y ≤ 9223372036854775807) ∧ (slopesR R C S hs n).length ≤ 1048576 := by
  unfold slopesR
  split
  · rename_i h
    obtain ⟨⟨r1, r2⟩, ⟨c1, c2⟩, ⟨s1, s2⟩, hn, hall⟩ := gridOk_iff.1 h
    have := mul64 r1 r2 c1 c2
    rw [hl] at hn
    refine ⟨fun y hy => ?_, by rw [slopesL_len]; omega⟩
    simp [slopesL] at hy
    obtain ⟨k, _, rfl⟩ := hy
    have := steep_bd (R := R) (C := C) (k := k) hall s1
    omega
  · simp
theorem BoxG.set {w : World} {b : Nat} {R C S : Int} {A : Option Addr} {n c : Nat} (h : BoxG w b R C S A n c) {p : Addr} (hp : b ≠ p.block) (u : Value) : BoxG (w.setCell p u) b R C S A n c :=
  h.grow (grown_setCell (World.grownBy.refl _ _) rfl u) (fun g hg => by injection hg with hg; rw [← hg]; exact hp)
set_option maxRecDepth 100000 in
set_option maxHeartbeats 1600000 in
theorem SlopesOf_i (R C S : Int) (A : Option Addr) (n c : Nat) (hs : List Int) (w : World) (h : GridA w R C S A n hs) :
    Calls Try.prog 10 #[.agg #[.int .i64 R, .int .i64 C, .int .i64 S, .slice A n c]] w fun e w' => ResI 2 w (slopesR R C S hs n) (gridC R C S hs) e w' := by
  have hl := h.1.1
  have B0 := (Below.refl w.heap.size w).alloc (Nat.le_refl _) (.cells #[.int .i64 R, .int .i64 C, .int .i64 S, .slice A n c] 26)
  have HI := Lib.hid (And.intro (h.below B0) (And.intro B0 (boxG_of w R C S A n c 26)))
  have HW := Lib.hid h
  cases hv : gridOk R C S hs
  · have HE := Lib.hid (show slopesR R C S hs n = [] ∧ gridC R C S hs = 1 by simp [slopesR, gridC, hv])
    have HX := Lib.hid hv
    clear h B0 hv hl
    go_enter Try.func10, Try.ntmps10
    go_wp2_with fail
    refine (ValidGrid_i _ _ _ _ _ _ hs _ HI.out.1).mono ?_
    rintro e w1 ⟨rfl, hb1⟩
    rw [HX.out]
    have HB := Lib.hid (HI.out.2.1.trans (hb1.mono (HI.out.2.1).size))
    clear hb1
    go_wp2_with fail
    go_ret2
    rw [HE.out.1, HE.out.2]
    exact ResI.nil HB.out
  · have HE := Lib.hid (show slopesR R C S hs n = slopesL R C S hs n ∧ gridC R C S hs = 0 by simp [slopesR, gridC, hv])
    obtain ⟨⟨r1, r2⟩, ⟨c1, c2⟩, ⟨s1, s2⟩, hn, hall⟩ := gridOk_iff.1 hv
    have hm := mul64 r1 r2 c1 c2
    have h64 : n ≤ 64 := by omega
    have HA := Lib.hid (And.intro hl (And.intro hn (And.intro hall hv)))
    clear h B0 hv hl hn hall
    have hmk := fun W => run_make_row' (P := Try.prog) 24 2 (.int .i64 0) 8 Try.underlying24 info_int rfl .i64 .i64 n (by omega) (by omega) W
    go_enter Try.func10, Try.ntmps10
    go_wp2_with fail
    refine (ValidGrid_i _ _ _ _ _ _ hs _ HI.out.1).mono ?_
    rintro e w1 ⟨rfl, hb1⟩
    rw [HA.out.2.2.2]
    have HB := Lib.hid (And.intro (HI.out.2.1.trans (hb1.mono (HI.out.2.1).size)) (And.intro (HI.out.2.2.below hb1) (HI.out.1.1.below hb1)))
    have hz1 : w.heap.size + 1 ≤ w1.heap.size := by have := hb1.size; simpa using this
    obtain ⟨p0, p1, p2, p3⟩ := HI.out.2.2.below hb1
    clear hb1
    go_wp2_with fail
    clear p0 p1 p2 p3 hmk
    have hbm := HB.out.1.alloc HB.out.1.size (.cells (madeCells #[.int .i64 0] n) 2)
    go_loopw [17] (fun i wr => ∃ k : Nat, k ≤ n ∧ i = .int .i64 k ∧ wr.rowIs w1.heap.size 2 n (fun j => .int .i64 (if j < k then (steep R C S hs (j : Int)).2 else 0)) ∧ Below w.heap.size w wr ∧ w1.heap.size + 1 ≤ wr.heap.size ∧ BoxG wr w.heap.size R C S A n c ∧ Ints wr A n hs) (fun i _ => n - (intOf i).toNat)
    case atStart => exact ⟨0, Nat.zero_le _, rfl, (World.rowIs_made _ _ _ _).congr (fun _ _ => by simp), hbm, by simp, HB.out.2.1.below ((Below.refl _ _).alloc (Nat.le_refl _) _), HB.out.2.2.below ((Below.refl _ _).alloc (Nat.le_refl _) _)⟩
    case round =>
      clear hbm
      obtain ⟨k, hk, rfl, hrow, hbl, hz, hg, hi⟩ := hrel
      by_cases hlt : k < n
      · have HO := Lib.hid (And.intro hrow (And.intro hbl (And.intro hz (And.intro hg hi))))
        have hki : (k : Int) < (n : Int) := by omega
        obtain ⟨p0, p1, p2, p3⟩ := hg
        clear hrow hbl hi
        obtain ⟨P, hP⟩ : ∃ P, P = steep R C S hs (k : Int) := ⟨_, rfl⟩
        have HP := Lib.hid hP
        clear hP
        by_cases hp : P.1 < 0
        · have HV := Lib.hid (show bestV C k P = .agg #[.int .i64 0, .int .i64 0, .int .i64 0] ∧ foundB P = false by
            unfold bestV foundB
            exact ⟨by rw [if_pos hp], by simp; omega⟩)
          have HZ := Lib.hid (show (steep R C S hs (k : Int)).2 = 0 by
            rcases steep_cases (R := R) (C := C) (k := k) HA.out.2.2.1 s1 with ⟨_, h⟩ | ⟨a, _, h, _⟩
            · exact h
            · rw [HP.out] at hp; omega)
          clear hp
          go_wp2_with fail
          refine (steepest_any R C S A n c k hs _ ⟨HO.out.2.2.2.2, HI.out.1.2⟩ HA.out.2.2.2 hlt).mono ?_
          rintro e w2 ⟨rfl, hb2⟩
          rw [← HP.out, HV.out.1, HV.out.2]
          have HB2 := Lib.hid (hb2.trans ((Below.refl _ w2).alloc (Nat.le_refl _) (.cells #[.int .i64 0, .int .i64 0, .int .i64 0] 53) |>.mono hb2.size))
          clear p0 p1 p2 p3 hb2
          go_wp2_with fail
          go_roundw
          case rel => exact ⟨k + 1, by omega, by go_num, (HO.out.1.of_block (HB2.out.block _ (by omega))).congr (fun j hj => by
            by_cases e : j = k
            · subst e; rw [if_neg (by omega), if_pos (by omega), HZ.out]
            · by_cases e2 : j < k
              · rw [if_pos e2, if_pos (by omega)]
              · rw [if_neg e2, if_neg (by omega)]), HO.out.2.1.trans (HB2.out.mono HO.out.2.1.size), Nat.le_trans HO.out.2.2.1 HB2.out.size, HO.out.2.2.2.1.below HB2.out, HO.out.2.2.2.2.below HB2.out⟩
          case measure => simp [intOf]; omega
        · have HV := Lib.hid (show bestV C k P = .agg #[.int .i64 (nbAt C k P.1.toNat), .int .i64 P.1, .int .i64 P.2] ∧ foundB P = true by
            unfold bestV foundB
            exact ⟨by rw [if_neg hp], by simp; omega⟩)
          clear hp
          go_wp2_with fail
          refine (steepest_any R C S A n c k hs _ ⟨HO.out.2.2.2.2, HI.out.1.2⟩ HA.out.2.2.2 hlt).mono ?_
          rintro e w2 ⟨rfl, hb2⟩
          rw [← HP.out, HV.out.1, HV.out.2]
          have HB2 := Lib.hid (hb2.trans ((Below.refl _ w2).alloc (Nat.le_refl _) (.cells #[.int .i64 (nbAt C k P.1.toNat), .int .i64 P.1, .int .i64 P.2] 53) |>.mono hb2.size))
          have hrow2 := HO.out.1.of_block (hb2.block _ (by omega))
          have hc0 := hrow2.cell hlt
          have hf0 := hrow2.frozen k
          have hz2 : w1.heap.size < w2.heap.size := by have := hb2.size; omega
          have HBA := Lib.hid (show Below (w2.setCell ⟨w1.heap.size, k, none⟩ (.int .i64 P.2)).heap.size _ ((w2.setCell ⟨w1.heap.size, k, none⟩ (.int .i64 P.2)).alloc (.cells #[.int .i64 (nbAt C k P.1.toNat), .int .i64 P.1, .int .i64 P.2] 53)) from (Below.refl _ _).alloc (Nat.le_refl _) _)
          have HR := Lib.hid (((hrow2.set k (.int .i64 P.2)).congr (g := fun j => .int .i64 (if j < k + 1 then (steep R C S hs (j : Int)).2 else 0)) (fun j hj => by
            by_cases e : j = k
            · subst e; rw [if_pos rfl, if_pos (by omega), HP.out]
            · by_cases e2 : j < k
              · rw [if_neg e, if_pos e2, if_pos (by omega)]
              · rw [if_neg e, if_neg e2, if_neg (by omega)])).of_block (HBA.out.block _ (by simp [World.setCell]; omega)))
          have HS0 := And.intro ((HO.out.2.1.trans (hb2.mono HO.out.2.1.size)).setCell (p := ⟨w1.heap.size, k, none⟩) (by show _ ≤ w1.heap.size; omega) (.int .i64 P.2)) (And.intro ((HO.out.2.2.2.1.below hb2).set (p := ⟨w1.heap.size, k, none⟩) (by show _ ≠ w1.heap.size; omega) (.int .i64 P.2)) ((HO.out.2.2.2.2.below hb2).old (grown_setCell (World.grownBy.refl _ _) (g := w1.heap.size) (p := ⟨w1.heap.size, k, none⟩) rfl (.int .i64 P.2)) HW.out.1 (fun g hg => by injection hg with hg; omega)))
          have HS := Lib.hid (And.intro (HS0.1.trans (HBA.out.mono HS0.1.size)) (And.intro (HS0.2.1.below HBA.out) (HS0.2.2.below HBA.out)))
          clear HS0
          clear p0 p1 p2 p3 hb2 hrow2
          go_wp2_with fail
          go_roundw
          case rel => exact ⟨k + 1, by omega, by go_num, HR.out, HS.out.1, by have := HB2.out.size; have := HO.out.2.2.1; simp [World.setCell]; omega, HS.out.2.1, HS.out.2.2⟩
          case measure => simp [intOf]; omega
      · obtain rfl : k = n := by omega
        have hll := slopesL_len R C S hs k
        have HO := Lib.hid (rowIs_to_own (n := k) (cap := k) (size := 1) (base := w.heap.size) (xs := (slopesL R C S hs k).map (.int .i64)) (by simpa using hrow) (by omega) (Nat.le_refl _) (by unfold maxLen; omega) (by simp [hll]) (fun j hj => by
          have hj' : j < k := by omega
          rw [List.getElem?_map, slopesL_at hj', if_pos hj']
          rfl))
        have HF := Lib.hid (And.intro hll hbl)
        clear hrow hbl hi hg hlt hll
        go_wp2_with fail
        go_ret2
        rw [HE.out.1, HE.out.2]
        exact ⟨_, _, by rw [HF.out.1]; rfl, by rw [HF.out.1]; exact Fresh.of_own HO.out, HF.out.2⟩
end Go.Proofs.Ytknppcgoooaaaaa
