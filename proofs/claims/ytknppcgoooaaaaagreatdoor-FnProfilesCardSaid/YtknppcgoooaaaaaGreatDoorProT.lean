/-
  A profile as a text.
-/
import Derived.Test.YtknppcgoooaaaaaGreatDoorListI
import Derived.Test.YtknppcgoooaaaaaGreatDoorSrcP
import Derived.Test.YtknppcgoooaaaaaGreatDoorTxtB
import Derived.Test.YtknppcgoooaaaaaGreatDoorLyX
namespace Go.Proofs.YtknppcgoooaaaaaGreatDoor
open Go.ChangeShapes Go.WideShapes Go.ChangeAt Go.RowKit Go.Deep
set_option linter.unusedVariables false

def numsL (x : Ly) : List Int := [x.form, x.ice, x.water, x.dens, x.deg, x.hard, x.age]
def layB (x : Ly) : ByteArray := ⟨(lstS (numsL x)).toArray⟩
def proT (ls : List Ly) : List UInt8 := if ls = [] then [45] else Lib.join (ls.map fun x => lstT (numsL x)) [59]
theorem nums_fit {x : Ly} (h : LyOk x) : fitsB (numsL x) = true := by
  refine fits_iff.2 ⟨by simp [numsL], fun y hy => ?_⟩
  have := h.f; have := h.i; have := h.v; have := h.d; have := h.g; have := h.h; have := h.a
  simp only [numsL, List.mem_cons, List.not_mem_nil, or_false] at hy
  omega
theorem lay_data {x : Ly} (h : LyOk x) : (layB x).data.toList = lstT (numsL x) := by
  simp [layB, lstS, nums_fit h]
theorem nums_len {x : Ly} (h : LyOk x) : (lstT (numsL x)).length ≤ 1000 := by
  have e : lstT (numsL x) = Lib.join ((numsL x).map Lib.itoa) [44] := by rw [lstT, if_neg (by simp [numsL])]
  have h1 := join_le (sep := [44]) (B := 100) (xs := (numsL x).map Lib.itoa) (fun y hy => by
    simp only [List.mem_map] at hy
    obtain ⟨z, hz, rfl⟩ := hy
    have hf := (fits_iff.1 (nums_fit h)).2 z hz
    have := Lib.itoa_length_le z (by omega) (by omega)
    omega)
  rw [e]
  have h2 : ((numsL x).map Lib.itoa).length = 7 := by simp [numsL]
  rw [h2] at h1
  simp at h1
  omega
theorem lay_ints (w : World) (O : Obj) (T : TypeId) {f i v d t h a : Int} (B : Lb f i v d t h a) :
    Ints ((w.alloc O).alloc (.cells #[.int .i64 f, .int .i64 i, .int .i64 v, .int .i64 d, .int .i64 t, .int .i64 h, .int .i64 a] T)) (some ⟨w.heap.size + 1, 0, none⟩) 7 [f, i, v, d, t, h, a] := by
  have h1 := ints_lit (w.alloc O) [f, i, v, d, t, h, a] _ T rfl (by simp) (by
    intro y hy
    obtain ⟨b0, b1, b2, b3, b4, b5, b6⟩ := B
    simp only [List.mem_cons, List.not_mem_nil, or_false] at hy
    omega)
  rw [show (w.alloc O).heap.size = w.heap.size + 1 by simp] at h1
  exact h1
set_option maxRecDepth 100000 in
set_option maxHeartbeats 3200000 in
theorem ProfileText_i (A : Option Addr) (n c : Nat) (ls : List Ly) (w : World) (H : Lys w A n ls) (ht : Tab w) :
    Calls Tryz.prog 23 #[.slice A n c] w fun e w' => e = .returned (.string ⟨(proT ls).toArray⟩) ∧ Below w.heap.size w w' := by
  have hn := H.2.1
  have HL := Lib.hid H.1
  have HOK := Lib.hid H.2.2.1
  by_cases hz : n = 0
  · subst hz
    obtain rfl : ls = [] := List.length_eq_zero_iff.1 H.1
    go_enter Tryz.func23, Tryz.ntmps23
    go_wp2_with fail
    refine (ValidProfile_t A 0 _ [] _ H).mono ?_
    rintro e w1 ⟨rfl, hb1⟩
    have HB := Lib.hid hb1
    clear hb1 H ht
    go_wp2_with fail
    go_ret
    exact ⟨rfl, HB.out⟩
  have hnz : ¬ (n : Int) = 0 := by omega
  have hnb : ((n : Int) == 0) = false := by rw [beq_eq_false_iff_ne]; omega
  have hnc : (n == 0) = false := by rw [beq_eq_false_iff_ne]; omega
  have HT := Lib.hid ht
  clear ht
  go_enter Tryz.func23, Tryz.ntmps23
  go_wp2_with fail
  refine (ValidProfile_t A n _ ls _ H).mono ?_
  rintro e w1 ⟨rfl, hb1⟩
  have H1 := Lib.hid (And.intro hb1 (And.intro (H.below hb1) (HT.out.below hb1)))
  clear hb1 H HT
  go_wp2_with fail
  go_loopw [3, 5, 16] (fun v _ iv wr => ∃ k : Nat, k ≤ n ∧ iv = .int .i64 k ∧ (∃ A' c', v = .slice A' k c') ∧ Hid (wr.ownsRow w1.heap.size 9 1 v k ((ls.take k).map layB |>.map .string)) ∧ Hid (Below w1.heap.size w1 wr)) (fun _ _ iv _ => n - (intOf iv).toNat)
  case atStart => exact ⟨0, Nat.zero_le _, rfl, ⟨none, 0, rfl⟩, World.ownsRow_nil _ _ _ _, Below.refl _ _⟩
  case round =>
    obtain ⟨k, hk, rfl, ⟨A', c', rfl⟩, HO, HB⟩ := hrel
    by_cases hlt : k < n
    · obtain ⟨b, off, f, i, v, d, g, h, a, rfl, HX, hc, hb⟩ := (H1.out.2.1.below HB.out).at_ hlt
      have hki : (k : Int) < (n : Int) := by omega
      have HBB := Lib.hid hb
      obtain ⟨c0, c1, c2, c3, c4, c5, c6⟩ := hc
      obtain ⟨W0, hW0⟩ : ∃ W0, W0 = (wr.alloc (.cells #[.int .i64 f, .int .i64 i, .int .i64 v, .int .i64 d, .int .i64 g, .int .i64 h, .int .i64 a] 44)).alloc (.cells #[.int .i64 f, .int .i64 i, .int .i64 v, .int .i64 d, .int .i64 g, .int .i64 h, .int .i64 a] 2) := ⟨_, rfl⟩
      have hBW : Below wr.heap.size wr W0 := by rw [hW0]; exact ((Below.refl _ _).alloc (Nat.le_refl _) _).alloc (by simp) _
      have hIN : Ints W0 (some ⟨wr.heap.size + 1, 0, none⟩) 7 [f, i, v, d, g, h, a] := by rw [hW0]; exact lay_ints wr _ _ hb
      have HW := Lib.hid hW0
      have HI := Lib.hid hIN
      have H2 := Lib.hid (And.intro (HB.out.trans (hBW.mono HB.out.size)) (And.intro (own_below HO.out hBW) ((H1.out.2.2.below HB.out).below hBW)))
      clear hW0 hBW hIN hb
      go_wp2_with fail
      rw [← HW.out]
      refine (ListText_i _ 7 7 _ _ HI.out H2.out.2.2).mono ?_
      rintro e w2 ⟨rfl, hb2⟩
      obtain ⟨S, hS⟩ : ∃ S : ByteArray, S = ⟨(lstS [f, i, v, d, g, h, a]).toArray⟩ := ⟨_, rfl⟩
      rw [← hS]
      have hz2 : w1.heap.size ≤ w2.heap.size := Nat.le_trans H2.out.1.size hb2.size
      have H3 := Lib.hid (And.intro (H2.out.1.trans (hb2.mono H2.out.1.size)) (own_below H2.out.2.1 hb2))
      have HS := Lib.hid hS
      clear hb2 hS c0 c1 c2 c3 c4 c5 c6 HW HI H2
      go_wp2_with (refine wp_app_str rfl (.tmp 20) (.tmp 37) 68 rfl w1.heap.size 9 Tryz.underlying68 info_str _ k ((ls.take k).map layB) _ rfl H3.out.2 rfl (by omega) hz2 ?_; intro v' w3 hown3 hgrow3 hv3)
      have HB4 := Lib.hid (below_app H3.out.1 H3.out.2 hgrow3 hz2 (Nat.le_refl _))
      have e1 : (ls.take k).map layB ++ [S] = (ls.take (k + 1)).map layB := by
        rw [List.take_add_one, HX.out, HS.out]
        simp [layB, numsL]
      have HO4 := Lib.hid (show w3.ownsRow w1.heap.size 9 1 v' (k + 1) (((ls.take (k + 1)).map layB).map .string) by rw [← e1]; exact hown3)
      obtain ⟨g3, c3, rfl⟩ := hv3
      clear hown3 hgrow3 e1
      go_wp2_with fail
      go_roundw
      case rel => exact ⟨k + 1, by omega, by go_num, ⟨_, _, rfl⟩, HO4.out, HB4.out⟩
      case measure => simp [intOf]; omega
    · obtain rfl : k = n := by omega
      have HOK2 := Lib.hid (show wr.ownsRow w1.heap.size 9 1 (.slice A' k c') k ((ls.map layB).map .string) by have := HO.out; rwa [List.take_of_length_le (by rw [HL.out]; exact Nat.le_refl _)] at this)
      have he : (ls.map layB).map (·.data.toList) = ls.map fun x => lstT (numsL x) := by
        rw [List.map_map]
        exact List.map_congr_left fun x hx => lay_data (HOK.out x hx)
      have HJ := Lib.hid (join_row w1.heap.size A' k c' (ls.map layB) { data := #[59] } wr HOK2.out (by omega) (by omega) (by rw [List.length_map, HL.out]) (by
        rw [he]
        have h1 := join_le (sep := [59]) (B := 1000) (xs := ls.map fun x => lstT (numsL x)) (fun y hy => by
          simp only [List.mem_map] at hy
          obtain ⟨x, hx, rfl⟩ := hy
          exact nums_len (HOK.out x hx))
        rw [List.length_map, HL.out] at h1
        have h2 : k * (1000 + [(59 : UInt8)].length) ≤ 16 * 1001 := Nat.mul_le_mul hn (by simp)
        have h3 : ({ data := #[59] } : ByteArray).data.toList = [59] := rfl
        rw [h3]
        omega))
      have HE := Lib.hid (show (⟨(Lib.join ((ls.map layB).map (·.data.toList)) ({ data := #[59] } : ByteArray).data.toList).toArray⟩ : ByteArray) = ⟨(proT ls).toArray⟩ by
        rw [he, proT, if_neg (fun e => hz (by rw [← HL.out, e]; rfl))])
      clear he hlt
      go_wp2_with fail
      refine HJ.out.mono ?_
      rintro e w4 ⟨rfl, hb4⟩
      rw [HE.out]
      have H4 := Lib.hid (H1.out.1.trans ((HB.out.trans (hb4.mono HB.out.size)).mono H1.out.1.size))
      clear hb4
      go_wp2_with fail
      go_ret
      exact ⟨rfl, H4.out⟩
end Go.Proofs.YtknppcgoooaaaaaGreatDoor
