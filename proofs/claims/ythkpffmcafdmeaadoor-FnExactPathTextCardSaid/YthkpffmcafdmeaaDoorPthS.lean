/-
  A path as a text: the reference's.
-/
import Derived.Test.YthkpffmcafdmeaaDoorDecS
import Derived.Test.YthkpffmcafdmeaaDoorTxtP
import Derived.Test.YthkpffmcafdmeaaDoorPathW
import Derived.Test.YthkpffmcafdmeaaDoorPathX
import Derived.Test.YthkpffmcafdmeaaDoorQuietB
import Derived.Test.YthkpffmcafdmeaaDoorTxtB
namespace Go.Proofs.YthkpffmcafdmeaaDoor
open Go.ChangeShapes Go.WideShapes Go.ChangeAt Go.RowKit Go.Deep
set_option linter.unusedVariables false

/-- The first points as a text. -/
def pthB (ps : Pth) (k : Nat) : ByteArray := ⟨(pthT (ps.take k)).toArray⟩
theorem pthB_zero (ps : Pth) : pthB ps 0 = { data := #[] } := by simp [pthB, pthT, Lib.join_nil]
theorem pthB_one {ps : Pth} {x y : Int} (h : ps[0]? = some (x, y)) : pthB ps 1 = decB x ++ { data := #[58] } ++ decB y := by
  have e : ps.take 1 = [(x, y)] := by rw [List.take_one, List.head?_eq_getElem?, h]; rfl
  rw [pthB, e, pthT, List.map_singleton, Lib.join_one, ptT, decB, decB, bA_lit, bA_app, bA_app]
  simp
theorem pthB_succ {ps : Pth} {k : Nat} {x y : Int} (hk : 0 < k) (h : ps[k]? = some (x, y)) : pthB ps (k + 1) = pthB ps k ++ { data := #[32] } ++ (decB x ++ { data := #[58] } ++ decB y) := by
  have e : ps.take (k + 1) = ps.take k ++ [(x, y)] := by rw [List.take_add_one, h]; rfl
  have hne : (ps.take k).map ptT ≠ [] := by
    have : k < ps.length := (List.getElem?_eq_some_iff.1 h).1
    intro e2
    have e3 := congrArg List.length e2
    simp only [List.length_map, List.length_take, List.length_nil] at e3
    omega
  rw [pthB, pthB, e, pthT, pthT, List.map_append, List.map_singleton, join_snoc', if_neg hne, decB, decB, bA_lit, bA_lit, bA_app, bA_app, bA_app, bA_app]
  simp [ptT]
theorem pthB_all (ps : Pth) : pthB ps ps.length = ⟨(pthT ps).toArray⟩ := by rw [pthB, List.take_length]
set_option maxRecDepth 100000 in
set_option maxHeartbeats 3200000 in
theorem l14Text_s (A : Option Addr) (n c : Nat) (ps : Pth) (w : World) (h : Pts w A n ps) (hp : pathOk ps = true) :
    Calls Tryd.prog 62 #[.slice A n c] w fun e w' => e = .returned (.string ⟨(pthT ps).toArray⟩) ∧ Below w.heap.size w w' := by
  have hn := h.1
  have hn24 := (pathOk_len hp).2.1
  rw [hn] at hn24
  have HP := Lib.hid (And.intro h hp)
  have HN := Lib.hid hn
  clear h hp hn
  go_enter Tryd.func62, Tryd.ntmps62
  go_wp2_with fail
  go_loopw [3, 4] (fun ov iv wr => ∃ (k : Nat) (O : ByteArray), k ≤ n ∧ iv = .int .i64 k ∧ ov = .string O ∧ O.size ≤ 44 * k ∧ Hid (O = pthB ps k) ∧ Hid (Below w.heap.size w wr)) (fun _ iv _ => n - (intOf iv).toNat)
  case atStart => exact ⟨0, { data := #[] }, Nat.zero_le _, rfl, rfl, Nat.le_refl _, (pthB_zero ps).symm, Below.refl _ _⟩
  case round =>
    obtain ⟨k, O, hk, rfl, rfl, hO, HO, HB⟩ := hrel
    by_cases hlt : k < n
    · obtain ⟨b, off, x, y, rfl, HX, hx, hy, _, _⟩ := (HP.out.1.below HB.out).at_ hlt
      have hki : (k : Int) < (n : Int) := by omega
      obtain ⟨⟨x1, x2⟩, y1, y2⟩ := pt_bd HP.out.2 (x, y) (List.mem_of_getElem? HX.out)
      obtain ⟨u, rfl⟩ : ∃ u : Nat, x = (u : Int) := ⟨x.toNat, by omega⟩
      obtain ⟨v, rfl⟩ : ∃ v : Nat, y = (v : Int) := ⟨y.toNat, by omega⟩
      have hu : u ≤ 20000 := by omega
      have hv : v ≤ 9000 := by omega
      clear x1 x2 y1 y2
      obtain ⟨S, hS⟩ : ∃ S, S = decB (u : Int) := ⟨_, rfl⟩
      obtain ⟨T, hT⟩ : ∃ T, T = decB (v : Int) := ⟨_, rfl⟩
      have hs1 : S.size ≤ 21 := by rw [hS]; exact decB_len _ (by omega) (by omega)
      have hs2 : T.size ≤ 21 := by rw [hT]; exact decB_len _ (by omega) (by omega)
      have HC1 := fun (W : World) => Lib.hid ((l01Dec_s u W (by omega)).mono (fun e w' (h : _ ∧ _) => (show e = .returned (.string S) ∧ Below W.heap.size W w' from ⟨by rw [h.1, hS], h.2⟩)))
      have HC2 := fun (W : World) => Lib.hid ((l01Dec_s v W (by omega)).mono (fun e w' (h : _ ∧ _) => (show e = .returned (.string T) ∧ Below W.heap.size W w' from ⟨by rw [h.1, hT], h.2⟩)))
      have HST := Lib.hid (And.intro hS hT)
      have q0 := BW.cell hx
      have q1 := BW.cell hy
      by_cases hk0 : k = 0
      · subst hk0
        simp only [Nat.zero_mul, Nat.add_zero] at q0 q1
        have HE := Lib.hid (show O ++ (S ++ { data := #[58] } ++ T) = pthB ps (0 + 1) by rw [pthB_one HX.out, ← HST.out.1, ← HST.out.2, HO.out, pthB_zero, bA_nil])
        clear hS hT hx hy
        go_wp2_with fail
        refine region_quietB wr (Below.refl _ _) (by kernel_rfl) (by kernel_rfl) ?_
        repeat (go_big_quiet_step ((go_at_call 109; first | (with_reducible exact quietB_call (HC1 _).out) | (with_reducible exact quietB_call (HC2 _).out))))
        refine wpQuiet_nil ?_
        rintro w2 ⟨x, rfl⟩
        go_wp2_with fail
        go_roundw
        case rel => exact ⟨0 + 1, _, by omega, by go_num, rfl, by simp only [ByteArray.size_append]; have e1 : ({ data := #[58] } : ByteArray).size = 1 := rfl; omega, HE.out, HB.out.trans (x.h.mono HB.out.size)⟩
        case measure => simp [intOf]; omega
      · have hk1 : 0 < k := by omega
        have hk2 : (0 : Int) < (k : Int) := by omega
        have HE := Lib.hid (show O ++ { data := #[32] } ++ (S ++ { data := #[58] } ++ T) = pthB ps (k + 1) by rw [pthB_succ hk1 HX.out, ← HST.out.1, ← HST.out.2, HO.out])
        clear hk0
        clear hS hT hx hy
        go_wp2_with fail
        refine region_quietB wr (Below.refl _ _) (by kernel_rfl) (by kernel_rfl) ?_
        repeat (go_big_quiet_step ((go_at_call 109; first | (with_reducible exact quietB_call (HC1 _).out) | (with_reducible exact quietB_call (HC2 _).out))))
        refine wpQuiet_nil ?_
        rintro w2 ⟨x, rfl⟩
        go_wp2_with fail
        go_roundw
        case rel => exact ⟨k + 1, _, by omega, by go_num, rfl, by simp only [ByteArray.size_append]; have e1 : ({ data := #[58] } : ByteArray).size = 1 := rfl; have e2 : ({ data := #[32] } : ByteArray).size = 1 := rfl; omega, HE.out, HB.out.trans (x.h.mono HB.out.size)⟩
        case measure => simp [intOf]; omega
    · obtain rfl : k = n := by omega
      have HE := Lib.hid (show O = ⟨(pthT ps).toArray⟩ by rw [HO.out, ← pthB_all, HN.out])
      go_wp2_with fail
      go_ret
      exact ⟨ret_str' HE.out, HB.out⟩
theorem PathText_s (A : Option Addr) (n c : Nat) (ps : Pth) (w : World) (h : Pts w A n ps) :
    Calls Tryd.prog 11 #[.slice A n c] w fun e w' => e = .returned (.string ⟨(pthS ps).toArray⟩) ∧ Below w.heap.size w w' := by
  have HP := Lib.hid h
  clear h
  cases hp : pathOk ps
  · have HE := Lib.hid (show (⟨(pthS ps).toArray⟩ : ByteArray) = { data := #[] } by simp [pthS, hp])
    rw [HE.out]
    have HV := Lib.hid hp
    clear hp
    go_enter Tryd.func11, Tryd.ntmps11
    go_wp2_with fail
    refine (l14Ok_any _ _ _ ps _ HP.out).mono ?_
    rintro e w1 ⟨rfl, hb1⟩
    rw [HV.out]
    have H1 := Lib.hid hb1
    clear hb1
    go_wp2_with fail
    go_ret
    exact ⟨rfl, H1.out⟩
  · have HE := Lib.hid (show (⟨(pthS ps).toArray⟩ : ByteArray) = ⟨(pthT ps).toArray⟩ by simp [pthS, hp])
    rw [HE.out]
    have HV := Lib.hid hp
    clear hp
    go_enter Tryd.func11, Tryd.ntmps11
    go_wp2_with fail
    refine (l14Ok_any _ _ _ ps _ HP.out).mono ?_
    rintro e w1 ⟨rfl, hb1⟩
    rw [HV.out]
    have H1 := Lib.hid hb1
    clear hb1
    go_wp2_with fail
    refine (l14Text_s _ _ _ ps _ (HP.out.below H1.out) HV.out).mono ?_
    rintro e w2 ⟨rfl, hb2⟩
    have H2 := Lib.hid (H1.out.trans (hb2.mono H1.out.size))
    clear hb2
    go_wp2_with fail
    go_ret
    exact ⟨rfl, H2.out⟩
end Go.Proofs.YthkpffmcafdmeaaDoor
