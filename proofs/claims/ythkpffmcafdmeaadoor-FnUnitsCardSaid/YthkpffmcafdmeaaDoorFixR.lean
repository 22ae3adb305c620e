/-
  Fixed-point texts read back: the program's.
-/
import Derived.Test.YthkpffmcafdmeaaDoorFixI
import Derived.Test.YthkpffmcafdmeaaDoorShR
namespace Go.Proofs.YthkpffmcafdmeaaDoor
open Go.ChangeShapes Go.WideShapes Go.ChangeAt Go.RowKit Go.Deep
set_option linter.unusedVariables false

theorem itoa0 : Lib.itoa 0 = [48] := by
  rw [show (0 : Int) = ((0 : Nat) : Int) from rfl, Lib.itoa_nonneg]
  unfold Lib.decDigits; rfl
theorem mkA {s : ByteArray} {l : List UInt8} (h : s.data.toList = l) : s = ⟨l.toArray⟩ := by rw [← h]
theorem fx_size (n : Int) (p : Nat) (hn : -1000000000 ≤ n ∧ n ≤ 1000000000) (hp : p ≤ 6) : (fxB n.natAbs p).length ≤ 40 ∧ (fxD n.natAbs p).length ≤ 40 := by
  have h1 := decB_size (n.natAbs : Int) (by omega) (by omega)
  have hD : (decB (n.natAbs : Int)).data.toList = Lib.decDigits n.natAbs := by show (Lib.itoa (n.natAbs : Int)) = _; exact Lib.itoa_nonneg _
  rw [Lib.size_eq, hD] at h1
  have h2 : (fxD n.natAbs p).length ≤ 28 := by unfold fxD; rw [List.length_append, List.length_replicate]; omega
  refine ⟨?_, by omega⟩
  unfold fxB
  rw [List.length_append, List.length_cons, List.length_take, List.length_drop]
  omega
set_option maxRecDepth 100000 in
set_option maxHeartbeats 3200000 in
theorem ReadFixed_yes (n : Int) (p : Nat) (s : ByteArray) (w : World) (hE : Env w) (hn : -1000000000 ≤ n ∧ n ≤ 1000000000) (hp : 1 ≤ p ∧ p ≤ 6) (hs : s.data.toList = fxT n p) :
    Calls Tryd.prog 46 #[.string s, .int .i64 (p : Int)] w fun e w' => e = .returned (.tuple #[.int .i64 n, .bool true]) ∧ Below w.heap.size w w' := by
  obtain ⟨hsz1, hsz2⟩ := fx_size n p hn hp.2
  obtain ⟨a, ha⟩ : ∃ a, a = n.natAbs := ⟨_, rfl⟩
  rw [← ha] at hsz1 hsz2
  obtain ⟨X, hX⟩ : ∃ X : ByteArray, X = ⟨(fxB a p).toArray⟩ := ⟨_, rfl⟩
  have hXs : X.size ≤ 40 := by rw [Lib.size_eq, hX]; exact hsz1
  obtain ⟨Y, hY⟩ : ∃ Y : ByteArray, Y = ⟨(fxD a p).toArray⟩ := ⟨_, rfl⟩
  obtain ⟨Z, hZ⟩ : ∃ Z : ByteArray, Z = ⟨(if a = 0 then [] else Lib.decDigits a : List UInt8).toArray⟩ := ⟨_, rfl⟩
  have T1 := fun (W : World) => Lib.hid ((Tryd.strings_TrimPrefix s { data := #[45] } W).mono (fun e w' (h : _ ∧ _) => (show e = .returned (.string X) ∧ W = w' from ⟨by rw [h.1, hX, show Lib.trimPrefix s.data.toList ({ data := #[45] } : ByteArray).data.toList = fxB a p by rw [hs, ha]; exact trim_T n p], h.2.symm⟩)))
  obtain ⟨m, hm⟩ := hE.mx
  have T2 := fun (W : World) (hb : Below w.heap.size w W) => Lib.hid ((Tryd.strings_Replace X { data := #[46] } { data := #[] } 1 m W (by omega) (cell_kept hb hm) (Nat.le_refl _) (by show X.size + _ * 0 ≤ _; omega)).mono (fun e w' (h : _ ∧ _) => (show e = .returned (.string Y) ∧ Below W.heap.size W w' from ⟨by rw [h.1, hY, show Lib.replace X.data.toList ({ data := #[46] } : ByteArray).data.toList ({ data := #[] } : ByteArray).data.toList 1 = fxD a p by rw [hX]; exact rep_B a p], h.2⟩)))
  have T3 := fun (W : World) => Lib.hid ((Tryd.strings_TrimLeft_one Y 48 (by decide) W).mono (fun e w' (h : _ ∧ _) => (show e = .returned (.string Z) ∧ W = w' from ⟨by rw [h.1, hZ, show Lib.trimLeftB Y.data.toList 48 = (if a = 0 then [] else Lib.decDigits a) by rw [hY]; exact trim_D a p], h.2.symm⟩)))
  have T4 := fun (W : World) => Lib.hid ((Tryd.strings_HasPrefix s { data := #[45] } W).mono (fun e w' (h : _ ∧ _) => (show e = .returned (.bool (decide (n < 0))) ∧ W = w' from ⟨by rw [h.1, show Lib.hasPrefix s.data.toList ({ data := #[45] } : ByteArray).data.toList = decide (n < 0) by rw [hs]; exact pre_T n p], h.2.symm⟩)))
  have T5 := fun (W : World) (hb : Below w.heap.size w W) => Lib.hid ((FixedText_yes n p W (hE.below hb).tab hn hp).mono (fun e w' (h : _ ∧ _) => (show e = .returned (.string s) ∧ Below W.heap.size W w' from ⟨by rw [h.1, mkA hs], h.2⟩)))
  have T6 := fun (D : ByteArray) (hD : D.data.toList = Lib.itoa (a : Int)) (hDs : D.size ≤ 30) (W : World) (hb : Below w.heap.size w W) => Lib.hid ((ReadDecimal_i D W (hE.below hb) (by omega)).mono (fun e w' (h : _ ∧ _) => (show e = .returned (.tuple #[.int .i64 (a : Int), .bool true]) ∧ Below W.heap.size W w' from ⟨by
    have := rdV_some (rd_itoa (n := (a : Int)) (by omega) (by omega))
    rw [h.1, hD, this.1, this.2], h.2⟩)))
  have hse : (s.toList == ([] : List UInt8)) = false := by
    have h1 : s.toList ≠ [] := by rw [Lib.toList_data, hs]; exact fxT_ne n p
    cases hh : s.toList with
    | nil => exact absurd hh h1
    | cons _ _ => rfl
  have HSE := Lib.hid hse
  have HT := Lib.hid (And.intro T1 (And.intro T2 (And.intro T3 (And.intro T4 (And.intro T5 T6)))))
  have han : n < 0 → -(a : Int) = n := fun h => by omega
  have hap : ¬ n < 0 → (a : Int) = n := fun h => by omega
  have ha2 : a ≤ 1000000000 := by omega
  clear T1 T2 T3 T4 T5 T6 hm hs hX hY hse hXs hsz1 hsz2
  by_cases h0 : a = 0
  · have hZ0 : Z = { data := #[] } := by rw [hZ, if_pos h0]
    subst hZ0
    have T6 := Lib.hid (HT.out.2.2.2.2.2 { data := #[48] } (by rw [h0]; exact itoa0.symm) (by decide))
    clear hZ ha
    have hnn : ¬ n < 0 := by omega
    obtain rfl : n = 0 := by omega
    go_enter Tryd.func46, Tryd.ntmps46
    go_wp2_with fail
    refine ((HT.out.1 _).out).mono ?_
    rintro e w1 ⟨rfl, rfl⟩
    go_wp2_with fail
    refine ((HT.out.2.1 _ (Below.refl _ _)).out).mono ?_
    rintro e w1 ⟨rfl, hb1⟩
    have HB := Lib.hid hb1
    clear hb1
    go_wp2_with fail
    refine ((HT.out.2.2.1 _).out).mono ?_
    rintro e w' ⟨rfl, rfl⟩
    go_wp2_with fail
    refine ((T6.out _ HB.out).out).mono ?_
    rintro e w2 ⟨rfl, hb2⟩
    have HB2 := Lib.hid (HB.out.trans (hb2.mono HB.out.size))
    clear hb2
    go_wp2_with fail
    refine ((HT.out.2.2.2.1 _).out).mono ?_
    rintro e w' ⟨rfl, rfl⟩
    have hse := HSE.out
    rw [show decide ((0 : Int) < 0) = false by decide]
    go_wp2_with fail
    refine ((HT.out.2.2.2.2.1 _ HB2.out).out).mono ?_
    rintro e w3 ⟨rfl, hb3⟩
    have HB3 := Lib.hid (HB2.out.trans (hb3.mono HB2.out.size))
    clear hb3
    go_wp2_with fail
    go_ret2
    exact ⟨by first | rfl | (congr 3; omega), HB3.out⟩
  · have hZl : Z.data.toList = Lib.itoa (a : Int) := by rw [hZ, if_neg h0, Lib.itoa_nonneg]
    have hZs : Z.size ≤ 30 := by
      have := decB_size (a : Int) (by omega) (by omega)
      rw [Lib.size_eq] at this ⊢
      rw [hZl]
      exact Nat.le_trans this (by omega)
    have hze : (Z.toList == ([] : List UInt8)) = false := by
      have h1 : Z.toList ≠ [] := by rw [Lib.toList_data, hZl]; exact itoa_ne _
      cases hh : Z.toList with
      | nil => exact absurd hh h1
      | cons _ _ => rfl
    have T6 := Lib.hid (HT.out.2.2.2.2.2 Z hZl hZs)
    clear hZ hZl hZs ha
    cases hdn : decide (n < 0)
    · have hnn : ¬ n < 0 := by simpa using hdn
      have han' := hap hnn
      go_enter Tryd.func46, Tryd.ntmps46
      go_wp2_with fail
      refine ((HT.out.1 _).out).mono ?_
      rintro e w1 ⟨rfl, rfl⟩
      go_wp2_with fail
      refine ((HT.out.2.1 _ (Below.refl _ _)).out).mono ?_
      rintro e w1 ⟨rfl, hb1⟩
      have HB := Lib.hid hb1
      clear hb1
      go_wp2_with fail
      refine ((HT.out.2.2.1 _).out).mono ?_
      rintro e w' ⟨rfl, rfl⟩
      go_wp2_with fail
      refine ((T6.out _ HB.out).out).mono ?_
      rintro e w2 ⟨rfl, hb2⟩
      have HB2 := Lib.hid (HB.out.trans (hb2.mono HB.out.size))
      clear hb2
      rw [han']
      go_wp2_with fail
      refine ((HT.out.2.2.2.1 _).out).mono ?_
      rintro e w' ⟨rfl, rfl⟩
      have hse := HSE.out
      rw [hdn]
      go_wp2_with fail
      refine ((HT.out.2.2.2.2.1 _ HB2.out).out).mono ?_
      rintro e w3 ⟨rfl, hb3⟩
      have HB3 := Lib.hid (HB2.out.trans (hb3.mono HB2.out.size))
      clear hb3
      go_wp2_with fail
      go_ret2
      exact ⟨by first | rfl | (congr 3; omega), HB3.out⟩
    · have hnn : n < 0 := by simpa using hdn
      have han' := han hnn
      go_enter Tryd.func46, Tryd.ntmps46
      go_wp2_with fail
      refine ((HT.out.1 _).out).mono ?_
      rintro e w1 ⟨rfl, rfl⟩
      go_wp2_with fail
      refine ((HT.out.2.1 _ (Below.refl _ _)).out).mono ?_
      rintro e w1 ⟨rfl, hb1⟩
      have HB := Lib.hid hb1
      clear hb1
      go_wp2_with fail
      refine ((HT.out.2.2.1 _).out).mono ?_
      rintro e w' ⟨rfl, rfl⟩
      go_wp2_with fail
      refine ((T6.out _ HB.out).out).mono ?_
      rintro e w2 ⟨rfl, hb2⟩
      have HB2 := Lib.hid (HB.out.trans (hb2.mono HB.out.size))
      clear hb2
      go_wp2_with fail
      refine ((HT.out.2.2.2.1 _).out).mono ?_
      rintro e w' ⟨rfl, rfl⟩
      have hse := HSE.out
      rw [hdn]
      go_wp2_with fail
      refine ((HT.out.2.2.2.2.1 _ HB2.out).out).mono ?_
      rintro e w3 ⟨rfl, hb3⟩
      have HB3 := Lib.hid (HB2.out.trans (hb3.mono HB2.out.size))
      clear hb3
      go_wp2_with fail
      go_ret2
      exact ⟨rfl, HB3.out⟩
set_option maxRecDepth 100000 in
theorem ReadFixed_nil (p : Int) (w : World) (hE : Env w) :
    Calls Tryd.prog 46 #[.string { data := #[] }, .int .i64 p] w fun e w' => e = .returned (.tuple #[.int .i64 0, .bool false]) ∧ Below w.heap.size w w' := by
  obtain ⟨m, hm⟩ := hE.mx
  have T1 := fun (W : World) => Lib.hid ((Tryd.strings_TrimPrefix { data := #[] } { data := #[45] } W).mono (fun e w' (h : _ ∧ _) => (show e = .returned (.string { data := #[] }) ∧ W = w' from ⟨h.1, h.2.symm⟩)))
  have T2 := fun (W : World) (hb : Below w.heap.size w W) => Lib.hid ((Tryd.strings_Replace { data := #[] } { data := #[46] } { data := #[] } 1 m W (by decide) (cell_kept hb hm) (Nat.le_refl _) (by show 0 + _ * 0 ≤ _; omega)).mono (fun e w' (h : _ ∧ _) => (show e = .returned (.string { data := #[] }) ∧ Below W.heap.size W w' from ⟨h.1, h.2⟩)))
  have T3 := fun (W : World) => Lib.hid ((Tryd.strings_TrimLeft_one { data := #[] } 48 (by decide) W).mono (fun e w' (h : _ ∧ _) => (show e = .returned (.string { data := #[] }) ∧ W = w' from ⟨h.1, h.2.symm⟩)))
  have T4 := fun (W : World) => Lib.hid ((Tryd.strings_HasPrefix { data := #[] } { data := #[45] } W).mono (fun e w' (h : _ ∧ _) => (show e = .returned (.bool false) ∧ W = w' from ⟨h.1, h.2.symm⟩)))
  have T6 := fun (W : World) (hb : Below w.heap.size w W) => Lib.hid ((ReadDecimal_i { data := #[48] } W (hE.below hb) (by decide)).mono (fun e w' (h : _ ∧ _) => (show e = .returned (.tuple #[.int .i64 0, .bool true]) ∧ Below W.heap.size W w' from ⟨by
    have := rdV_some (rd_itoa (n := 0) (by omega) (by omega))
    rw [h.1, show ({ data := #[48] } : ByteArray).data.toList = Lib.itoa 0 from itoa0.symm, this.1, this.2], h.2⟩)))
  have HT := Lib.hid (And.intro T1 (And.intro T2 (And.intro T3 (And.intro T4 T6))))
  clear T1 T2 T3 T4 T6 hm
  go_enter Tryd.func46, Tryd.ntmps46
  go_wp2_with fail
  refine ((HT.out.1 _).out).mono ?_
  rintro e w1 ⟨rfl, rfl⟩
  go_wp2_with fail
  refine ((HT.out.2.1 _ (Below.refl _ _)).out).mono ?_
  rintro e w1 ⟨rfl, hb1⟩
  have HB := Lib.hid hb1
  clear hb1
  go_wp2_with fail
  refine ((HT.out.2.2.1 _).out).mono ?_
  rintro e w' ⟨rfl, rfl⟩
  go_wp2_with fail
  refine ((HT.out.2.2.2.2 _ HB.out).out).mono ?_
  rintro e w2 ⟨rfl, hb2⟩
  have HB2 := Lib.hid (HB.out.trans (hb2.mono HB.out.size))
  clear hb2
  go_wp2_with fail
  refine ((HT.out.2.2.2.1 _).out).mono ?_
  rintro e w' ⟨rfl, rfl⟩
  go_wp2_with fail
  go_ret2
  exact ⟨rfl, HB2.out⟩
end Go.Proofs.YthkpffmcafdmeaaDoor
