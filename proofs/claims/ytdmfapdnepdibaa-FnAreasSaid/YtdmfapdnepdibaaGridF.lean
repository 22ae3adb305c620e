/-
  The cells from which the descent leads into cells, both sides.
-/
import Derived.Test.YtdmfapdnepdibaaGridE
import Derived.Test.YtdmfapdnepdibaaGridS
namespace Go.Proofs.Ytdmfapdnepdibaa
open Go.ChangeShapes Go.WideShapes Go.ChangeAt Go.RowKit Go.Deep
set_option linter.unusedVariables false

theorem anyI_no {l : List Int} {p : Int → Bool} (h : ∀ (j : Nat) (a : Int), j < l.length → l[j]? = some a → p a = false) : l.any p = false := by
  rw [List.any_eq_false]
  intro a ha
  obtain ⟨j, hj⟩ := List.mem_iff_getElem?.1 ha
  simp [h j a (List.getElem?_eq_some_iff.1 hj).1 hj]
theorem anyI_yes {l : List Int} {p : Int → Bool} {j : Nat} {a : Int} (hj : l[j]? = some a) (h : p a = true) : l.any p = true := List.any_eq_true.2 ⟨a, List.mem_of_getElem? hj, h⟩
theorem anyI_snoc {p : Int → Bool} {l : List Int} {j : Nat} {z : Int} (h : l[j]? = some z) : (l.take (j + 1)).any p = ((l.take j).any p || p z) := by
  rw [List.take_add_one, h, List.any_append]
  simp
def aboveP (R C S : Int) (hs xs : List Int) (k : Nat) : Bool := (descL R C S hs (k : Int)).any (hasB xs) && !hasB xs (k : Int)
set_option maxRecDepth 100000 in
set_option maxHeartbeats 800000 in
theorem indexFunc_ints (A : Option Addr) (l : List Int) (n c : Nat) (F : Nat) (caps : Array Value) (p : Int → Bool) (w : World) (eg : ∀ args w, (callFunc F args).run Try.prog w = .ok (.enter F args) w) (h : Ints w A n l)
    (hf : ∀ (a : Int) (W : World), Below w.heap.size w W → Calls Try.prog F (#[.int .i64 a] ++ caps) W fun e W' => e = .returned (.bool (p a)) ∧ Below W.heap.size W W') :
    Calls Try.prog 76 #[.slice A n c, .func (.func F) #[] caps] w fun e w' => HasPost (l.any p) e ∧ Below w.heap.size w w' := by
  have HF := Lib.hid hf
  have HL := Lib.hid h.1
  have hn := h.2.1
  have HS := Lib.hid h
  clear hf h
  go_enter Try.func76, Try.ntmps76
  go_wp2_with fail
  go_loopw [4, 8] (fun _ i wr => ∃ j : Nat, j ≤ n ∧ i = .int .i64 j ∧ Below w.heap.size w wr ∧ Hid (∀ (i : Nat) (a : Int), i < j → l[i]? = some a → p a = false)) (fun _ i _ => n - (intOf i).toNat)
  case atStart => exact ⟨0, Nat.zero_le _, rfl, Below.refl _ _, fun i a hi => absurd hi (by omega)⟩
  case round =>
    obtain ⟨j, hj, rfl, hbl, HK⟩ := hrel
    by_cases hlt : j < n
    · obtain ⟨b, off, a, rfl, Ha, c0, _⟩ := (HS.out.below hbl).at_ hlt
      have hji : (j : Int) < (n : Int) := by omega
      have HB := Lib.hid hbl
      clear hbl
      cases hp : p a
      · go_wp2_with fail
        refine (HF.out a _ HB.out).mono ?_
        rintro e w2 ⟨rfl, hb2⟩
        rw [hp]
        have HB2 := Lib.hid (HB.out.trans (hb2.mono HB.out.size))
        clear hb2 c0
        go_wp2_with fail
        go_roundw
        case rel => exact ⟨j + 1, by omega, by go_num, HB2.out, fun i b hi hb => by
          by_cases e : i = j
          · subst e
            have := Ha.out.symm.trans hb
            injection this with this
            rw [← this]; exact hp
          · exact HK.out i b (by omega) hb⟩
        case measure => simp [intOf]; omega
      · go_wp2_with fail
        refine (HF.out a _ HB.out).mono ?_
        rintro e w2 ⟨rfl, hb2⟩
        rw [hp]
        have HB2 := Lib.hid (HB.out.trans (hb2.mono HB.out.size))
        have HP := Lib.hid hp
        clear hb2 c0 hp
        go_wp2_with fail
        go_ret
        exact ⟨⟨_, rfl, .inr ⟨by omega, anyI_yes Ha.out HP.out⟩⟩, HB2.out⟩
    · obtain rfl : j = n := by omega
      have HB := Lib.hid hbl
      clear hlt hbl
      go_wp2_with fail
      go_ret
      exact ⟨⟨-1, rfl, .inl ⟨rfl, anyI_no fun i a hi ha => HK.out i a (by rw [← HL.out]; exact hi) ha⟩⟩, HB.out⟩
theorem containsFunc_ints (A : Option Addr) (l : List Int) (n c : Nat) (F : Nat) (caps : Array Value) (p : Int → Bool) (w : World) (eg : ∀ args w, (callFunc F args).run Try.prog w = .ok (.enter F args) w) (h : Ints w A n l)
    (hf : ∀ (a : Int) (W : World), Below w.heap.size w W → Calls Try.prog F (#[.int .i64 a] ++ caps) W fun e W' => e = .returned (.bool (p a)) ∧ Below W.heap.size W W') :
    Calls Try.prog 57 #[.slice A n c, .func (.func F) #[] caps] w fun e w' => e = .returned (.bool (l.any p)) ∧ Below w.heap.size w w' := by
  have HF := Lib.hid hf
  clear hf
  go_enter Try.func57, Try.ntmps57
  go_wp2_with fail
  refine (indexFunc_ints A l n _ F caps p _ eg h HF.out).mono ?_
  rintro e w' ⟨⟨r, rfl, hr⟩, hb⟩
  have HB := Lib.hid hb
  clear hb
  rcases hr with ⟨rfl, hr⟩ | ⟨h0, hr⟩
  all_goals
    have HR := Lib.hid hr
    clear hr
    go_wp2_with fail
    go_ret
    exact ⟨ret_bool (by rw [HR.out]), HB.out⟩
theorem above_cc (a : Int) (pa : Nat) (B : Option Addr) (m d : Nat) (xs : List Int) (w : World) (hp : w.cell? ⟨pa, 0, none⟩ = some (.slice B m d)) (h : Ints w B m xs) :
    Calls Try.prog 59 #[.int .i64 a, .pointer (some ⟨pa, 0, none⟩)] w fun e w' => e = .returned (.bool (hasB xs a)) ∧ Below w.heap.size w w' := by
  go_enter Try.func59, Try.ntmps59
  go_wp2_with fail
  refine (contains_any _ _ _ _ xs _ h).mono ?_
  rintro e w1 ⟨rfl, q, rfl⟩
  go_wp2_with fail
  go_ret
  exact ⟨rfl, below_drewN (Below.refl _ _) _⟩
theorem desc_ints {R C S : Int} {hs : List Int} {n k base c : Nat} {A : Option Addr} {w : World} (hv : gridOk R C S hs = true) (hl : hs.length = n) (h64 : n ≤ 64) (hk : k < n) (hf : Fresh w base 2 1 A (descL R C S hs (k : Int)).length c ((descL R C S hs (k : Int)).map (.int .i64))) : Ints w A (descL R C S hs (k : Int)).length (descL R C S hs k) :=
  hf.ints (fun z hz => by have := (descL_len hv hl (hg_nat hs k) k (Nat.le_refl _)).2 hk z hz; omega)
set_option maxRecDepth 100000 in
set_option maxHeartbeats 800000 in
theorem above_c (R C S : Int) (A : Option Addr) (n c : Nat) (k pg pa : Nat) (B : Option Addr) (m d : Nat) (hs xs : List Int) (w : World) (hgb : BoxG w pg R C S A n c) (h : GridA w R C S A n hs) (hv : gridOk R C S hs = true) (h64 : n ≤ 64) (hk : k < n) (hp : w.cell? ⟨pa, 0, none⟩ = some (.slice B m d)) (h' : Ints w B m xs) :
    Calls Try.prog 56 #[.int .i64 k, .pointer (some ⟨pg, 0, none⟩), .pointer (some ⟨pa, 0, none⟩)] w fun e w' => e = .returned (.bool (aboveP R C S hs xs k)) ∧ Below w.heap.size w w' := by
  have HV := Lib.hid (And.intro hv h.1.1)
  obtain ⟨p0, p1, p2, p3⟩ := hgb
  clear hv
  cases hb : (descL R C S hs (k : Int)).any (hasB xs)
  · have HE := Lib.hid (show aboveP R C S hs xs k = false by simp [aboveP, hb])
    have HY := Lib.hid hb
    clear hb
    go_enter Try.func56, Try.ntmps56
    go_wp2_with fail
    refine (descent_i R C S A n c k hs _ h HV.out.1 hk).mono ?_
    rintro e w1 ⟨A', c', rfl, hf1, hb1⟩
    have HD := Lib.hid (And.intro (desc_ints HV.out.1 HV.out.2 h64 hk hf1) (And.intro hb1 (And.intro (cell_kept hb1 hp) (h'.below hb1))))
    clear hf1 hb1 p0 p1 p2 p3
    go_wp2_with fail
    refine (containsFunc_ints _ (descL R C S hs (k : Int)) _ _ 59 _ (hasB xs) _ (enters_of Try.func59 (by kernel_rfl) rfl) HD.out.1 ?_).mono ?_
    · intro a W hW
      exact above_cc a _ _ _ _ xs W (cell_kept hW HD.out.2.2.1) (HD.out.2.2.2.below hW)
    rintro e w2 ⟨rfl, hb2⟩
    rw [HY.out]
    have HB2 := Lib.hid (HD.out.2.1.trans (hb2.mono HD.out.2.1.size))
    clear hb2
    go_wp2_with fail
    go_ret
    exact ⟨ret_bool (by rw [HE.out]), HB2.out⟩
  · have HE := Lib.hid (show aboveP R C S hs xs k = !hasB xs (k : Int) by simp [aboveP, hb])
    have HY := Lib.hid hb
    clear hb
    go_enter Try.func56, Try.ntmps56
    go_wp2_with fail
    refine (descent_i R C S A n c k hs _ h HV.out.1 hk).mono ?_
    rintro e w1 ⟨A', c', rfl, hf1, hb1⟩
    have HD := Lib.hid (And.intro (desc_ints HV.out.1 HV.out.2 h64 hk hf1) (And.intro hb1 (And.intro (cell_kept hb1 hp) (h'.below hb1))))
    clear hf1 hb1 p0 p1 p2 p3
    go_wp2_with fail
    refine (containsFunc_ints _ (descL R C S hs (k : Int)) _ _ 59 _ (hasB xs) _ (enters_of Try.func59 (by kernel_rfl) rfl) HD.out.1 ?_).mono ?_
    · intro a W hW
      exact above_cc a _ _ _ _ xs W (cell_kept hW HD.out.2.2.1) (HD.out.2.2.2.below hW)
    rintro e w2 ⟨rfl, hb2⟩
    rw [HY.out]
    have HB2 := Lib.hid (And.intro (HD.out.2.1.trans (hb2.mono HD.out.2.1.size)) (HD.out.2.2.2.below hb2))
    have hp2 := cell_kept hb2 HD.out.2.2.1
    clear hb2
    go_wp2_with fail
    refine (contains_any _ _ _ _ xs _ HB2.out.2).mono ?_
    rintro e w3 ⟨rfl, q, rfl⟩
    go_wp2_with fail
    go_ret
    exact ⟨ret_bool (by rw [HE.out]), below_drewN HB2.out.1 _⟩
set_option maxRecDepth 100000 in
set_option maxHeartbeats 800000 in
theorem AboveCells_i (R C S : Int) (A : Option Addr) (n c : Nat) (B : Option Addr) (m d : Nat) (hs xs : List Int) (w : World) (h : GridA w R C S A n hs) (h' : Ints w B m xs) :
    Calls Try.prog 13 #[.agg #[.int .i64 R, .int .i64 C, .int .i64 S, .slice A n c], .slice B m d] w fun e w' => ResI 2 w (cellsR (cellsC R C S hs xs) n (aboveP R C S hs xs)) (cellsC R C S hs xs) e w' := by
  have hl := h.1.1
  have B0 := ((Below.refl w.heap.size w).alloc (Nat.le_refl _) (.cells #[.int .i64 R, .int .i64 C, .int .i64 S, .slice A n c] 26)).alloc (by simp) (.cells #[.slice B m d] 24)
  have HI := Lib.hid (And.intro (h.below B0) (And.intro (h'.below B0) (And.intro B0 (And.intro ((boxG_of w R C S A n c 26).below ((Below.refl _ _).alloc (Nat.le_refl _) (.cells #[.slice B m d] 24))) (show ((w.alloc (.cells #[.int .i64 R, .int .i64 C, .int .i64 S, .slice A n c] 26)).alloc (.cells #[.slice B m d] 24)).cell? ⟨w.heap.size + 1, 0, none⟩ = some (.slice B m d) by go_simp)))))
  clear h h' B0
  obtain ⟨K, hK⟩ : ∃ K, K = cellsC R C S hs xs := ⟨_, rfl⟩
  have hcb := cellsC_bd R C S hs xs
  rw [← hK] at hcb ⊢
  by_cases h0 : K = 0
  · obtain ⟨⟨r1, r2⟩, ⟨c1, c2⟩, ⟨s1, s2⟩, hn, h64⟩ := cells_facts hl (hK.symm.trans h0)
    rw [cellsR_yes h0]
    have HV := Lib.hid (cellsC_ok (hK.symm.trans h0)).1
    have HK := Lib.hid hK
    have HL := Lib.hid (And.intro hl hn)
    subst h0
    clear hK hl hcb hn
    go_enter Try.func13, Try.ntmps13
    go_wp2_with fail
    refine (cellsCode_any _ _ _ _ _ _ _ _ _ hs xs _ HI.out.1 HI.out.2.1).mono ?_
    rintro e w1 ⟨rfl, hb1⟩
    rw [← HK.out]
    have HB := Lib.hid (And.intro (HI.out.2.2.1.trans (hb1.mono (HI.out.2.2.1).size)) (And.intro (cell_kept hb1 HI.out.2.2.2.2) (And.intro (HI.out.2.1.below hb1) (And.intro (HI.out.2.2.2.1.below hb1) (HI.out.1.below hb1)))))
    obtain ⟨p0, p1, p2, p3⟩ := HI.out.2.2.2.1.below hb1
    clear hb1
    go_wp2_with fail
    clear p0 p1 p2 p3
    refine (cellsWhere_any _ _ _ _ _ _ 56 _ (aboveP R C S hs xs) _ h64 (enters_of Try.func56 (by kernel_rfl) rfl) ?_).mono ?_
    · intro k W hk hW
      exact above_c R C S A n c k _ _ _ _ _ hs xs W (HB.out.2.2.2.1.below hW) (HB.out.2.2.2.2.below hW) HV.out h64 hk (cell_kept hW HB.out.2.1) (HB.out.2.2.1.below hW)
    rintro e w2 ⟨A', c', rfl, hf, hb2⟩
    have HF := Lib.hid (And.intro hf (And.intro HB.out.1.size (HB.out.1.trans (hb2.mono HB.out.1.size))))
    clear hf hb2
    go_wp2_with fail
    go_ret2
    exact ResI.of HF.out.1 HF.out.2.1 HF.out.2.2
  · have hd : (K != 0) = true := by simp [h0]
    rw [cellsR_no h0]
    have HK := Lib.hid hK
    have HL := Lib.hid hl
    clear hK hl
    go_enter Try.func13, Try.ntmps13
    go_wp2_with fail
    refine (cellsCode_any _ _ _ _ _ _ _ _ _ hs xs _ HI.out.1 HI.out.2.1).mono ?_
    rintro e w1 ⟨rfl, hb1⟩
    rw [← HK.out]
    have HB := Lib.hid (HI.out.2.2.1.trans (hb1.mono (HI.out.2.2.1).size))
    clear hb1
    go_wp2_with fail
    go_ret2
    exact ResI.nil HB.out
end Go.Proofs.Ytdmfapdnepdibaa
