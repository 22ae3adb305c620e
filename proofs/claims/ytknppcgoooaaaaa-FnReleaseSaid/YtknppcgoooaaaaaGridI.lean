/-
  The cells around a cell in ascending order, the reference's; the cells that no cell around them is above.
-/
import Derived.Test.YtknppcgoooaaaaaGridL
import Derived.Test.YtknppcgoooaaaaaGridO
namespace Go.Proofs.Ytknppcgoooaaaaa
open Go.ChangeShapes Go.WideShapes Go.ChangeAt Go.RowKit Go.Deep
set_option linter.unusedVariables false

def nearTo (R C k : Int) (m : Nat) : List Int := (dirsTo R C k m).foldl (fun l a => putL l (nbAt C k a)) []
def near (R C k : Int) : List Int := nearTo R C k 8
theorem nearTo_no {R C k : Int} {m : Nat} (h : nbOk R C k m = false) : nearTo R C k (m + 1) = nearTo R C k m := by unfold nearTo; rw [dirsTo_no h]
theorem nearTo_yes {R C k : Int} {m : Nat} (h : nbOk R C k m = true) : nearTo R C k (m + 1) = putL (nearTo R C k m) (nbAt C k m) := by
  unfold nearTo; rw [dirsTo_yes h, List.foldl_append]; rfl
theorem mem_fold {C k : Int} (l : List Nat) (p : List Int) (z : Int) : z ∈ l.foldl (fun l a => putL l (nbAt C k a)) p ↔ z ∈ p ∨ ∃ a ∈ l, z = nbAt C k a := by
  induction l generalizing p with
  | nil => simp
  | cons a t ih =>
    rw [List.foldl_cons, ih, mem_putL]
    constructor
    · rintro ((h | h) | ⟨b, hb, h⟩)
      · exact .inr ⟨a, by simp, h⟩
      · exact .inl h
      · exact .inr ⟨b, by simp [hb], h⟩
    · rintro (h | ⟨b, hb, h⟩)
      · exact .inl (.inr h)
      · rcases List.mem_cons.1 hb with rfl | hb
        · exact .inl (.inl h)
        · exact .inr ⟨b, hb, h⟩
theorem mem_near {R C k z : Int} : z ∈ near R C k ↔ ∃ a ∈ dirs R C k, z = nbAt C k a := by
  unfold near nearTo
  rw [mem_fold]
  simp [dirs, dirsTo]
theorem mem_nearTo {R C k z : Int} {m : Nat} (hm : m ≤ 8) (h : z ∈ nearTo R C k m) : ∃ a, a < 8 ∧ nbOk R C k a = true ∧ z = nbAt C k a := by
  unfold nearTo at h
  rw [mem_fold] at h
  rcases h with h | ⟨a, ha, h⟩
  · simp at h
  · unfold dirsTo at ha
    simp at ha
    exact ⟨a, by omega, ha.2, h⟩
theorem nearTo_len (R C k : Int) (m : Nat) : (nearTo R C k m).length ≤ m := by
  induction m with
  | zero => simp [nearTo, dirsTo]
  | succ m ih =>
    cases h : nbOk R C k m
    · rw [nearTo_no h]; omega
    · rw [nearTo_yes h]
      have := (putL_len (nearTo R C k m) (nbAt C k m)).2
      omega
theorem nearTo_bd {R C k : Int} {m : Nat} (c1 : 1 ≤ C) (hm : m ≤ 8) (hrc : R * C ≤ 64) : ∀ z ∈ nearTo R C k m, -9223372036854775808 ≤ z ∧ z ≤ 9223372036854775807 := by
  intro z hz
  obtain ⟨a, _, hok, rfl⟩ := mem_nearTo hm hz
  have := nb_bd hok c1
  omega
set_option maxRecDepth 100000 in
set_option maxHeartbeats 1600000 in
theorem l09Near_any (b : Nat) (R C S : Int) (A : Option Addr) (n c : Nat) (k : Nat) (w : World) (hg : BoxG w b R C S A n c) (r1 : 1 ≤ R) (r2 : R ≤ 8) (c1 : 1 ≤ C) (c2 : C ≤ 8) (hk : k < n) (h64 : n ≤ 64) :
    Calls Try.prog 26 #[.pointer (some ⟨b, 0, none⟩), .int .i64 k] w fun e w' => SlI 2 w (near R C k) e w' := by
  have hm := mul64 r1 r2 c1 c2
  have HW := Lib.hid hg
  have hown0 := World.ownsRow_lit (base := w.heap.size) (e := 2) (size := 1) w #[] 0 (Nat.le_refl _) (by simp) rfl
  have hb0 := (Below.refl w.heap.size w).alloc (Nat.le_refl _) (.cells #[] 2)
  clear hg
  go_enter Try.func26, Try.ntmps26
  go_wp2_with fail
  go_loopw [5, 6] (fun o i wr => ∃ a : Nat, a ≤ 8 ∧ i = .int .i64 a ∧ Below w.heap.size w wr ∧ wr.ownsRow w.heap.size 2 1 o (nearTo R C k a).length ((nearTo R C k a).map (.int .i64))) (fun _ i _ => 8 - (intOf i).toNat)
  case atStart => exact ⟨0, Nat.zero_le _, rfl, hb0, by simpa [nearTo, dirsTo] using hown0⟩
  case round =>
    clear hb0 hown0
    obtain ⟨a, ha, rfl, hbl, hown⟩ := hrel
    obtain ⟨A', c', rfl, _⟩ := own_form hown
    have HO := Lib.hid (And.intro hbl hown)
    by_cases hlt : a < 8
    · have hg := HW.out.below hbl
      have hai : (a : Int) < 8 := by omega
      have hnl := nearTo_len R C k a
      clear hbl hown
      obtain ⟨V, hV⟩ : ∃ V, V = goAt R C k a := ⟨_, rfl⟩
      go_wp2_with fail
      refine (l09Go_any b R C S A n c k a _ hg r1 r2 c1 c2 hk h64 hlt).mono ?_
      rintro e w1 ⟨rfl, hb1⟩
      rw [← hV]
      have HB := Lib.hid (And.intro (HO.out.1.trans (hb1.mono HO.out.1.size)) (own_below HO.out.2 hb1))
      clear hb1 hg
      cases hok : nbOk R C k a
      · have hV1 : V = -1 := by rw [hV, goAt_no hok]
        have HN := Lib.hid (nearTo_no hok)
        subst hV1
        clear hV hok
        go_wp2_with fail
        go_roundw
        case rel => exact ⟨a + 1, by omega, by go_num, HB.out.1, by rw [HN.out]; exact HB.out.2⟩
        case measure => simp [intOf]; omega
      · have hV1 : V = nbAt C k a := by rw [hV, goAt_yes hok]
        have hbd := nb_bd hok c1
        have HN := Lib.hid (nearTo_yes hok)
        have HV := Lib.hid hV1
        rw [← hV1] at hbd
        clear hV hok hV1
        go_wp2_with fail
        refine (l00Put_any _ _ _ V (nearTo R C k a) _ (Ints.of_own HB.out.2 (nearTo_bd c1 (by omega) hm.2)) (by omega)).mono ?_
        rintro e w2 ⟨A2, cc2, rfl, hf2, hb2⟩
        have HF := Lib.hid (And.intro (HB.out.1.trans (hb2.mono HB.out.1.size)) (own_base (hf2.2 (putL_len _ _).1) HB.out.1.size))
        clear hf2 hb2
        go_wp2_with fail
        go_roundw
        case rel => exact ⟨a + 1, by omega, by go_num, HF.out.1, by rw [HN.out, ← HV.out]; exact HF.out.2⟩
        case measure => simp [intOf]; omega
    · obtain rfl : a = 8 := by omega
      clear hlt hbl hown
      go_wp2_with fail
      go_ret
      exact ⟨A', c', rfl, Fresh.of_own HO.out.2, HO.out.1⟩
end Go.Proofs.Ytknppcgoooaaaaa
