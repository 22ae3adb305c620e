/-
  The way of steepest descent, the reference's.
-/
import Derived.Test.YtdmfapdnepdibaaGridDs
namespace Go.Proofs.Ytdmfapdnepdibaa
open Go.ChangeShapes Go.WideShapes Go.ChangeAt Go.RowKit Go.Deep
set_option linter.unusedVariables false

set_option maxRecDepth 100000 in
set_option maxHeartbeats 1600000 in
theorem l09Descent_any (b : Nat) (R C S : Int) (A : Option Addr) (n c : Nat) (k : Nat) (hs : List Int) (w : World) (hgb : BoxG w b R C S A n c) (h : Ints w A n hs) (hv : gridOk R C S hs = true) (hk : k < n) :
    Calls Try.prog 62 #[.pointer (some ⟨b, 0, none⟩), .int .i64 k] w fun e w' => SlI 2 w (descL R C S hs k) e w' := by
  have hl := h.1
  obtain ⟨⟨r1, r2⟩, ⟨c1, c2⟩, ⟨s1, s2⟩, hn, hall⟩ := gridOk_iff.1 hv
  have hm := mul64 r1 r2 c1 c2
  have h64 : n ≤ 64 := by omega
  have HV := Lib.hid (And.intro hv (And.intro hl hall))
  have HW := Lib.hid (And.intro hgb h)
  have hown0 := World.ownsRow_lit (base := w.heap.size) (e := 2) (size := 1) w #[.int .i64 (k : Int)] 1 (Nat.le_refl _) (by unfold maxLen; simp) rfl
  have hb0 := (Below.refl w.heap.size w).alloc (Nat.le_refl _) (.cells #[.int .i64 (k : Int)] 2)
  clear hl hn hall hv h hgb
  go_enter Try.func62, Try.ntmps62
  go_wp2_with fail
  go_loopw [1, 5] (fun cv o wr => ∃ (m : Nat) (pre : List Int), m < n ∧ cv = .int .i64 m ∧ Hid (descL R C S hs k = pre ++ descL R C S hs m) ∧ Below w.heap.size w wr ∧ wr.ownsRow w.heap.size 2 1 o (pre.length + 1) ((pre ++ [(m : Int)]).map (.int .i64))) (fun _ o _ => (descL R C S hs k).length - lenOf o)
  case atStart => exact ⟨k, [], hk, rfl, rfl, hb0, hown0⟩
  case round =>
    clear hown0 hb0
    obtain ⟨m, pre, hmn, rfl, HH, hbl, hown⟩ := hrel
    have hdl := descL_len HV.out.1 HV.out.2.1 (hg_nat hs k) k (Nat.le_refl _)
    obtain ⟨A', c', rfl, _⟩ := own_form hown
    have HO := Lib.hid (And.intro hbl hown)
    have hbx := HW.out.1.below hbl
    have hix := HW.out.2.below hbl
    obtain ⟨P, hP⟩ : ∃ P, P = steep R C S hs (m : Int) := ⟨_, rfl⟩
    have HP := Lib.hid hP
    by_cases hp : P.1 < 0
    · have HE := Lib.hid (show descL R C S hs k = pre ++ [(m : Int)] by rw [HH.out, descL_stop (by rw [← hP]; exact hp)])
      clear hbl hown hdl hP
      go_wp2_with fail
      refine (l09Steepest_any b R C S A n c m hs _ hbx hix HV.out.1 hmn).mono ?_
      rintro e w2 ⟨rfl, hb2⟩
      rw [← HP.out]
      have HB := Lib.hid (And.intro (HO.out.1.trans (hb2.mono HO.out.1.size)) (own_below HO.out.2 hb2))
      clear hb2 hbx hix
      go_wp2_with fail
      go_ret
      exact ⟨A', c', by rw [HE.out, List.length_append]; rfl, by rw [HE.out, List.length_append]; exact Fresh.of_own HB.out.2, HB.out.1⟩
    · have hnp : ¬ (steep R C S hs (m : Int)).1 < 0 := by rw [← hP]; exact hp
      obtain ⟨M, hM, hMn, hlow⟩ := down_facts HV.out.1 HV.out.2.1 hnp
      obtain ⟨a, ha8, hok, hPa⟩ : ∃ a : Nat, a < 8 ∧ nbOk R C m a = true ∧ P.1 = (a : Int) := by
        rcases steep_cases (R := R) (C := C) (k := m) HV.out.2.2 s1 with ⟨h1, _⟩ | ⟨a, ⟨ha, hok⟩, h1, _⟩
        · rw [hP] at hp; omega
        · exact ⟨a, ha, hok, by rw [hP]; exact h1⟩
      have hgo : goAt R C m a = (M : Int) := by
        rw [goAt_yes hok, ← hM]
        unfold downTo
        rw [← hP, hPa]
        rfl
      have HD := Lib.hid (show descL R C S hs k = (pre ++ [(m : Int)]) ++ descL R C S hs M by
        rw [HH.out, descL_step HV.out.1 HV.out.2.1 hnp, hM]
        simp)
      have hlen : pre.length + 1 < (descL R C S hs k).length := by
        rw [HD.out]
        have : 1 ≤ (descL R C S hs (M : Int)).length := by
          unfold descL
          cases (hg hs (M : Int)).toNat with
          | zero => simp [descF]
          | succ f => unfold descF; split <;> simp
        simp only [List.length_append, List.length_cons, List.length_nil]
        omega
      have hbdk := hg_bd HV.out.2.2 (k : Int)
      have hpl : pre.length ≤ 10000 := by have := hdl.1; unfold hg_nat at this; omega
      have HM := Lib.hid (And.intro hM (And.intro hlow (And.intro hdl (And.intro hok (And.intro hP hnp)))))
      clear hM hlow hdl hok hP hnp hbdk hbl hown hp
      go_wp2_with fail
      refine (l09Steepest_any b R C S A n c m hs _ hbx hix HV.out.1 hmn).mono ?_
      rintro e w2 ⟨rfl, hb2⟩
      rw [← HP.out]
      have HB := Lib.hid (And.intro (HO.out.1.trans (hb2.mono HO.out.1.size)) (own_below HO.out.2 hb2))
      have hbx2 := hbx.below hb2
      clear hb2 hbx hix
      rw [hPa]
      go_wp2_with fail
      refine (l09Go_any b R C S A n c m a _ hbx2 r1 r2 c1 c2 hmn h64 ha8).mono ?_
      rintro e w3 ⟨rfl, hb3⟩
      rw [hgo]
      have HB3 := Lib.hid (And.intro (HB.out.1.trans (hb3.mono HB.out.1.size)) (own_below HB.out.2 hb3))
      clear hb3 hbx2 hgo
      go_wp2_with (at_builtin; refine wp_app_int rfl (.tmp 23) (.tmp 25) 24 rfl w.heap.size 2 Try.underlying24 info_int _ _ (pre ++ [(m : Int)]) (M : Int) (by rfl) HB3.out.2 (by rfl) (by omega) HB3.out.1.size ?_; intro v' w4 hown3 hgrow3 hv3)
      obtain ⟨g, cc, rfl⟩ := hv3
      have HF := Lib.hid (And.intro (HB3.out.1.grown hgrow3 HB3.out.1.size (own_blk HB3.out.2)) hown3)
      clear hown3 hgrow3
      go_wp2_with fail
      go_roundw
      case rel => exact ⟨M, pre ++ [(m : Int)], hMn, rfl, HD.out, HF.out.1, by simpa using HF.out.2⟩
      case measure => simp [lenOf]; omega
end Go.Proofs.Ytdmfapdnepdibaa
