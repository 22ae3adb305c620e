/-
  The steepest slope down, the reference's.
-/
import Derived.Test.YtknppcgoooaaaaaGridU
namespace Go.Proofs.Ytknppcgoooaaaaa
open Go.ChangeShapes Go.WideShapes Go.ChangeAt Go.RowKit Go.Deep
set_option linter.unusedVariables false

theorem goAt_no {R C k : Int} {a : Nat} (h : nbOk R C k a = false) : goAt R C k a = -1 := by unfold goAt; rw [if_neg (by simp [h])]
theorem goAt_yes {R C k : Int} {a : Nat} (h : nbOk R C k a = true) : goAt R C k a = nbAt C k a := by unfold goAt; rw [if_pos h]
set_option maxRecDepth 100000 in
set_option maxHeartbeats 1600000 in
theorem l09Steepest_any (b : Nat) (R C S : Int) (A : Option Addr) (n c : Nat) (k : Nat) (hs : List Int) (w : World) (hg : BoxG w b R C S A n c) (h : Ints w A n hs) (hv : gridOk R C S hs = true) (hk : k < n) :
    Calls Try.prog 33 #[.pointer (some ⟨b, 0, none⟩), .int .i64 k] w fun e w' => e = .returned (.tuple #[.int .i64 (steep R C S hs k).1, .int .i64 (steep R C S hs k).2]) ∧ Below w.heap.size w w' := by
  have hl := h.1
  obtain ⟨⟨r1, r2⟩, ⟨c1, c2⟩, ⟨s1, s2⟩, hn, hall⟩ := gridOk_iff.1 hv
  have hm := mul64 r1 r2 c1 c2
  have h64 : n ≤ 64 := by omega
  have HA := Lib.hid (And.intro hl (And.intro hn (And.intro hall hv)))
  have HW := Lib.hid (And.intro hg h)
  clear hl hn hall hv hg h
  go_enter Try.func33, Try.ntmps33
  go_wp2_with fail
  go_loopw [6, 7, 8] (fun bs ms i wr => ∃ (a : Nat) (p : Int × Int), a ≤ 8 ∧ i = .int .i64 a ∧ bs = .int .i64 p.1 ∧ ms = .int .i64 p.2 ∧ Hid (p = steepTo R C S hs k a) ∧ Below w.heap.size w wr) (fun _ _ i _ => 8 - (intOf i).toNat)
  case atStart => exact ⟨0, (-1, 0), Nat.zero_le _, rfl, rfl, rfl, rfl, Below.refl _ _⟩
  case round =>
    obtain ⟨a, p, ha, rfl, rfl, rfl, HP, hbl⟩ := hrel
    by_cases hlt : a < 8
    · have hg := HW.out.1.below hbl
      have hi := HW.out.2.below hbl
      have HB := Lib.hid hbl
      have hai : (a : Int) < 8 := by omega
      clear hbl
      obtain ⟨V, hV⟩ : ∃ V, V = goAt R C k a := ⟨_, rfl⟩
      go_wp2_with fail
      refine (l09Go_any b R C S A n c k a _ hg r1 r2 c1 c2 hk h64 hlt).mono ?_
      rintro e w1 ⟨rfl, hb1⟩
      rw [← hV]
      have HB1 := Lib.hid (HB.out.trans (hb1.mono HB.out.size))
      have HW1 := Lib.hid (And.intro (hg.below hb1) (hi.below hb1))
      clear hb1 hg hi
      cases hok : nbOk R C k a
      · have hV1 : V = -1 := by rw [hV, goAt_no hok]
        have HPN := Lib.hid (show p = steepTo R C S hs k (a + 1) by rw [steepTo_no hok]; exact HP.out)
        subst hV1
        clear hV hok
        go_wp2_with fail
        go_quiet (fail)
        go_wp2_with fail
        go_roundw
        case rel => exact ⟨a + 1, p, by omega, by go_num, rfl, rfl, HPN.out, below_drewN HB1.out _⟩
        case measure => simp [intOf]; omega
      · obtain ⟨M, hM⟩ : ∃ M : Nat, nbAt C k a = (M : Int) := ⟨(nbAt C k a).toNat, by have := nb_bd hok c1; omega⟩
        have hMn : M < n := by
          have h1 := nb_bd hok c1
          rw [hM, ← HA.out.2.1, HA.out.1] at h1
          omega
        have hV1 : V = (M : Int) := by rw [hV, goAt_yes hok, hM]
        subst hV1
        have HPB := Lib.hid (show steepTo R C S hs k (a + 1) = better C S hs k p a by rw [steepTo_yes hok, ← HP.out])
        clear hok hV
        obtain ⟨g, off, xk, rfl, HXk, hck, _⟩ := HW1.out.2.at_ hk
        obtain ⟨g', off', xM, hA', HXM, hcM, _⟩ := HW1.out.2.at_ hMn
        injection hA' with hA'
        injection hA' with hb' ho' _
        subst hb' ho'
        obtain ⟨p0, p1, p2, p3⟩ := HW1.out.1
        have HV := Lib.hid (And.intro hM (And.intro (hg_eq HXk.out) (hg_eq HXM.out)))
        clear hM
        have hkI : (k : Int) < (n : Int) := by omega
        have hMI : (M : Int) < (n : Int) := by omega
        have hMI0 : ¬ (M : Int) < 0 := by omega
        have hMd : decide ((M : Int) < 0) = false := by simp
        by_cases hx : xM < xk
        · have hd : decide (xk ≤ xM) = false := by simp; omega
          obtain ⟨F, hF⟩ : ∃ F, F = fallAt C S hs k a := ⟨_, rfl⟩
          have HF := Lib.hid hF
          clear hF
          by_cases hp : p.1 < 0
          · have HPN := Lib.hid (show (((a : Int), F) : Int × Int) = steepTo R C S hs k (a + 1) by
              rw [HPB.out]
              unfold better
              rw [if_pos (by rw [HV.out.1, HV.out.2.1, HV.out.2.2]; omega), ← HF.out])
            go_wp2_with fail
            go_quiet (fail)
            go_wp2_with fail
            refine (l09Fall_any b R C S _ n c k M a hs _ (HW1.out.1.below (below_drewN (Below.refl _ _) _)) (HW1.out.2.drewN _) HA.out.2.2.1 s1 s2 hk hMn HV.out.1 hlt).mono ?_
            rintro e w2 ⟨rfl, hb2⟩
            have HB2 := Lib.hid ((below_drewN HB1.out nq).trans (hb2.mono (below_drewN HB1.out nq).size))
            clear hb2
            rw [← HF.out]
            go_wp2_with fail
            go_roundw
            case rel => exact ⟨a + 1, ((a : Int), F), by omega, by go_num, rfl, rfl, HPN.out, HB2.out⟩
            case measure => simp [intOf]; omega
          · by_cases hy : p.2 < F
            · have HPN := Lib.hid (show (((a : Int), F) : Int × Int) = steepTo R C S hs k (a + 1) by
                rw [HPB.out]
                unfold better
                rw [if_pos (by rw [HV.out.1, HV.out.2.1, HV.out.2.2, ← HF.out]; omega), ← HF.out])
              go_wp2_with fail
              go_quiet (fail)
              go_wp2_with fail
              refine (l09Fall_any b R C S _ n c k M a hs _ (HW1.out.1.below (below_drewN (Below.refl _ _) _)) (HW1.out.2.drewN _) HA.out.2.2.1 s1 s2 hk hMn HV.out.1 hlt).mono ?_
              rintro e w2 ⟨rfl, hb2⟩
              have HB2 := Lib.hid ((below_drewN HB1.out nq).trans (hb2.mono (below_drewN HB1.out nq).size))
              clear hb2
              rw [← HF.out]
              go_wp2_with fail
              go_roundw
              case rel => exact ⟨a + 1, ((a : Int), F), by omega, by go_num, rfl, rfl, HPN.out, HB2.out⟩
              case measure => simp [intOf]; omega
            · have HPN := Lib.hid (show p = steepTo R C S hs k (a + 1) by
                rw [HPB.out]
                unfold better
                rw [if_neg (by rw [HV.out.1, HV.out.2.1, HV.out.2.2, ← HF.out]; omega)])
              go_wp2_with fail
              go_quiet (fail)
              go_wp2_with fail
              refine (l09Fall_any b R C S _ n c k M a hs _ (HW1.out.1.below (below_drewN (Below.refl _ _) _)) (HW1.out.2.drewN _) HA.out.2.2.1 s1 s2 hk hMn HV.out.1 hlt).mono ?_
              rintro e w2 ⟨rfl, hb2⟩
              have HB2 := Lib.hid ((below_drewN HB1.out nq).trans (hb2.mono (below_drewN HB1.out nq).size))
              clear hb2
              rw [← HF.out]
              go_wp2_with fail
              go_roundw
              case rel => exact ⟨a + 1, p, by omega, by go_num, rfl, rfl, HPN.out, HB2.out⟩
              case measure => simp [intOf]; omega
        · have hd : decide (xk ≤ xM) = true := by simp; omega
          have HPN := Lib.hid (show p = steepTo R C S hs k (a + 1) by
            rw [HPB.out]
            unfold better
            rw [if_neg (by rw [HV.out.1, HV.out.2.1, HV.out.2.2]; omega)])
          go_wp2_with fail
          go_quiet (fail)
          go_wp2_with fail
          go_roundw
          case rel => exact ⟨a + 1, p, by omega, by go_num, rfl, rfl, HPN.out, below_drewN HB1.out _⟩
          case measure => simp [intOf]; omega
    · obtain rfl : a = 8 := by omega
      have HE := Lib.hid (show p = steep R C S hs k from HP.out)
      have HB := Lib.hid hbl
      clear hbl hlt
      go_wp2_with fail
      go_ret2
      exact ⟨ret_int2 (by rw [← HE.out]) (by rw [← HE.out]), HB.out⟩
end Go.Proofs.Ytknppcgoooaaaaa
