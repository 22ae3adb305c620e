/-
  The walk of the law FnAngles: for every input it returns true, and its arguments read as before.
-/
import Derived.Test.YtknppcgoooaaaaaGreatDoorAngD
import Derived.Test.YtknppcgoooaaaaaGreatDoorAngM
import Derived.Test.YtknppcgoooaaaaaGreatDoorPathU
import Derived.Test.YtknppcgoooaaaaaGreatDoorRpI
import Derived.Test.YtknppcgoooaaaaaGreatDoorPthI
import Derived.Test.YtknppcgoooaaaaaGreatDoorPthMk
import Derived.Deep.DeepCutAuto
namespace Go.Proofs.YtknppcgoooaaaaaGreatDoor.fnAngles
open Go.ChangeShapes Go.WideShapes Go.ChangeAt Go.RowKit Go.Deep
set_option linter.unusedVariables false

theorem b10Long_any (A : Option Addr) (n c : Nat) (w : World) (h : n ≤ 9223372036854775807) :
    Calls Tryz.prog 5 #[.slice A n c] w fun e w' => e = .returned (.bool (decide (1048576 < n))) ∧ w = w' := by
  by_cases h1 : 1048576 < n
  · have h2 : (1048576 : Int) < (n : Int) := by omega
    go_enter Tryz.func5, Tryz.ntmps5
    go_wp2_with fail
    go_ret
    exact ⟨by simp [h1], rfl⟩
  · have h2 : ¬ (1048576 : Int) < (n : Int) := by omega
    go_enter Tryz.func5, Tryz.ntmps5
    go_wp2_with fail
    go_ret
    exact ⟨by simp, rfl⟩
theorem b10Abs_any (n : Int) (w : World) (h : -9223372036854775807 ≤ n ∧ n ≤ 9223372036854775807) :
    Calls Tryz.prog 15 #[.int .i64 n] w fun e w' => e = .returned (.int .i64 (absI n)) ∧ w = w' := by
  by_cases hn : n < 0
  · go_enter Tryz.func15, Tryz.ntmps15
    go_wp2
    go_ret
    exact ⟨ret_int (by simp [absI]; omega), rfl⟩
  · go_enter Tryz.func15, Tryz.ntmps15
    go_wp2
    go_ret
    exact ⟨ret_int (by simp [absI]; omega), rfl⟩
theorem join_le (sep : List UInt8) (B : Nat) : ∀ l : List (List UInt8), (∀ x ∈ l, x.length ≤ B) → (Lib.join l sep).length ≤ l.length * (B + sep.length)
  | [], _ => by simp [Lib.join]
  | [x], h => by
    have := h x (by simp)
    simp [Lib.join]
    omega
  | x :: y :: r, h => by
    have h1 := h x (by simp)
    have h2 := join_le sep B (y :: r) (fun z hz => h z (by simp [hz]))
    rw [join_cons2, List.length_append, List.length_append, List.length_cons, Nat.succ_mul]
    omega
theorem itoa_small {x : Int} (h0 : 0 ≤ x) (h1 : x ≤ 20000) : (Lib.itoa x).length ≤ 18 := by
  rcases itoa_cases x with ⟨u, hu, he⟩ | ⟨u, h2, h3, _⟩
  · rw [he]
    exact dec_len.2 (by omega)
  · omega
theorem pth_size {ps : Pth} (hp : pathOk ps = true) : ({ data := (pthS ps).toArray } : ByteArray).size ≤ 1048576 := by
  have hl := (pathOk_len hp).2.1
  have h1 : (pthT ps).length ≤ (ps.map ptT).length * (40 + [(32 : UInt8)].length) := join_le _ 40 _ (fun x hx => by
    simp only [List.mem_map] at hx
    obtain ⟨p, hpm, rfl⟩ := hx
    have hb := pt_bd hp p hpm
    have a1 := itoa_small hb.1.1 hb.1.2
    have a2 := itoa_small hb.2.1 (by omega)
    unfold ptT
    rw [List.length_append, List.length_cons]
    omega)
  rw [List.length_map] at h1
  have h2 : ({ data := (pthS ps).toArray } : ByteArray).size = (pthS ps).length := by simp [ByteArray.size]
  rw [h2, pthS, if_pos hp]
  have h3 : ps.length * (40 + [(32 : UInt8)].length) ≤ 24 * 41 := Nat.mul_le_mul hl (by simp)
  omega
/-- What the law keeps: the path, the other bytes, the library's variables. -/
structure AFam (w wr : World) (A2 : Option Addr) (n : Nat) (ps : Pth) (A1 : Option Addr) (n1 : Nat) : Prop where
  pts : Pts wr A2 n ps
  more : Byts wr A1 n1
  env : Env wr
  below : Below w.heap.size w wr
theorem AFam.step {w wr w' : World} {A2 A1 : Option Addr} {n n1 : Nat} {ps : Pth} (h : AFam w wr A2 n ps A1 n1) (hb : Below wr.heap.size wr w') : AFam w w' A2 n ps A1 n1 :=
  ⟨h.pts.below hb, h.more.below hb, h.env.below hb, h.below.trans (hb.mono h.below.size)⟩

set_option maxRecDepth 100000 in
set_option maxHeartbeats 40000000 in
theorem walk (A0 : Option Addr) (n0 c0 : Nat) (z0 : Unit) (A1 : Option Addr) (n1 c1 : Nat) (z1 : Unit) (w : World) (h0 : Byts w A0 n0) (h1 : Byts w A1 n1) (hE : Env w) :
    Calls Tryz.prog 3 #[.slice A0 n0 c0, .slice A1 n1 c1] w fun e w' => e = .returned (.bool true) ∧ Below w.heap.size w w' := by
  have hm0 := h0.1
  have hm1 := h1.1
  have HE := Lib.hid hE
  have HH := Lib.hid (And.intro h0 h1)
  clear hE h0 h1
  by_cases hn0 : 1048576 < n0
  · go_enter Tryz.func3, Tryz.ntmps3
    go_wp2_with fail
    refine (b10Long_any _ _ _ _ hm0).mono ?_
    rintro e w' ⟨rfl, rfl⟩
    rw [decide_eq_true hn0]
    go_wp2_with fail
    go_ret
    exact ⟨rfl, Below.refl _ _⟩
  by_cases hn1 : 1048576 < n1
  · go_enter Tryz.func3, Tryz.ntmps3
    go_wp2_with fail
    refine (b10Long_any _ _ _ _ hm0).mono ?_
    rintro e w' ⟨rfl, rfl⟩
    rw [decide_eq_false hn0]
    go_wp2_with fail
    refine (b10Long_any _ _ _ _ hm1).mono ?_
    rintro e w' ⟨rfl, rfl⟩
    rw [decide_eq_true hn1]
    go_wp2_with fail
    go_ret
    exact ⟨rfl, Below.refl _ _⟩
  go_enter Tryz.func3, Tryz.ntmps3
  go_wp2_with fail
  refine (b10Long_any _ _ _ _ hm0).mono ?_
  rintro e w' ⟨rfl, rfl⟩
  rw [decide_eq_false hn0]
  go_wp2_with fail
  refine (b10Long_any _ _ _ _ hm1).mono ?_
  rintro e w' ⟨rfl, rfl⟩
  rw [decide_eq_false hn1]
  go_wp2_with fail
  refine (DrawStopOf_d _ _ _ _ HH.out.1).mono ?_
  rintro e w1 ⟨⟨A2, n, c2, ps, t, rfl, hps, ht1, ht2⟩, hb⟩
  have hmm := hps.2.1
  have HL := Lib.hid hps.1
  have HA := Lib.hid (show AFam w w1 A2 n ps A1 n1 from ⟨hps, HH.out.2.below hb, HE.out.below hb, hb⟩)
  clear hps hb HH HE hm0 hm1 hn0 hn1
  go_wp2_with fail
  refine (StopOf_i _ _ _ t ps _ HA.out.pts).mono ?_
  rintro e w2 ⟨rfl, hb⟩
  replace HA := Lib.hid (HA.out.step hb)
  clear hb
  go_wp2_with fail
  refine (FastestAt_i _ _ _ t ps _ HA.out.pts).mono ?_
  rintro e w3 ⟨rfl, hb⟩
  replace HA := Lib.hid (HA.out.step hb)
  clear hb
  by_cases hc : codeP ps t 0 = 0
  rotate_left
  · have e : stopC ps t = codeP ps t 0 := by rw [stopC, if_neg hc]
    rw [e]
    clear e
    generalize codeP ps t 0 = c0 at hc ⊢
    generalize stopA ps t = sa
    generalize fastB ps t = at_
    generalize fastS ps t = fs
    have hcb : (c0 == 0) = false := by simpa using hc
    go_wp2_with fail
    refine (DrawSpeedAt_d _ _ _ _ HA.out.more).mono ?_
    rintro e wy ⟨⟨Ay, ny, cy, qs, ty, dy, rfl, hqs, hty, hdy⟩, hb⟩
    have HQ := Lib.hid hqs
    replace HA := Lib.hid (HA.out.step hb)
    have hny := hqs.2.1
    clear hb hqs
    go_wp2_with fail
    refine (SpeedAt_i _ _ _ ty dy qs _ HQ.out).mono ?_
    rintro e wz ⟨rfl, hb⟩
    replace HA := Lib.hid (HA.out.step hb)
    have hsl := spd_last qs ty dy
    generalize codeP qs ty dy = cz at hsl ⊢
    generalize spdA qs ty dy = vz at hsl ⊢
    clear hb HQ
    by_cases hcz : cz = 0
    · subst hcz
      have hvz := hsl.2 rfl
      clear hsl
      go_wp2_with fail
      go_ret
      exact ⟨by first | rfl | (simp; done) | (simp; omega), HA.out.below⟩
    · obtain rfl : vz = 0 := hsl.1 hcz
      have hczb : (cz == 0) = false := by simpa using hcz
      have hczd : decide (cz = 0) = false := by simpa using hcz
      clear hsl
      go_wp2_with fail
      go_ret
      exact ⟨by first | rfl | (simp; done) | simp [hcz] | (simp; omega), HA.out.below⟩

  rw [hc]
  obtain ⟨⟨f1, f2⟩, f3, f4, f5, f6⟩ := ang_fast hc
  have HV := Lib.hid (codeP_ok hc).1
  by_cases hs : stopC ps t = 0
  rotate_left
  · clear f3 hc
    obtain ⟨at_, hat⟩ : ∃ at_, at_ = fastB ps t := ⟨_, rfl⟩
    obtain ⟨fs, hfs⟩ : ∃ fs, fs = fastS ps t := ⟨_, rfl⟩
    rw [← hat] at f1 f2 f4 f5 ⊢
    rw [← hfs] at f5 f6 ⊢
    have HS := Lib.hid (And.intro f5 f4)
    clear f4 f5 hat hfs
    generalize stopC ps t = sc at hs ⊢
    generalize stopA ps t = sa
    have hsb : (sc == 0) = false := by simpa using hs
    go_wp2_with fail
    refine (SpeedAt_i _ _ _ t at_ ps _ HA.out.pts).mono ?_
    rintro e wk ⟨rfl, hb⟩
    replace HA := Lib.hid (HA.out.step hb)
    rw [HS.out.1, HS.out.2]
    clear hb
    go_wp2_with fail
    refine (PathText_i _ _ _ ps _ HA.out.pts HA.out.env.tab).mono ?_
    rintro e wl ⟨rfl, hb⟩
    replace HA := Lib.hid (HA.out.step hb)
    clear hb
    go_wp2_with fail
    refine (ReadPath_i _ _ HA.out.env (pth_size HV.out)).mono ?_
    rintro e wm ⟨A4, c4, rs, rfl, hrs, ho, hb⟩
    have hrd := ang_read HV.out
    have hrd' : rp (({ data := (pthS ps).toArray } : ByteArray).data.toList) = some ps := hrd
    rw [hrd'] at hrs ⊢
    obtain rfl : rs = ps := hrs.out
    have fr := (Fresh.of_own ho.out).ptsb (by rw [HL.out]; omega) HA.out.pts.2.2.1
    have hl := HL.out
    rw [hl] at fr ⊢
    have HR := Lib.hid fr
    replace HA := Lib.hid (HA.out.step hb)
    clear hb hrd hrd' hrs ho fr hl
    go_wp2_with fail
    go_loopw [26] (fun iv wr => ∃ k : Nat, k ≤ n ∧ iv = .int .i64 k ∧ Hid (AFam w wr A2 n rs A1 n1) ∧ Hid (Pts wr A4 n rs)) (fun iv _ => n - (intOf iv).toNat)
    case atStart => exact ⟨0, Nat.zero_le _, rfl, HA.out, HR.out⟩
    case round =>
      clear HA HR
      obtain ⟨k, hk, rfl, HA, HR⟩ := hrel
      by_cases hkl : k < n
      · have hki : (k : Int) < (n : Int) := by omega
        obtain ⟨b, off, x, y, rfl, HX, hc1, hc2, hx1, hx2, hy1, hy2⟩ := HA.out.pts.ok HV.out hkl
        obtain ⟨b', off', x', y', rfl, HX', hc1', hc2', _, _, _, _⟩ := HR.out.ok HV.out hkl
        obtain rfl : x = x' := by rw [← HX.out.1, HX'.out.1]
        obtain rfl : y = y' := by rw [← HX.out.2, HX'.out.2]
        obtain ⟨b0, off0, x0, y0, hA0, HX0, _, hd0, _, _, hz1, hz2⟩ := HA.out.pts.ok HV.out (show 0 < n by omega)
        obtain ⟨rfl, rfl⟩ : b = b0 ∧ off = off0 := by
          injection hA0 with e
          injection e with e1 e2
          exact ⟨e1, e2⟩
        clear hA0
        by_cases hk0 : k = 0
        · subst hk0
          clear hd0
          have hk1 : ¬ (0 : Int) < ((0 : Nat) : Int) := by omega
          simp only [Nat.zero_mul, Nat.add_zero] at hc1 hc2 hc1' hc2'
          go_wp2_with fail
          go_quiet (fail)
          go_wp2_with fail
          go_roundw
          case rel => exact ⟨1, by omega, by go_num, HA.out.step (below_drewN (Below.refl _ _) _), HR.out.below (below_drewN (Below.refl _ _) _)⟩
          case measure => simp [intOf]; omega
        · have hk1 : (0 : Int) < (k : Int) := by omega
          simp only [Nat.zero_mul, Nat.add_zero] at hd0
          have hT := ang_tan HV.out (i := k) (by omega) (by rw [HL.out]; exact hkl)
          rw [HX.out.1, HX.out.2, HX0.out.2] at hT
          obtain ⟨t1, ⟨t2, t3⟩, ⟨t4, t5⟩, ⟨t6, t7, t8⟩, ⟨t9, t10⟩, t11, t12⟩ := hT
          obtain ⟨T, hTT⟩ : ∃ T, T = tanA rs (k : Int) := ⟨_, rfl⟩
          rw [← hTT] at t4 t5 t9 t10
          have HT := Lib.hid (And.intro t1 hTT)
          have HG := Lib.hid (And.intro t11 t12)
          have hP1 : 0 ≤ T * x := Int.mul_nonneg t4 (by omega)
          have hP2 : T * x ≤ 9000001 * 20000 := Int.mul_le_mul t5 t3 (by omega) (by omega)
          obtain ⟨ab, hab⟩ : ∃ ab, ab = absI (T * x - 1000 * (y0 - y)) := ⟨_, rfl⟩
          have hab1 : 0 ≤ ab ∧ ab * 2 ≤ x := by rw [hab]; unfold absI; split <;> omega
          obtain ⟨hab1, hab2⟩ := hab1
          have HAB := fun W : World => Lib.hid (show Calls Tryz.prog 15 #[.int .i64 (T * x - 1000 * (y0 - y))] W fun e w' => e = .returned (.int .i64 ab) ∧ W = w' from by rw [hab]; exact b10Abs_any _ _ (by omega))
          have hw1 : IntKind.i64.wrap (T * x) = T * x := IntWalk.i64_in _ (by omega)
          have hw2 : IntKind.i64.wrap (y0 - y) = y0 - y := IntWalk.i64_in _ (by omega)
          have hw3 : IntKind.i64.wrap (1000 * (y0 - y)) = 1000 * (y0 - y) := IntWalk.i64_in _ (by omega)
          have hw4 : IntKind.i64.wrap (T * x - 1000 * (y0 - y)) = T * x - 1000 * (y0 - y) := IntWalk.i64_in _ (by omega)
          have hw5 : IntKind.i64.wrap (ab * 2) = ab * 2 := IntWalk.i64_in _ (by omega)
          have hw6 : IntKind.i64.wrap (1000 * y) = 1000 * y := IntWalk.i64_in _ (by omega)
          have hd1 : decide (x < ab * 2) = false := by simp; omega
          have hd2 : ¬ x < ab * 2 := by omega
          have HW := Lib.hid (And.intro hw1 (And.intro hw2 (And.intro hw3 (And.intro hw4 (And.intro hw5 (And.intro hw6 (And.intro hd1 hd2)))))))
          clear hw1 hw2 hw3 hw4 hw5 hw6 hd1 hd2 hab hab1 hab2 hP1 hP2 t1 t2 t4 t5 t6 t7 t9 t10 t11 t12 hTT
          go_wp2_with fail
          go_quiet (fail)
          go_wp2_with fail
          refine (TangentOf_i _ _ _ (k : Int) rs _ (HA.out.step (below_drewN (Below.refl _ _) _)).pts).mono ?_
          rintro e wt ⟨rfl, hb⟩
          rw [HT.out.1, ← HT.out.2]
          have HA2 := Lib.hid ((HA.out.step (below_drewN (Below.refl _ _) _)).step hb)
          have HR2 := Lib.hid ((HR.out.below (below_drewN (Below.refl _ _) _)).below hb)
          replace hc1 := cell_kept hb hc1
          replace hc2 := cell_kept hb hc2
          replace hd0 := cell_kept hb hd0
          clear hb HA HR hc1' hc2'
          go_wp2_with fail
          refine (GroundAt_i _ _ _ x rs _ HA2.out.pts).mono ?_
          rintro e wg ⟨rfl, hb⟩
          rw [HG.out.1, HG.out.2]
          replace HA2 := Lib.hid (HA2.out.step hb)
          replace HR2 := Lib.hid (HR2.out.below hb)
          replace hc1 := cell_kept hb hc1
          replace hc2 := cell_kept hb hc2
          replace hd0 := cell_kept hb hd0
          clear hb
          obtain ⟨hw1, hw2, hw3, hw4, hw5, hw6, hd1, hd2⟩ := HW.out
          go_wp2_with fail
          go_quiet ((go_at_call 15; exact quiet_left (HAB _).out))
          go_wp2_with fail
          go_roundw
          case rel => exact ⟨k + 1, by omega, by go_num, HA2.out.step (below_drewN (Below.refl _ _) _), HR2.out.below (below_drewN (Below.refl _ _) _)⟩
          case measure => simp [intOf]; omega
      · obtain rfl : k = n := by omega
        clear hkl
        go_wp2_with fail
        refine (DrawSpeedAt_d _ _ _ _ HA.out.more).mono ?_
        rintro e wy ⟨⟨Ay, ny, cy, qs, ty, dy, rfl, hqs, hty, hdy⟩, hb⟩
        have HQ := Lib.hid hqs
        replace HA := Lib.hid (HA.out.step hb)
        have hny := hqs.2.1
        clear hb hqs
        go_wp2_with fail
        refine (SpeedAt_i _ _ _ ty dy qs _ HQ.out).mono ?_
        rintro e wz ⟨rfl, hb⟩
        replace HA := Lib.hid (HA.out.step hb)
        have hsl := spd_last qs ty dy
        generalize codeP qs ty dy = cz at hsl ⊢
        generalize spdA qs ty dy = vz at hsl ⊢
        clear hb HQ
        by_cases hcz : cz = 0
        · subst hcz
          have hvz := hsl.2 rfl
          clear hsl
          go_wp2_with fail
          go_ret
          exact ⟨by first | rfl | (simp; done) | (simp; omega), HA.out.below⟩
        · obtain rfl : vz = 0 := hsl.1 hcz
          have hczb : (cz == 0) = false := by simpa using hcz
          have hczd : decide (cz = 0) = false := by simpa using hcz
          clear hsl
          go_wp2_with fail
          go_ret
          exact ⟨by first | rfl | (simp; done) | simp [hcz] | (simp; omega), HA.out.below⟩

  have hst := ang_stop hs
  rw [hs]
  obtain ⟨at_, hat⟩ : ∃ at_, at_ = fastB ps t := ⟨_, rfl⟩
  obtain ⟨fs, hfs⟩ : ∃ fs, fs = fastS ps t := ⟨_, rfl⟩
  obtain ⟨stop, hsto⟩ : ∃ stop, stop = stopA ps t := ⟨_, rfl⟩
  rw [← hat] at f1 f2 f4 f5 hst ⊢
  rw [← hfs] at f5 f6 ⊢
  rw [← hsto] at hst ⊢
  have HS := Lib.hid (And.intro f5 f4)
  obtain ⟨⟨s1, s2⟩, s3, s4, s5, s6, s7, s8⟩ := hst
  have HC := Lib.hid (And.intro s3 (And.intro s4 s6))
  have HD := Lib.hid s8
  obtain ⟨gr, hgr⟩ : ∃ gr, gr = gndA ps stop := ⟨_, rfl⟩
  obtain ⟨ln, hln⟩ : ∃ ln, ln = lineA ps t stop := ⟨_, rfl⟩
  rw [← hgr, ← hln] at s5
  have HG := Lib.hid (And.intro hgr hln)
  clear f3 f4 f5 hc hs hat hfs hsto hgr hln s3 s4 s6 s8
  go_wp2_with fail
  refine (GroundAt_i _ _ _ stop ps _ HA.out.pts).mono ?_
  rintro e wa ⟨rfl, hb⟩
  replace HA := Lib.hid (HA.out.step hb)
  rw [HC.out.1, ← HG.out.1]
  clear hb
  go_wp2_with fail
  refine (LineAt_i _ _ _ t stop ps _ HA.out.pts).mono ?_
  rintro e wb ⟨rfl, hb⟩
  replace HA := Lib.hid (HA.out.step hb)
  rw [HC.out.2.1, ← HG.out.2]
  clear hb
  go_wp2_with fail
  refine (SpeedAt_i _ _ _ t stop ps _ HA.out.pts).mono ?_
  rintro e wc ⟨rfl, hb⟩
  replace HA := Lib.hid (HA.out.step hb)
  rw [HC.out.2.1, HC.out.2.2]
  clear hb HC HG
  have g1 : ¬ stop < 1 := by omega
  have g2 : ¬ gr < ln := by omega
  have g3 : ¬ stop ≤ at_ := by omega
  have g4 : ¬ at_ < 0 := by omega
  by_cases h1 : 1 < stop
  · obtain ⟨s3, s4, s5'⟩ := HD.out h1
    obtain ⟨gr', hgr⟩ : ∃ gr, gr = gndA ps (stop - 1) := ⟨_, rfl⟩
    obtain ⟨ln', hln⟩ : ∃ ln, ln = lineA ps t (stop - 1) := ⟨_, rfl⟩
    rw [← hgr, ← hln] at s5'
    have HC := Lib.hid (And.intro s3 s4)
    have HG := Lib.hid (And.intro hgr hln)
    have g5 : ¬ ln' ≤ gr' := by omega
    clear HD s3 s4 hgr hln
    go_wp2_with fail
    refine (GroundAt_i _ _ _ (stop - 1) ps _ HA.out.pts).mono ?_
    rintro e wd ⟨rfl, hb⟩
    replace HA := Lib.hid (HA.out.step hb)
    rw [HC.out.1, ← HG.out.1]
    clear hb
    go_wp2_with fail
    refine (LineAt_i _ _ _ t (stop - 1) ps _ HA.out.pts).mono ?_
    rintro e we ⟨rfl, hb⟩
    replace HA := Lib.hid (HA.out.step hb)
    rw [HC.out.2, ← HG.out.2]
    clear hb HC HG
    go_wp2_with fail
    refine (SpeedAt_i _ _ _ t at_ ps _ HA.out.pts).mono ?_
    rintro e wk ⟨rfl, hb⟩
    replace HA := Lib.hid (HA.out.step hb)
    rw [HS.out.1, HS.out.2]
    clear hb
    go_wp2_with fail
    refine (PathText_i _ _ _ ps _ HA.out.pts HA.out.env.tab).mono ?_
    rintro e wl ⟨rfl, hb⟩
    replace HA := Lib.hid (HA.out.step hb)
    clear hb
    go_wp2_with fail
    refine (ReadPath_i _ _ HA.out.env (pth_size HV.out)).mono ?_
    rintro e wm ⟨A4, c4, rs, rfl, hrs, ho, hb⟩
    have hrd := ang_read HV.out
    have hrd' : rp (({ data := (pthS ps).toArray } : ByteArray).data.toList) = some ps := hrd
    rw [hrd'] at hrs ⊢
    obtain rfl : rs = ps := hrs.out
    have fr := (Fresh.of_own ho.out).ptsb (by rw [HL.out]; omega) HA.out.pts.2.2.1
    have hl := HL.out
    rw [hl] at fr ⊢
    have HR := Lib.hid fr
    replace HA := Lib.hid (HA.out.step hb)
    clear hb hrd hrd' hrs ho fr hl
    go_wp2_with fail
    go_loopw [26] (fun iv wr => ∃ k : Nat, k ≤ n ∧ iv = .int .i64 k ∧ Hid (AFam w wr A2 n rs A1 n1) ∧ Hid (Pts wr A4 n rs)) (fun iv _ => n - (intOf iv).toNat)
    case atStart => exact ⟨0, Nat.zero_le _, rfl, HA.out, HR.out⟩
    case round =>
      clear HA HR
      obtain ⟨k, hk, rfl, HA, HR⟩ := hrel
      by_cases hkl : k < n
      · have hki : (k : Int) < (n : Int) := by omega
        obtain ⟨b, off, x, y, rfl, HX, hc1, hc2, hx1, hx2, hy1, hy2⟩ := HA.out.pts.ok HV.out hkl
        obtain ⟨b', off', x', y', rfl, HX', hc1', hc2', _, _, _, _⟩ := HR.out.ok HV.out hkl
        obtain rfl : x = x' := by rw [← HX.out.1, HX'.out.1]
        obtain rfl : y = y' := by rw [← HX.out.2, HX'.out.2]
        obtain ⟨b0, off0, x0, y0, hA0, HX0, _, hd0, _, _, hz1, hz2⟩ := HA.out.pts.ok HV.out (show 0 < n by omega)
        obtain ⟨rfl, rfl⟩ : b = b0 ∧ off = off0 := by
          injection hA0 with e
          injection e with e1 e2
          exact ⟨e1, e2⟩
        clear hA0
        by_cases hk0 : k = 0
        · subst hk0
          clear hd0
          have hk1 : ¬ (0 : Int) < ((0 : Nat) : Int) := by omega
          simp only [Nat.zero_mul, Nat.add_zero] at hc1 hc2 hc1' hc2'
          go_wp2_with fail
          go_quiet (fail)
          go_wp2_with fail
          go_roundw
          case rel => exact ⟨1, by omega, by go_num, HA.out.step (below_drewN (Below.refl _ _) _), HR.out.below (below_drewN (Below.refl _ _) _)⟩
          case measure => simp [intOf]; omega
        · have hk1 : (0 : Int) < (k : Int) := by omega
          simp only [Nat.zero_mul, Nat.add_zero] at hd0
          have hT := ang_tan HV.out (i := k) (by omega) (by rw [HL.out]; exact hkl)
          rw [HX.out.1, HX.out.2, HX0.out.2] at hT
          obtain ⟨t1, ⟨t2, t3⟩, ⟨t4, t5⟩, ⟨t6, t7, t8⟩, ⟨t9, t10⟩, t11, t12⟩ := hT
          obtain ⟨T, hTT⟩ : ∃ T, T = tanA rs (k : Int) := ⟨_, rfl⟩
          rw [← hTT] at t4 t5 t9 t10
          have HT := Lib.hid (And.intro t1 hTT)
          have HG := Lib.hid (And.intro t11 t12)
          have hP1 : 0 ≤ T * x := Int.mul_nonneg t4 (by omega)
          have hP2 : T * x ≤ 9000001 * 20000 := Int.mul_le_mul t5 t3 (by omega) (by omega)
          obtain ⟨ab, hab⟩ : ∃ ab, ab = absI (T * x - 1000 * (y0 - y)) := ⟨_, rfl⟩
          have hab1 : 0 ≤ ab ∧ ab * 2 ≤ x := by rw [hab]; unfold absI; split <;> omega
          obtain ⟨hab1, hab2⟩ := hab1
          have HAB := fun W : World => Lib.hid (show Calls Tryz.prog 15 #[.int .i64 (T * x - 1000 * (y0 - y))] W fun e w' => e = .returned (.int .i64 ab) ∧ W = w' from by rw [hab]; exact b10Abs_any _ _ (by omega))
          have hw1 : IntKind.i64.wrap (T * x) = T * x := IntWalk.i64_in _ (by omega)
          have hw2 : IntKind.i64.wrap (y0 - y) = y0 - y := IntWalk.i64_in _ (by omega)
          have hw3 : IntKind.i64.wrap (1000 * (y0 - y)) = 1000 * (y0 - y) := IntWalk.i64_in _ (by omega)
          have hw4 : IntKind.i64.wrap (T * x - 1000 * (y0 - y)) = T * x - 1000 * (y0 - y) := IntWalk.i64_in _ (by omega)
          have hw5 : IntKind.i64.wrap (ab * 2) = ab * 2 := IntWalk.i64_in _ (by omega)
          have hw6 : IntKind.i64.wrap (1000 * y) = 1000 * y := IntWalk.i64_in _ (by omega)
          have hd1 : decide (x < ab * 2) = false := by simp; omega
          have hd2 : ¬ x < ab * 2 := by omega
          have HW := Lib.hid (And.intro hw1 (And.intro hw2 (And.intro hw3 (And.intro hw4 (And.intro hw5 (And.intro hw6 (And.intro hd1 hd2)))))))
          clear hw1 hw2 hw3 hw4 hw5 hw6 hd1 hd2 hab hab1 hab2 hP1 hP2 t1 t2 t4 t5 t6 t7 t9 t10 t11 t12 hTT
          go_wp2_with fail
          go_quiet (fail)
          go_wp2_with fail
          refine (TangentOf_i _ _ _ (k : Int) rs _ (HA.out.step (below_drewN (Below.refl _ _) _)).pts).mono ?_
          rintro e wt ⟨rfl, hb⟩
          rw [HT.out.1, ← HT.out.2]
          have HA2 := Lib.hid ((HA.out.step (below_drewN (Below.refl _ _) _)).step hb)
          have HR2 := Lib.hid ((HR.out.below (below_drewN (Below.refl _ _) _)).below hb)
          replace hc1 := cell_kept hb hc1
          replace hc2 := cell_kept hb hc2
          replace hd0 := cell_kept hb hd0
          clear hb HA HR hc1' hc2'
          go_wp2_with fail
          refine (GroundAt_i _ _ _ x rs _ HA2.out.pts).mono ?_
          rintro e wg ⟨rfl, hb⟩
          rw [HG.out.1, HG.out.2]
          replace HA2 := Lib.hid (HA2.out.step hb)
          replace HR2 := Lib.hid (HR2.out.below hb)
          replace hc1 := cell_kept hb hc1
          replace hc2 := cell_kept hb hc2
          replace hd0 := cell_kept hb hd0
          clear hb
          obtain ⟨hw1, hw2, hw3, hw4, hw5, hw6, hd1, hd2⟩ := HW.out
          go_wp2_with fail
          go_quiet ((go_at_call 15; exact quiet_left (HAB _).out))
          go_wp2_with fail
          go_roundw
          case rel => exact ⟨k + 1, by omega, by go_num, HA2.out.step (below_drewN (Below.refl _ _) _), HR2.out.below (below_drewN (Below.refl _ _) _)⟩
          case measure => simp [intOf]; omega
      · obtain rfl : k = n := by omega
        clear hkl
        go_wp2_with fail
        refine (DrawSpeedAt_d _ _ _ _ HA.out.more).mono ?_
        rintro e wy ⟨⟨Ay, ny, cy, qs, ty, dy, rfl, hqs, hty, hdy⟩, hb⟩
        have HQ := Lib.hid hqs
        replace HA := Lib.hid (HA.out.step hb)
        have hny := hqs.2.1
        clear hb hqs
        go_wp2_with fail
        refine (SpeedAt_i _ _ _ ty dy qs _ HQ.out).mono ?_
        rintro e wz ⟨rfl, hb⟩
        replace HA := Lib.hid (HA.out.step hb)
        have hsl := spd_last qs ty dy
        generalize codeP qs ty dy = cz at hsl ⊢
        generalize spdA qs ty dy = vz at hsl ⊢
        clear hb HQ
        by_cases hcz : cz = 0
        · subst hcz
          have hvz := hsl.2 rfl
          clear hsl
          go_wp2_with fail
          go_ret
          exact ⟨by first | rfl | (simp; done) | (simp; omega), HA.out.below⟩
        · obtain rfl : vz = 0 := hsl.1 hcz
          have hczb : (cz == 0) = false := by simpa using hcz
          have hczd : decide (cz = 0) = false := by simpa using hcz
          clear hsl
          go_wp2_with fail
          go_ret
          exact ⟨by first | rfl | (simp; done) | simp [hcz] | (simp; omega), HA.out.below⟩

  · clear HD
    go_wp2_with fail
    refine (SpeedAt_i _ _ _ t at_ ps _ HA.out.pts).mono ?_
    rintro e wk ⟨rfl, hb⟩
    replace HA := Lib.hid (HA.out.step hb)
    rw [HS.out.1, HS.out.2]
    clear hb
    go_wp2_with fail
    refine (PathText_i _ _ _ ps _ HA.out.pts HA.out.env.tab).mono ?_
    rintro e wl ⟨rfl, hb⟩
    replace HA := Lib.hid (HA.out.step hb)
    clear hb
    go_wp2_with fail
    refine (ReadPath_i _ _ HA.out.env (pth_size HV.out)).mono ?_
    rintro e wm ⟨A4, c4, rs, rfl, hrs, ho, hb⟩
    have hrd := ang_read HV.out
    have hrd' : rp (({ data := (pthS ps).toArray } : ByteArray).data.toList) = some ps := hrd
    rw [hrd'] at hrs ⊢
    obtain rfl : rs = ps := hrs.out
    have fr := (Fresh.of_own ho.out).ptsb (by rw [HL.out]; omega) HA.out.pts.2.2.1
    have hl := HL.out
    rw [hl] at fr ⊢
    have HR := Lib.hid fr
    replace HA := Lib.hid (HA.out.step hb)
    clear hb hrd hrd' hrs ho fr hl
    go_wp2_with fail
    go_loopw [26] (fun iv wr => ∃ k : Nat, k ≤ n ∧ iv = .int .i64 k ∧ Hid (AFam w wr A2 n rs A1 n1) ∧ Hid (Pts wr A4 n rs)) (fun iv _ => n - (intOf iv).toNat)
    case atStart => exact ⟨0, Nat.zero_le _, rfl, HA.out, HR.out⟩
    case round =>
      clear HA HR
      obtain ⟨k, hk, rfl, HA, HR⟩ := hrel
      by_cases hkl : k < n
      · have hki : (k : Int) < (n : Int) := by omega
        obtain ⟨b, off, x, y, rfl, HX, hc1, hc2, hx1, hx2, hy1, hy2⟩ := HA.out.pts.ok HV.out hkl
        obtain ⟨b', off', x', y', rfl, HX', hc1', hc2', _, _, _, _⟩ := HR.out.ok HV.out hkl
        obtain rfl : x = x' := by rw [← HX.out.1, HX'.out.1]
        obtain rfl : y = y' := by rw [← HX.out.2, HX'.out.2]
        obtain ⟨b0, off0, x0, y0, hA0, HX0, _, hd0, _, _, hz1, hz2⟩ := HA.out.pts.ok HV.out (show 0 < n by omega)
        obtain ⟨rfl, rfl⟩ : b = b0 ∧ off = off0 := by
          injection hA0 with e
          injection e with e1 e2
          exact ⟨e1, e2⟩
        clear hA0
        by_cases hk0 : k = 0
        · subst hk0
          clear hd0
          have hk1 : ¬ (0 : Int) < ((0 : Nat) : Int) := by omega
          simp only [Nat.zero_mul, Nat.add_zero] at hc1 hc2 hc1' hc2'
          go_wp2_with fail
          go_quiet (fail)
          go_wp2_with fail
          go_roundw
          case rel => exact ⟨1, by omega, by go_num, HA.out.step (below_drewN (Below.refl _ _) _), HR.out.below (below_drewN (Below.refl _ _) _)⟩
          case measure => simp [intOf]; omega
        · have hk1 : (0 : Int) < (k : Int) := by omega
          simp only [Nat.zero_mul, Nat.add_zero] at hd0
          have hT := ang_tan HV.out (i := k) (by omega) (by rw [HL.out]; exact hkl)
          rw [HX.out.1, HX.out.2, HX0.out.2] at hT
          obtain ⟨t1, ⟨t2, t3⟩, ⟨t4, t5⟩, ⟨t6, t7, t8⟩, ⟨t9, t10⟩, t11, t12⟩ := hT
          obtain ⟨T, hTT⟩ : ∃ T, T = tanA rs (k : Int) := ⟨_, rfl⟩
          rw [← hTT] at t4 t5 t9 t10
          have HT := Lib.hid (And.intro t1 hTT)
          have HG := Lib.hid (And.intro t11 t12)
          have hP1 : 0 ≤ T * x := Int.mul_nonneg t4 (by omega)
          have hP2 : T * x ≤ 9000001 * 20000 := Int.mul_le_mul t5 t3 (by omega) (by omega)
          obtain ⟨ab, hab⟩ : ∃ ab, ab = absI (T * x - 1000 * (y0 - y)) := ⟨_, rfl⟩
          have hab1 : 0 ≤ ab ∧ ab * 2 ≤ x := by rw [hab]; unfold absI; split <;> omega
          obtain ⟨hab1, hab2⟩ := hab1
          have HAB := fun W : World => Lib.hid (show Calls Tryz.prog 15 #[.int .i64 (T * x - 1000 * (y0 - y))] W fun e w' => e = .returned (.int .i64 ab) ∧ W = w' from by rw [hab]; exact b10Abs_any _ _ (by omega))
          have hw1 : IntKind.i64.wrap (T * x) = T * x := IntWalk.i64_in _ (by omega)
          have hw2 : IntKind.i64.wrap (y0 - y) = y0 - y := IntWalk.i64_in _ (by omega)
          have hw3 : IntKind.i64.wrap (1000 * (y0 - y)) = 1000 * (y0 - y) := IntWalk.i64_in _ (by omega)
          have hw4 : IntKind.i64.wrap (T * x - 1000 * (y0 - y)) = T * x - 1000 * (y0 - y) := IntWalk.i64_in _ (by omega)
          have hw5 : IntKind.i64.wrap (ab * 2) = ab * 2 := IntWalk.i64_in _ (by omega)
          have hw6 : IntKind.i64.wrap (1000 * y) = 1000 * y := IntWalk.i64_in _ (by omega)
          have hd1 : decide (x < ab * 2) = false := by simp; omega
          have hd2 : ¬ x < ab * 2 := by omega
          have HW := Lib.hid (And.intro hw1 (And.intro hw2 (And.intro hw3 (And.intro hw4 (And.intro hw5 (And.intro hw6 (And.intro hd1 hd2)))))))
          clear hw1 hw2 hw3 hw4 hw5 hw6 hd1 hd2 hab hab1 hab2 hP1 hP2 t1 t2 t4 t5 t6 t7 t9 t10 t11 t12 hTT
          go_wp2_with fail
          go_quiet (fail)
          go_wp2_with fail
          refine (TangentOf_i _ _ _ (k : Int) rs _ (HA.out.step (below_drewN (Below.refl _ _) _)).pts).mono ?_
          rintro e wt ⟨rfl, hb⟩
          rw [HT.out.1, ← HT.out.2]
          have HA2 := Lib.hid ((HA.out.step (below_drewN (Below.refl _ _) _)).step hb)
          have HR2 := Lib.hid ((HR.out.below (below_drewN (Below.refl _ _) _)).below hb)
          replace hc1 := cell_kept hb hc1
          replace hc2 := cell_kept hb hc2
          replace hd0 := cell_kept hb hd0
          clear hb HA HR hc1' hc2'
          go_wp2_with fail
          refine (GroundAt_i _ _ _ x rs _ HA2.out.pts).mono ?_
          rintro e wg ⟨rfl, hb⟩
          rw [HG.out.1, HG.out.2]
          replace HA2 := Lib.hid (HA2.out.step hb)
          replace HR2 := Lib.hid (HR2.out.below hb)
          replace hc1 := cell_kept hb hc1
          replace hc2 := cell_kept hb hc2
          replace hd0 := cell_kept hb hd0
          clear hb
          obtain ⟨hw1, hw2, hw3, hw4, hw5, hw6, hd1, hd2⟩ := HW.out
          go_wp2_with fail
          go_quiet ((go_at_call 15; exact quiet_left (HAB _).out))
          go_wp2_with fail
          go_roundw
          case rel => exact ⟨k + 1, by omega, by go_num, HA2.out.step (below_drewN (Below.refl _ _) _), HR2.out.below (below_drewN (Below.refl _ _) _)⟩
          case measure => simp [intOf]; omega
      · obtain rfl : k = n := by omega
        clear hkl
        go_wp2_with fail
        refine (DrawSpeedAt_d _ _ _ _ HA.out.more).mono ?_
        rintro e wy ⟨⟨Ay, ny, cy, qs, ty, dy, rfl, hqs, hty, hdy⟩, hb⟩
        have HQ := Lib.hid hqs
        replace HA := Lib.hid (HA.out.step hb)
        have hny := hqs.2.1
        clear hb hqs
        go_wp2_with fail
        refine (SpeedAt_i _ _ _ ty dy qs _ HQ.out).mono ?_
        rintro e wz ⟨rfl, hb⟩
        replace HA := Lib.hid (HA.out.step hb)
        have hsl := spd_last qs ty dy
        generalize codeP qs ty dy = cz at hsl ⊢
        generalize spdA qs ty dy = vz at hsl ⊢
        clear hb HQ
        by_cases hcz : cz = 0
        · subst hcz
          have hvz := hsl.2 rfl
          clear hsl
          go_wp2_with fail
          go_ret
          exact ⟨by first | rfl | (simp; done) | (simp; omega), HA.out.below⟩
        · obtain rfl : vz = 0 := hsl.1 hcz
          have hczb : (cz == 0) = false := by simpa using hcz
          have hczd : decide (cz = 0) = false := by simpa using hcz
          clear hsl
          go_wp2_with fail
          go_ret
          exact ⟨by first | rfl | (simp; done) | simp [hcz] | (simp; omega), HA.out.below⟩

end Go.Proofs.YtknppcgoooaaaaaGreatDoor.fnAngles
