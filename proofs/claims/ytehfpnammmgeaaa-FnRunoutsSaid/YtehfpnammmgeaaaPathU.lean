/-
  The least tangent whose stop lies within a distance: the program.
-/
import Derived.Test.YtehfpnammmgeaaaPathT
namespace Go.Proofs.Ytehfpnammmgeaaa
open Go.ChangeShapes Go.WideShapes Go.ChangeAt Go.RowKit Go.Deep
set_option linter.unusedVariables false

theorem stopOf_yes (A : Option Addr) (n c : Nat) (t m : Int) (ps : Pth) (w : World) (h : Pts w A n ps) (hp : pathOk ps = true) (ht1 : 0 ≤ t) (ht2 : t ≤ 4000) (hm : stopV ps t = m) (h0 : 0 ≤ m) :
    Calls Try.prog 54 #[.slice A n c, .int .i64 t] w fun e w' => e = .returned (.tuple #[.int .i64 m, .bool true]) ∧ Below w.heap.size w w' := by
  refine (stopOf_any A n c t ps w h hp ht1 ht2).mono ?_
  rintro e w' ⟨⟨x, h1, h2, h3, h4, rfl⟩ | ⟨h1, rfl⟩, hb⟩
  · have : stopV ps t = x := firstI_eq h1 h2 h3 h4
    obtain rfl : x = m := by omega
    exact ⟨rfl, hb⟩
  · have : stopV ps t = -1 := firstI_no h1
    omega
theorem stopOf_no (A : Option Addr) (n c : Nat) (t : Int) (ps : Pth) (w : World) (h : Pts w A n ps) (hp : pathOk ps = true) (ht1 : 0 ≤ t) (ht2 : t ≤ 4000) (hm : stopV ps t < 0) :
    Calls Try.prog 54 #[.slice A n c, .int .i64 t] w fun e w' => e = .returned (.tuple #[.int .i64 0, .bool false]) ∧ Below w.heap.size w w' := by
  refine (stopOf_any A n c t ps w h hp ht1 ht2).mono ?_
  rintro e w' ⟨⟨x, h1, h2, h3, h4, rfl⟩ | ⟨h1, rfl⟩, hb⟩
  · have : stopV ps t = x := firstI_eq h1 h2 h3 h4
    omega
  · exact ⟨rfl, hb⟩
set_option maxRecDepth 100000 in
theorem tan_c (A : Option Addr) (n c p q : Nat) (t d : Int) (ps : Pth) (w : World) (h : Pts w A n ps) (hp : pathOk ps = true) (hcl : w.cell? ⟨p, 0, none⟩ = some (.slice A n c)) (hct : w.cell? ⟨q, 0, none⟩ = some (.int .i64 d))
    (ht1 : 0 ≤ t) (ht2 : t ≤ 4000) :
    Calls Try.prog 53 #[.int .i64 t, .pointer (some ⟨p, 0, none⟩), .pointer (some ⟨q, 0, none⟩)] w fun e w' => e = .returned (.bool (tanP ps d t)) ∧ Below w.heap.size w w' := by
  have HH := hid_and h hp
  clear h hp
  by_cases h0 : 0 ≤ stopV ps t
  · obtain ⟨m, hm⟩ : ∃ m, stopV ps t = m := ⟨_, rfl⟩
    rw [hm] at h0
    have HT := Lib.hid (show tanP ps d t = decide (m ≤ d) by unfold tanP; rw [hm]; simp [h0])
    have HM := Lib.hid hm
    clear hm
    by_cases hd : m ≤ d
    all_goals
      go_enter Try.func53, Try.ntmps53
      go_wp2_with (go_at_call 54; refine (stopOf_yes _ _ _ _ _ ps _ HH.out.1 HH.out.2 ht1 ht2 HM.out h0).mono ?_; rintro e w2 ⟨rfl, hb2⟩; have hct2 := cell_kept hb2 hct)
      go_ret
      exact ⟨ret_bool (by rw [HT.out]; try simp [hd]), hb2⟩
  · have HT := Lib.hid (show tanP ps d t = false by unfold tanP; simp; omega)
    have h1 : stopV ps t < 0 := by omega
    go_enter Try.func53, Try.ntmps53
    go_wp2_with (go_at_call 54; refine (stopOf_no _ _ _ _ ps _ HH.out.1 HH.out.2 ht1 ht2 h1).mono ?_; rintro e w2 ⟨rfl, hb2⟩; have hct2 := cell_kept hb2 hct)
    go_ret
    exact ⟨ret_bool (by rw [HT.out]), hb2⟩
def tanQ (ps : Pth) (d i : Int) : Bool := tanP ps d (1 + i)
set_option maxRecDepth 100000 in
theorem fi_c (A : Option Addr) (n c p q r s : Nat) (i d : Int) (ps : Pth) (w : World) (h : Pts w A n ps) (hp : pathOk ps = true) (hcl : w.cell? ⟨p, 0, none⟩ = some (.slice A n c)) (hct : w.cell? ⟨q, 0, none⟩ = some (.int .i64 d))
    (hcr : w.cell? ⟨r, 0, none⟩ = some (.func (.func 53) #[] #[.pointer (some ⟨p, 0, none⟩), .pointer (some ⟨q, 0, none⟩)])) (hcs : w.cell? ⟨s, 0, none⟩ = some (.int .i64 1))
    (ht1 : 0 ≤ i) (ht2 : i ≤ 3000) :
    Calls Try.prog 80 #[.int .i64 i, .pointer (some ⟨r, 0, none⟩), .pointer (some ⟨s, 0, none⟩)] w fun e w' => e = .returned (.bool (tanQ ps d i)) ∧ Below w.heap.size w w' := by
  have HC : Hid (∀ W : World, W.heap = w.heap → Calls Try.prog 53 #[.int .i64 (1 + i), .pointer (some ⟨p, 0, none⟩), .pointer (some ⟨q, 0, none⟩)] W fun e w' => e = .returned (.bool (tanP ps d (1 + i))) ∧ Below W.heap.size W w') := fun W hW => by
    refine tan_c A n c p q _ d ps W ?_ hp (by rw [← hcl]; simp only [World.cell?, hW]) (by rw [← hct]; simp only [World.cell?, hW]) (by omega) (by omega)
    obtain ⟨a1, a2, a3, a4⟩ := h
    refine ⟨a1, a2, a3, fun h0 => ?_⟩
    obtain ⟨b1, o1, e1, c1⟩ := a4 h0
    exact ⟨b1, o1, e1, fun j hj => by rw [← c1 j hj]; simp only [World.cell?, hW]⟩
  have hw : IntKind.i64.wrap (1 + i) = 1 + i := IntWalk.i64_in _ (by omega)
  clear h hp hcl hct
  go_enter Try.func80, Try.ntmps80
  go_wp2_with (go_at_call 53; refine (HC.out _ (by rfl)).mono ?_; rintro e w2 ⟨rfl, hb2⟩)
  go_ret
  exact ⟨rfl, hb2⟩
set_option maxRecDepth 100000 in
set_option maxHeartbeats 1600000 in
theorem search_tan (nn : Int) (A : Option Addr) (n c p q r s : Nat) (d : Int) (ps : Pth) (w : World) (h : Pts w A n ps) (hp : pathOk ps = true) (hd : d ≤ lastD ps) (hcl : w.cell? ⟨p, 0, none⟩ = some (.slice A n c)) (hct : w.cell? ⟨q, 0, none⟩ = some (.int .i64 d)) (hcr : w.cell? ⟨r, 0, none⟩ = some (.func (.func 53) #[] #[.pointer (some ⟨p, 0, none⟩), .pointer (some ⟨q, 0, none⟩)])) (hcs : w.cell? ⟨s, 0, none⟩ = some (.int .i64 1)) (hr : nn ≤ 3000) (h1 : 0 ≤ nn) (h2 : nn ≤ 1000000000000) :
    Calls Try.prog 79 #[.int .i64 nn, .func (.func 80) #[] #[.pointer (some ⟨r, 0, none⟩), .pointer (some ⟨s, 0, none⟩)]] w fun e w' => SearchPost (tanQ ps d) nn e ∧ Below w.heap.size w w' := by
  go_enter Try.func79, Try.ntmps79
  go_wp2_with fail
  go_loopw [5, 6] (fun iv jv wr => ∃ i j : Int, 0 ≤ i ∧ i ≤ j ∧ j ≤ nn ∧ iv = .int .i64 i ∧ jv = .int .i64 j ∧ Hid ((∀ x, 0 ≤ x → x < i → (tanQ ps d) x = false) ∧ (j < nn → (tanQ ps d) j = true)) ∧ Below w.heap.size w wr) (fun iv jv _ => (intOf jv - intOf iv).toNat)
  case atStart => exact ⟨0, nn, by omega, by omega, by omega, rfl, rfl, ⟨fun x a b => by omega, fun a => by omega⟩, Below.refl _ _⟩
  case round =>
    obtain ⟨i, j, hi, hij, hj, rfl, rfl, HM, hbl⟩ := hrel
    have HB := Lib.hid hbl
    by_cases hlt : i < j
    · obtain ⟨m, hm⟩ : ∃ m, m = (i + j) / 2 := ⟨_, rfl⟩
      have hm1 : i ≤ m ∧ m < j := by omega
      have HC := Lib.hid (show Calls Try.prog 80 #[.int .i64 m, .pointer (some ⟨r, 0, none⟩), .pointer (some ⟨s, 0, none⟩)] wr fun e w' => e = .returned (.bool (tanQ ps d m)) ∧ Below wr.heap.size wr w' from fi_c A n c p q r s m d ps wr (h.below hbl) hp (cell_kept hbl hcl) (cell_kept hbl hct) (cell_kept hbl hcr) (cell_kept hbl hcs) (by omega) (by omega))
      have HMM := Lib.hid hm
      clear hbl hm
      cases hpm : (tanQ ps d) m
      · have HP := Lib.hid hpm
        go_wp2_with fail
        rw [← HMM.out]
        refine (HC.out).mono ?_
        rintro e w2 ⟨rfl, hb2⟩
        have HB2 := Lib.hid (HB.out.trans (hb2.mono HB.out.size))
        clear hb2
        go_wp2_with fail
        go_roundw
        case rel => exact ⟨m + 1, j, by omega, by omega, by omega, by go_num, rfl, ⟨fun x a b => tanP_mono hd (show 1 + x ≤ 1 + m by omega) HP.out, HM.out.2⟩, HB2.out⟩
        case measure => simp [intOf]; omega
      · have HP := Lib.hid hpm
        go_wp2_with fail
        rw [← HMM.out]
        refine (HC.out).mono ?_
        rintro e w2 ⟨rfl, hb2⟩
        have HB2 := Lib.hid (HB.out.trans (hb2.mono HB.out.size))
        clear hb2
        go_wp2_with fail
        go_roundw
        case rel => exact ⟨i, m, by omega, by omega, by omega, rfl, rfl, ⟨HM.out.1, fun _ => HP.out⟩, HB2.out⟩
        case measure => simp [intOf]; omega
    · obtain rfl : i = j := by omega
      clear hbl
      go_wp2_with fail
      go_ret
      exact ⟨⟨i, hi, hj, HM.out.1, HM.out.2, rfl⟩, HB.out⟩

set_option maxRecDepth 100000 in
set_option maxHeartbeats 800000 in
theorem firstIn_t (A : Option Addr) (n c p q : Nat) (d : Int) (ps : Pth) (w : World) (h : Pts w A n ps) (hp : pathOk ps = true) (hd : d ≤ lastD ps) (hcl : w.cell? ⟨p, 0, none⟩ = some (.slice A n c)) (hct : w.cell? ⟨q, 0, none⟩ = some (.int .i64 d)) :
    Calls Try.prog 52 #[.int .i64 1, .int .i64 3000, .func (.func 53) #[] #[.pointer (some ⟨p, 0, none⟩), .pointer (some ⟨q, 0, none⟩)]] w fun e w' => (∃ m, 0 ≤ m ∧ m ≤ 3000 ∧ (∀ x, 0 ≤ x → x < m → tanQ ps d x = false) ∧ (m < 3000 → tanQ ps d m = true) ∧ e = .returned (.tuple #[.int .i64 (1 + m), .bool (decide (m < 3000))])) ∧ Below w.heap.size w w' := by
  have HH := hid_and h hp
  have HC := hid_and hcl hct
  clear h hp hcl hct
  go_enter Try.func52, Try.ntmps52
  go_wp2_with fail
  refine (search_tan _ A n c p q (w.heap.size + 1) w.heap.size d ps _ (by exact HH.out.1.below (((Below.refl w.heap.size w).alloc (Nat.le_refl _) _).alloc (by simp) _)) HH.out.2 hd (by exact cell_kept (((Below.refl w.heap.size w).alloc (Nat.le_refl _) _).alloc (by simp) _) HC.out.1) (by exact cell_kept (((Below.refl w.heap.size w).alloc (Nat.le_refl _) _).alloc (by simp) _) HC.out.2) (by go_simp) (by go_simp) (by omega) (by omega) (by omega)).mono ?_
  rintro e w' ⟨⟨m, h1, h2, h3, h4, rfl⟩, hb⟩
  have HL := hid_and h3 h4
  have hc1 : w'.cell? ⟨w.heap.size, 0, none⟩ = some (.int .i64 1) := cell_kept hb (by go_simp)
  have HB := Lib.hid ((((Below.refl w.heap.size w).alloc (Nat.le_refl _) _).alloc (by simp) _).trans (hb.mono (by simp; omega)))
  have hw : IntKind.i64.wrap (1 + m) = 1 + m := IntWalk.i64_in _ (by omega)
  clear h3 h4 hb
  go_wp2_with fail
  go_ret2
  exact ⟨⟨m, h1, h2, HL.out.1, HL.out.2, rfl⟩, HB.out⟩

set_option maxRecDepth 100000 in
set_option maxHeartbeats 1600000 in
theorem TangentFor_i (A : Option Addr) (n c : Nat) (d : Int) (ps : Pth) (w : World) (h : Pts w A n ps) :
    Calls Try.prog 21 #[.slice A n c, .int .i64 d] w fun e w' => e = .returned (.tuple #[.int .i64 (tfA ps d), .int .i64 (tfC ps d)]) ∧ Below w.heap.size w w' := by
  have hb0 := (Below.refl w.heap.size w).alloc (Nat.le_refl _) (.cells #[.slice A n c] 26)
  have hb1 := hb0.alloc (by simp) (.cells #[.int .i64 d] 2)
  have HH := hid_and (h.below hb1) hb1
  clear hb0 hb1 h
  by_cases h0 : codeP ps 1 d = 0
  · obtain ⟨hp, ht, hd⟩ := codeP_ok h0
    have hd2 := (inB_iff.1 hd).2
    have H0 := hid_and h0 hp
    have HF := hid_and (show tfA ps d = (if tfV ps d < 0 then 0 else tfV ps d) by unfold tfA; rw [if_pos h0]) (show tfC ps d = (if tfV ps d < 0 then 3 else 0) by unfold tfC; rw [if_pos h0])
    clear h0 hp ht hd
    go_enter Try.func21, Try.ntmps21
    go_wp2_with (go_at_call 46; refine (pathCode_any _ _ _ _ _ ps _ HH.out.1).mono ?_; rintro e w1 ⟨rfl, hb⟩; rw [H0.out.1]; have hcl : w1.cell? ⟨w.heap.size, 0, none⟩ = some (.slice A n c) := cell_kept hb (by go_simp); have hct : w1.cell? ⟨w.heap.size + 1, 0, none⟩ = some (.int .i64 d) := cell_kept hb (by go_simp))
    have HB := hid_and (HH.out.1.below hb) (HH.out.2.trans (hb.mono HH.out.2.size))
    clear hb
    refine (firstIn_t A n c w.heap.size (w.heap.size + 1) d ps _ HB.out.1 H0.out.2 hd2 hcl hct).mono ?_
    rintro e w2 ⟨⟨m, h1, h2, h3, h4, rfl⟩, hb2⟩
    have HB2 := Lib.hid (HB.out.2.trans (hb2.mono HB.out.2.size))
    clear hb2
    by_cases hm : m < 3000
    · have HI := Lib.hid (show tfV ps d = 1 + m from firstI_eq (by omega) (by omega) (h4 hm) (fun x a b => by
        have := h3 (x - 1) (by omega) (by omega)
        unfold tanQ at this
        rwa [show 1 + (x - 1) = x by omega] at this))
      clear h3 h4
      rw [decide_eq_true hm]
      go_wp2_with (go_at_call 51; refine (orNotFound_yes _ _).mono ?_; rintro e w' ⟨rfl, rfl⟩)
      go_ret2
      exact ⟨ret_int2 (by rw [HF.out.1, HI.out, if_neg (by omega)]) (by rw [HF.out.2, HI.out, if_neg (by omega)]), HB2.out⟩
    · have HI := Lib.hid (show tfV ps d = -1 from firstI_no (fun x a b => by
        have := h3 (x - 1) (by omega) (by omega)
        unfold tanQ at this
        rwa [show 1 + (x - 1) = x by omega] at this))
      clear h3 h4
      rw [decide_eq_false hm]
      go_wp2_with (go_at_call 51; refine (orNotFound_no _ _).mono ?_; rintro e w' ⟨rfl, rfl⟩)
      go_ret2
      exact ⟨ret_int2 (by rw [HF.out.1, HI.out]; rfl) (by rw [HF.out.2, HI.out]; rfl), HB2.out⟩
  · have hne : (codeP ps 1 d != 0) = true := by simpa using h0
    have HA := hid_and (show tfA ps d = 0 by simp [tfA, h0]) (show tfC ps d = codeP ps 1 d by simp [tfC, h0])
    clear h0
    go_enter Try.func21, Try.ntmps21
    go_wp2_with (go_at_call 46; refine (pathCode_any _ _ _ _ _ ps _ HH.out.1).mono ?_; rintro e w1 ⟨rfl, hb⟩)
    go_ret2
    exact ⟨ret_int2 (by rw [HA.out.1]) (by rw [HA.out.2]), HH.out.2.trans (hb.mono HH.out.2.size)⟩
end Go.Proofs.Ytehfpnammmgeaaa
