/-
  Layers: hours one after another.
-/
import Derived.Test.YtlfjjdglffiinaaLyV
import Derived.Test.YtlfjjdglffiinaaLyS
namespace Go.Proofs.Ytlfjjdglffiinaa
open Go.ChangeShapes Go.WideShapes Go.ChangeAt Go.RowKit Go.Deep
set_option linter.unusedVariables false

theorem info_intL : (Try.prog.info? 2).map (fun i => (i.zero, i.size, i.bytes)) = some (some (.int .i64 0), 1, 8) := by kernel_rfl
/-- Heats of hours: not too great, not too many. -/
def Heats (js : List Int) : Prop := ∀ j ∈ js, -100000000 ≤ j ∧ j ≤ 100000000
theorem rh1_t (j : Int) (w : World) (h1 : -100000000 ≤ j) (h2 : j ≤ 100000000) :
    Calls Try.prog 44 #[.int .i64 j] w fun e w' => e = .returned (.bool false) ∧ w = w' := by
  go_enter Try.func44, Try.ntmps44
  go_wp2_with (go_at_call 32; refine (within_t _ _ _ _ (by omega) (by omega)).mono ?_; rintro e w' ⟨rfl, rfl⟩)
  go_ret
  exact ⟨rfl, rfl⟩
set_option maxRecDepth 100000 in
theorem indexH_t (A : Option Addr) (n c : Nat) (js : List Int) (w : World) (H : Ints w A n js) (hj : Heats js) :
    Calls Try.prog 56 #[.slice A n c, .func (.func 44) #[] #[]] w fun e w' => e = .returned (.int .i64 (-1)) ∧ Below w.heap.size w w' := by
  have hn := H.2.1
  go_enter Try.func56, Try.ntmps56
  go_wp2_with fail
  go_loopw [5, 8] (fun _ i wr => ∃ j : Nat, j ≤ n ∧ i = .int .i64 j ∧ Below w.heap.size w wr) (fun _ i _ => n - (intOf i).toNat)
  case atStart => exact ⟨0, Nat.zero_le _, rfl, Below.refl _ _⟩
  case round =>
    obtain ⟨k, hk, rfl, hbl⟩ := hrel
    have HB := Lib.hid hbl
    by_cases hlt : k < n
    · obtain ⟨b, off, x, rfl, HX, hc, hx1, hx2⟩ := (H.below hbl).at_ hlt
      have hki : (k : Int) < (n : Int) := by omega
      have hxb := hj x (List.mem_of_getElem? HX.out)
      clear H hbl hj
      go_wp2_with (go_at_call 44; refine (rh1_t _ _ hxb.1 hxb.2).mono ?_; rintro e w' ⟨rfl, rfl⟩)
      go_roundw
      case rel => exact ⟨k + 1, by omega, by go_num, HB.out⟩
      case measure => simp [intOf]; omega
    · obtain rfl : k = n := by omega
      clear H hbl hj
      go_wp2_with fail
      go_ret
      exact ⟨rfl, HB.out⟩
theorem containsH_t (A : Option Addr) (n c : Nat) (js : List Int) (w : World) (H : Ints w A n js) (hj : Heats js) :
    Calls Try.prog 43 #[.slice A n c, .func (.func 44) #[] #[]] w fun e w' => e = .returned (.bool false) ∧ Below w.heap.size w w' := by
  have HJ := Lib.hid hj
  clear hj
  go_enter Try.func43, Try.ntmps43
  go_wp2_with fail
  refine (indexH_t A n _ js _ H HJ.out).mono ?_
  rintro e w1 ⟨rfl, hb⟩
  have HB := Lib.hid hb
  clear hb H
  go_wp2_with fail
  go_ret
  exact ⟨rfl, HB.out⟩
/-- A slice's own room is enough, if the slice is a bag's. -/
theorem LBag.room {w : World} {E base : Nat} {A : Option Addr} {n c : Nat} {ls : List Ly} (H : LBag w E base A n c ls) (h0 : 0 < n) : n ≤ c ∧ c ≤ maxLen := by
  obtain ⟨h1, h2, h3, h4⟩ := H
  obtain ⟨g, hA, hg, hr⟩ := h4 h0
  exact ⟨by have := hr.1; omega, hr.2.1⟩
theorem mass_le {ls : List Ly} (h : ∀ x ∈ ls, LyOk x) (hl : ls.length ≤ 16) : 0 ≤ sumF Ly.ice ls ∧ 0 ≤ sumF Ly.water ls ∧ sumF Ly.ice ls + sumF Ly.water ls ≤ 32000000 := by
  have a := sumF_bd Ly.ice 0 1000000 ls fun x hx => by have := (h x hx).i; omega
  have b := sumF_bd Ly.water 0 1000000 ls fun x hx => by have := (h x hx).v; omega
  omega
set_option maxRecDepth 100000 in
set_option maxHeartbeats 2000000 in
theorem RunHours_t (A : Option Addr) (n c : Nat) (ls : List Ly) (B : Option Addr) (m d : Nat) (js : List Int) (w : World) (H : Lys w A n ls) (H' : Ints w B m js) (hj : Heats js) (hm : m ≤ 64) :
    Calls Try.prog 18 #[.slice A n c, .slice B m d] w fun e w' => ∃ A' c', e = .returned (.tuple #[.slice A' n c', .int .i64 (hoursTo ls js).2, .int .i64 0]) ∧ LBag w' 35 w.heap.size A' n c' (hoursTo ls js).1 ∧ Below w.heap.size w w' := by
  have hn := H.2.1
  have HL := Lib.hid H.1
  have HJL := Lib.hid H'.1
  have HH := Lib.hid (And.intro H (And.intro H' hj))
  clear H H' hj
  go_enter Try.func18, Try.ntmps18
  go_wp2_with fail
  refine (ValidProfile_t _ _ _ ls _ HH.out.1).mono ?_
  rintro e w1 ⟨rfl, hb1⟩
  have H1 := Lib.hid hb1
  clear hb1
  go_wp2_with fail
  refine (containsH_t _ _ _ js _ (HH.out.2.1.below H1.out) HH.out.2.2).mono ?_
  rintro e w2 ⟨rfl, hb2⟩
  have H2 := Lib.hid (H1.out.trans (hb2.mono H1.out.size))
  clear hb2
  have hm64 : ¬ (64 : Int) < (m : Int) := by omega
  go_wp2_with fail
  refine (cloneLy_t _ _ _ ls _ (HH.out.1.below H2.out)).mono ?_
  rintro e w3 ⟨A3, c3, rfl, hbag3, hb3⟩
  have H3 := Lib.hid (And.intro (hbag3.base H2.out.size) (H2.out.trans (hb3.mono H2.out.size)))
  clear hbag3 hb3
  go_wp2_with fail
  go_loopw [7, 8, 10, 26] (fun ov rv _ kv wr => ∃ (k : Nat) (A' : Option Addr) (c' : Nat), k ≤ m ∧ kv = .int .i64 k ∧ ov = .slice A' n c' ∧ rv = .int .i64 (hoursTo ls (js.take k)).2 ∧ Hid (LBag wr 35 w.heap.size A' n c' (hoursTo ls (js.take k)).1) ∧ Below w.heap.size w wr) (fun _ _ _ kv _ => m - (intOf kv).toNat)
  case atStart => exact ⟨0, A3, c3, Nat.zero_le _, rfl, rfl, rfl, H3.out.1, H3.out.2⟩
  case round =>
    obtain ⟨k, A', c', hk, rfl, rfl, rfl, HBG, hbl⟩ := hrel
    have hok := hoursTo_ok HH.out.1.2.2.1 (by rw [HL.out]; exact hn) (js.take k)
    have hms := mass_le hok.ok (by rw [hok.len, HL.out]; exact hn)
    have hms0 := mass_le HH.out.1.2.2.1 (by rw [HL.out]; exact hn)
    have hmk := hok.mass
    have hlo := hok.low
    obtain ⟨R, hR⟩ : ∃ R, R = (hoursTo ls (js.take k)).2 := ⟨_, rfl⟩
    have hRb : 0 ≤ R ∧ R ≤ 32000000 := by rw [hR]; omega
    obtain ⟨X, hX⟩ : ∃ X, X = (hoursTo ls (js.take k)).1 := ⟨_, rfl⟩
    rw [← hR]
    have HRX := Lib.hid (And.intro hR hX)
    rw [← hX] at HBG
    have hxl : X.length = n := by rw [hX, hok.len, HL.out]
    have HXL := Lib.hid (And.intro hxl (show ∀ x ∈ X, LyOk x by rw [hX]; exact hok.ok))
    clear hR hX hmk hlo hms hms0 hok hxl
    by_cases hlt : k < m
    · obtain ⟨b, off, j, rfl, HJX, hc, hj1, hj2⟩ := (HH.out.2.1.below hbl).at_ hlt
      have hki : (k : Int) < (m : Int) := by omega
      have hjb := HH.out.2.2 j (List.mem_of_getElem? HJX.out)
      have HSN := Lib.hid (hoursTo_snoc (ls := ls) HJX.out)
      have HB := Lib.hid hbl
      have HHO := Lib.hid (hourF_ok HXL.out.2 (by rw [HXL.out.1]; exact hn) j)
      clear hbl
      have HBZ := Lib.hid HB.out.size
      go_wp2_with fail
      refine (settled_t _ _ _ X _ HBG.out.lys (fun h => HBG.out.room h)).mono ?_
      rintro e w4 ⟨A4, c4, rfl, hbag, hb⟩
      have H4 := Lib.hid (And.intro (hbag.base HBZ.out) (And.intro (HB.out.trans (hb.mono HBZ.out)) (Nat.le_trans HBZ.out hb.size)))
      clear hbag hb
      by_cases hj0 : 0 ≤ j
      all_goals
        go_wp2_with fail
        first
          | (refine (heatFromTop_t _ warmX Ly.ice coldL _ _ _ _ _ (settledF X) j _ (enters_of Try.func35 (by kernel_rfl) rfl) warm_heat (fun x j hx h0 => warmX_kept hx h0) H4.out.1 hj0 hjb.2).mono ?_; rintro e w5 ⟨rfl, hbag, hb⟩; have hhe : (heatF warmX n (settledF X) j).1 = heatH X j := (by unfold heatH; rw [if_pos hj0, HXL.out.1]); rw [hhe] at hbag)
          | (refine (heatFromTop_t _ coolX (fun x => -x.ice) (fun _ => 0) _ _ _ _ _ (settledF X) (-j) _ (enters_of Try.func36 (by kernel_rfl) rfl) cool_heat (fun x j hx h0 => coolX_kept hx h0) H4.out.1 (by omega) (by omega)).mono ?_; rintro e w5 ⟨rfl, hbag, hb⟩; have hhe : (heatF coolX n (settledF X) (-j)).1 = heatH X j := (by unfold heatH; rw [if_neg (by omega), HXL.out.1]); rw [hhe] at hbag)
        have H5 := Lib.hid (And.intro hbag (hb _ H4.out.2.1 H4.out.2.2))
        clear hbag hb hhe
        go_wp2_with fail
        refine (drain_t _ _ _ _ _ (heatH X j) _ H5.out.1).mono ?_
        rintro e w6 ⟨rfl, hbag, hb⟩
        have hz5 := H5.out.2.size
        obtain ⟨Q, hQ⟩ : ∃ Q, Q = (drainF n (heatH X j) 0).2 := ⟨_, rfl⟩
        rw [← hQ]
        have hQb : 0 ≤ Q ∧ Q ≤ 32000000 := by
          have h1 := HHO.out.low
          have h2 := HHO.out.mass
          have h3 := mass_le HXL.out.2 (by rw [HXL.out.1]; exact hn)
          have h4 := mass_le HHO.out.ok (by rw [HHO.out.len, HXL.out.1]; exact hn)
          have h5 : Q = (hourF X j).2 := by rw [hQ]; unfold hourF; rw [HXL.out.1]
          omega
        have H6 := Lib.hid (And.intro hbag (And.intro (hb _ H5.out.2 hz5) hQ))
        clear hbag hb hQ hz5
        have hz6 := H6.out.2.1.size
        go_wp2_with fail
        refine (changedForms_t _ _ _ _ _ H6.out.1.lys).mono ?_
        rintro e w7 ⟨A7, c7, rfl, hbag, hb⟩
        have H7 := Lib.hid (And.intro (hbag.base hz6) (H6.out.2.1.trans (hb.mono hz6)))
        clear hbag hb hz6
        go_wp2_with fail
        go_roundw
        case rel => exact ⟨k + 1, A7, c7, by omega, by go_num, rfl, by rw [HSN.out, ← HRX.out.1, ← HRX.out.2, H6.out.2.2]; unfold hourF; rw [HXL.out.1], by rw [HSN.out, ← HRX.out.2]; show LBag _ _ _ _ _ _ (hourF X j).1; unfold hourF; rw [HXL.out.1]; exact H7.out.1, H7.out.2⟩
        case measure => simp [intOf]; omega
    · obtain rfl : k = m := by omega
      have HB := Lib.hid hbl
      clear hbl
      go_wp2_with fail
      go_ret3
      exact ⟨A', c', by rw [HRX.out.1, List.take_of_length_le (by rw [HJL.out]; omega)]; rfl, by rw [← List.take_of_length_le (l := js) (i := k) (by rw [HJL.out]; omega), ← HRX.out.2]; exact HBG.out, HB.out⟩
theorem StepHour_t (A : Option Addr) (n c : Nat) (ls : List Ly) (j : Int) (w : World) (H : Lys w A n ls) (h1 : -100000000 ≤ j) (h2 : j ≤ 100000000) :
    Calls Try.prog 20 #[.slice A n c, .int .i64 j] w fun e w' => ∃ A' c', e = .returned (.tuple #[.slice A' n c', .int .i64 (hourF ls j).2, .int .i64 0]) ∧ LBag w' 35 w.heap.size A' n c' (hourF ls j).1 ∧ Below w.heap.size w w' := by
  have hba : Below w.heap.size w (w.alloc (.cells #[.int .i64 j] 2)) := (Below.refl _ _).alloc (Nat.le_refl _) _
  have hji : Ints (w.alloc (.cells #[.int .i64 j] 2)) (some ⟨w.heap.size, 0, none⟩) 1 [j] := ints_lit w [j] _ _ rfl (by simp) (by simp; omega)
  have HH := Lib.hid (And.intro (H.below hba) (And.intro hji hba))
  clear H hji hba
  have HE := Lib.hid (show (hoursTo ls [j]).2 = (hourF ls j).2 ∧ (hoursTo ls [j]).1 = (hourF ls j).1 by rw [hoursTo_one]; exact ⟨by simp, rfl⟩)
  go_enter Try.func20, Try.ntmps20
  go_wp2_with fail
  refine (RunHours_t _ _ _ ls _ _ _ [j] _ HH.out.1 HH.out.2.1 (fun x hx => by simp at hx; subst hx; exact ⟨h1, h2⟩) (by omega)).mono ?_
  rintro e w1 ⟨A', c', rfl, hbag, hb⟩
  rw [HE.out.1]
  rw [HE.out.2] at hbag
  have H1 := Lib.hid (And.intro (hbag.base HH.out.2.2.size) (HH.out.2.2.trans (hb.mono HH.out.2.2.size)))
  clear hbag hb
  go_wp2_with fail
  go_ret3
  exact ⟨A', c', rfl, H1.out.1, H1.out.2⟩
theorem ValidProfile_s (A : Option Addr) (n c : Nat) (ls : List Ly) (w : World) (H : Lys w A n ls) :
    Calls Try.prog 19 #[.slice A n c] w fun e w' => e = .returned (.bool true) ∧ w = w' := by
  go_enter Try.func19, Try.ntmps19
  go_wp2_with (go_at_call 28; refine (l03Ok_t _ _ _ ls _ H).mono ?_; rintro e w' ⟨rfl, rfl⟩)
  go_ret
  exact ⟨rfl, rfl⟩
theorem neq_ly (f i v d t h a : Int) (W : World) : (binOp .neq 35 (Lyv f i v d t h a) (Lyv f i v d t h a)).run Try.prog W = .ok (.bool false) W := by
  simp [go_sem]
set_option maxRecDepth 100000 in
set_option maxHeartbeats 1600000 in
theorem l03Same_t (A B : Option Addr) (n c d : Nat) (ls : List Ly) (w : World) (H : Lys w A n ls) (H' : Lys w B n ls) :
    Calls Try.prog 46 #[.slice A n c, .slice B n d] w fun e w' => e = .returned (.bool true) ∧ Below w.heap.size w w' := by
  have hn := H.2.1
  have HH := Lib.hid (And.intro H H')
  clear H H'
  go_enter Try.func46, Try.ntmps46
  go_wp2_with fail
  go_loopw [5] (fun i wr => ∃ k : Nat, k ≤ n ∧ i = .int .i64 k ∧ Below w.heap.size w wr) (fun i _ => n - (intOf i).toNat)
  case atStart => exact ⟨0, Nat.zero_le _, rfl, Below.refl _ _⟩
  case round =>
    obtain ⟨k, hk, rfl, hbl⟩ := hrel
    by_cases hlt : k < n
    · obtain ⟨b, off, f, i, v, d1, t, h, a, rfl, HX, hc, hb⟩ := (HH.out.1.below hbl).at_ hlt
      obtain ⟨b', off', f', i', v', d', t', h', a', rfl, HX', hc', hb'⟩ := (HH.out.2.below hbl).at_ hlt
      have he := HX.out.symm.trans HX'.out
      simp only [Option.some.injEq, Ly.mk.injEq] at he
      obtain ⟨rfl, rfl, rfl, rfl, rfl, rfl, rfl⟩ := he
      have hki : (k : Int) < (n : Int) := by omega
      have HB := Lib.hid hbl
      obtain ⟨c0, c1, c2, c3, c4, c5, c6⟩ := hc
      obtain ⟨e0, e1, e2, e3, e4, e5, e6⟩ := hc'
      have hne := fun W => neq_ly f i v d1 t h a W
      clear hbl hb hb'
      go_wp2_with fail
      go_quiet (fail)
      go_wp2_with fail
      go_roundw
      case rel => exact ⟨k + 1, by omega, by go_num, below_drewN HB.out _⟩
      case measure => simp [intOf]; omega
    · obtain rfl : k = n := by omega
      have HB := Lib.hid hbl
      clear hbl
      go_wp2_with fail
      go_ret
      exact ⟨rfl, HB.out⟩
theorem SameProfile_t (A B : Option Addr) (n c d : Nat) (ls : List Ly) (w : World) (H : Lys w A n ls) (H' : Lys w B n ls) :
    Calls Try.prog 21 #[.slice A n c, .slice B n d] w fun e w' => e = .returned (.bool true) ∧ Below w.heap.size w w' := by
  go_enter Try.func21, Try.ntmps21
  go_wp2_with fail
  refine (l03Same_t _ _ _ _ _ ls _ H H').mono ?_
  rintro e w1 ⟨rfl, hb⟩
  have HB := Lib.hid hb
  clear hb H H'
  go_wp2_with fail
  go_ret
  exact ⟨rfl, HB.out⟩
/-- Heats under way. -/
def HBag (w : World) (B j : Nat) (o : Value) (js : List Int) : Prop := w.ownsRow B 2 1 o j (js.map (.int .i64)) ∧ Heats js
theorem HBag.src {w w' : World} {B j q : Nat} {o : Value} {js : List Int} (h : HBag w B j o js) (hg : w.grownBy w' (some q)) (hq : q < B) : HBag w' B j o js :=
  ⟨h.1.kept hg (.inr fun e => by have := own_blk h.1 _ e; omega), h.2⟩
theorem hbag_step {w wr w4 : World} {q m B j : Nat} {x : Int} {o v' : Value} {js : List Int} (hs : SrcP wr q m) (hg : w.grownBy wr (some q)) (hbag : HBag wr B j o js) (hx : -100000000 ≤ x ∧ x ≤ 100000000) (hq : q < B) (hB : w.heap.size ≤ B)
    (hown : w4.ownsRow B 2 1 v' (j + 1) ((js ++ [x]).map (.int .i64))) (hgrow : wr.grownBy w4 o.ownBlock) : SrcP w4 q m ∧ w.grownBy w4 (some q) ∧ HBag w4 B (j + 1) v' (js ++ [x]) := by
  refine ⟨hs.grow hgrow (fun g hg => by have := own_blk hbag.1 g hg; omega), grown_newL hg hgrow (fun g hg => by have := own_blk hbag.1 g hg; omega), hown, fun y hy => ?_⟩
  rw [List.mem_append] at hy
  rcases hy with hy | hy
  · exact hbag.2 y hy
  · simp at hy; subst hy; exact hx
set_option maxRecDepth 100000 in
set_option maxHeartbeats 1600000 in
theorem R8Joules_d (A : Option Addr) (n c : Nat) (w : World) (h : Byts w A n) :
    Calls Try.prog 15 #[.slice A n c] w fun e w' => (∃ A' n' c' js, e = .returned (.slice A' n' c') ∧ Ints w' A' n' js ∧ Heats js ∧ n' ≤ 6) ∧ Below w.heap.size w w' := by
  have HH := Lib.hid h
  clear h
  go_enter Try.func15, Try.ntmps15
  go_wp2_with fail
  refine (from_p _ _ _ _ HH.out).mono ?_
  rintro e w1 ⟨rfl, hs1, hb1⟩
  have hz1 := hs1.lt
  have hown0 := World.ownsRow_lit (base := w1.heap.size) (e := 2) (size := 1) w1 #[] 0 (Nat.le_refl _) (by simp) rfl
  have hba : Below w1.heap.size w1 (w1.alloc (.cells #[] 2)) := (Below.refl _ _).alloc (Nat.le_refl _) _
  have H1 := Lib.hid (And.intro (hs1.below hba) (And.intro hb1 (And.intro (grown_belowL (World.grownBy.refl w1 (some w.heap.size)) hba) (show HBag (w1.alloc (.cells #[] 2)) w1.heap.size 0 (.slice (some ⟨w1.heap.size, 0, none⟩) 0 0) [] from ⟨hown0, by intro x hx; simp at hx⟩))))
  clear hs1 hb1 hown0 hba
  go_wp2_with fail
  refine (pick_p _ _ 7 _ H1.out.1 (by omega) (by omega)).mono ?_
  rintro e w2 ⟨⟨x, rfl, hx1, hx2⟩, hs2, hg2⟩
  replace hx2 := lt_of_pick hx1 hx2 (by omega)
  have H2 := Lib.hid (And.intro hs2 (And.intro (H1.out.2.2.1.trans hg2) (H1.out.2.2.2.src hg2 hz1)))
  clear hs2 hg2
  go_wp2_with fail
  go_loopw [4, 5] (fun o kv wr => ∃ (k j : Nat) (js : List Int), k + j ≤ 6 ∧ kv = .int .i64 k ∧ SrcP wr w.heap.size (2 + 2 * j) ∧ w1.grownBy wr (some w.heap.size) ∧ HBag wr w1.heap.size j o js) (fun _ kv _ => (intOf kv).toNat)
  case atStart =>
    obtain ⟨k, rfl⟩ : ∃ k : Nat, x = (k : Int) := ⟨x.toNat, by omega⟩
    exact ⟨k, 0, [], by omega, rfl, H2.out.1, H2.out.2.1, H2.out.2.2⟩
  case round =>
    clear H2 hx1 hx2
    obtain ⟨k, j, js, hkj, rfl, hs, hgr, hbag⟩ := hrel
    have hz := hgr.size
    have HR := Lib.hid (And.intro hs (And.intro hgr hbag))
    clear hs hgr hbag
    by_cases hk : 0 < k
    · have hki : (0 : Int) < (k : Int) := by omega
      go_wp2_with fail
      refine (pick_p _ _ 1500 _ HR.out.1 (by omega) (by omega)).mono ?_
      rintro e w3 ⟨⟨y, rfl, hy1, hy2⟩, hs3, hg3⟩
      replace hy2 := lt_of_pick hy1 hy2 (by omega)
      have hz3 := hg3.size
      have H3 := Lib.hid (And.intro hs3 (And.intro (HR.out.2.1.trans hg3) (HR.out.2.2.src hg3 hz1)))
      clear hs3 hg3
      go_wp2_with (at_builtin; refine wp_app_int rfl (.tmp 15) (.tmp 20) 36 rfl w1.heap.size 2 Try.underlying36 info_intL _ j js (1000 * y - 600000) (by rfl) H3.out.2.2.1 (by rfl) (by omega) (by omega) ?_; intro v' w5 hown5 hgrow5 hv5)
      have HF := Lib.hid (hbag_step H3.out.1 H3.out.2.1 H3.out.2.2 (x := 1000 * y - 600000) (by omega) hz1 (Nat.le_refl _) hown5 hgrow5)
      clear hown5 hgrow5
      go_roundw
      case rel => exact ⟨k - 1, j + 1, _, by omega, by rw [show ((k - 1 : Nat) : Int) = (k : Int) - 1 by omega], HF.out.1.mono (by omega), HF.out.2.1, HF.out.2.2⟩
      case measure => simp [intOf]; omega
    · obtain rfl : k = 0 := by omega
      obtain ⟨A', c', rfl, _⟩ := own_form HR.out.2.2.1
      go_wp2_with fail
      go_ret
      exact ⟨⟨_, _, _, js, rfl, Ints.of_own HR.out.2.2.1 (fun x hx => by have := HR.out.2.2.2 x hx; omega), HR.out.2.2.2, by omega⟩, below_grown H1.out.2.1 HR.out.2.1 H1.out.2.1.size (Nat.le_refl _)⟩
end Go.Proofs.Ytlfjjdglffiinaa
