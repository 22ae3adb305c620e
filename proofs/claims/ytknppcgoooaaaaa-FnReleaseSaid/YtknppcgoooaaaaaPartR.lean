/-
  The parts of cells, the program's.
-/
import Derived.Test.YtknppcgoooaaaaaRowsB
import Derived.Test.YtknppcgoooaaaaaMapS
import Derived.Test.YtknppcgoooaaaaaSortG
import Derived.Test.YtknppcgoooaaaaaGridI
import Derived.Test.YtknppcgoooaaaaaGridC
import Derived.Test.YtknppcgoooaaaaaGridK
import Derived.Test.YtknppcgoooaaaaaGridGs
namespace Go.Proofs.Ytknppcgoooaaaaa
open Go.ChangeShapes Go.WideShapes Go.ChangeAt Go.RowKit Go.Deep Go.Maps
set_option linter.unusedVariables false

theorem near_sym {R C : Int} {xs : List Int} (c1 : 1 ≤ C) (hx : ∀ z ∈ xs, 0 ≤ z ∧ z < R * C) : Sym (near R C) xs := by
  intro y hy z hz hyz
  obtain ⟨a, ha, rfl⟩ := mem_near.1 hyz
  have hm := mem_dirs.1 ha
  obtain ⟨o1, o2, o3⟩ := nb_back hm.1 hm.2 c1 (hx z hz).1 (hx z hz).2
  exact mem_near.2 ⟨opp a, mem_dirs.2 ⟨o1, o2⟩, o3.symm⟩
/-- Rows stay while a block below them is written. -/
theorem RowsB.grow {lo g : Nat} {w w' : World} {o : Value} {j : Nat} {rs : Rws} (h : RowsB lo w o j rs) (hg : w.grownBy w' (some g)) (hl : g < lo) : RowsB lo w' o j rs := by
  obtain ⟨cs, f, d, h1, h2, h3⟩ := h
  have k1 : ∀ {e n : Nat} {v : Value} {ys : List Value}, w.ownsRow lo e 1 v n ys → w'.ownsRow lo e 1 v n ys := fun {e n v ys} ho =>
    ho.kept hg (.inr fun e2 => by have := own_blk ho g e2; omega)
  exact ⟨cs, f, d, k1 h1, h2, fun i hi => ⟨(h3 i hi).1, (h3 i hi).2.1, k1 (h3 i hi).2.2⟩⟩
theorem RowsB.appG {lo : Nat} {w w1 w2 : World} {o v' : Value} {j q c gm : Nat} {rs : Rws} {r : List Int} {cs : List Value} {f d : Nat → Nat} (h1 : w.ownsRow lo 24 1 o j cs) (hl : rs.length = j)
    (h3 : ∀ i, i < j → cs[i]? = some (.slice (some ⟨f i, 0, none⟩) (rAt rs i).length (d i)) ∧ (∀ t, t < i → f t ≠ f i) ∧ w.ownsRow lo 2 1 (.slice (some ⟨f i, 0, none⟩) (rAt rs i).length (d i)) (rAt rs i).length ((rAt rs i).map (.int .i64)))
    (hb : w.grownBy w1 (some gm)) (hgm : gm < lo) (hq : w.heap.size ≤ q) (hr : w1.ownsRow lo 2 1 (.slice (some ⟨q, 0, none⟩) r.length c) r.length (r.map (.int .i64)))
    (ho : w2.ownsRow lo 24 1 v' (j + 1) (cs ++ [.slice (some ⟨q, 0, none⟩) r.length c])) (hg : w1.grownBy w2 o.ownBlock) : RowsB lo w2 v' (j + 1) (rs ++ [r]) := by
  have k1 : ∀ {e n : Nat} {v : Value} {ys : List Value}, w.ownsRow lo e 1 v n ys → w1.ownsRow lo e 1 v n ys := fun {e n v ys} ho =>
    ho.kept hb (.inr fun e2 => by have := own_blk ho gm e2; omega)
  have hcl : cs.length = j := by have := h1.1; simpa using this
  refine ⟨_, fun i => if i = j then q else f i, fun i => if i = j then c else d i, ho, by simp [hl], fun i hi => ?_⟩
  by_cases e : i = j
  · subst e
    simp only [if_true]
    have er : rAt (rs ++ [r]) i = r := by rw [← hl]; exact rAt_last
    rw [er]
    refine ⟨by rw [List.getElem?_append_right (by omega), hcl]; simp, fun t ht => ?_, hr.kept hg (.inr (own_ne (k1 h1) hr (by decide)).symm)⟩
    rw [if_neg (by omega)]
    have := own_lt (h3 t ht).2.2
    omega
  · have hij : i < j := by omega
    obtain ⟨b1, b2, b3⟩ := h3 i hij
    simp only [if_neg e]
    rw [rAt_lt (by omega)]
    refine ⟨by rw [List.getElem?_append_left (by omega)]; exact b1, fun t ht => ?_, (k1 b3).kept hg (.inr (own_ne (k1 h1) (k1 b3) (by decide)).symm)⟩
    rw [if_neg (by omega)]
    exact b2 t ht
theorem grown_of_below {w w' : World} (h : Below w.heap.size w w') (r : Option Nat) : w.grownBy w' r := ⟨h.os, h.tape, h.output, h.size, fun k hk _ => h.block k hk⟩
theorem grown_then {a w w' : World} {r r' : Option Nat} (h : a.grownBy w r) (hg : w.grownBy w' r') (hr : r' = r ∨ ∀ g, r' = some g → a.heap.size ≤ g) : a.grownBy w' r :=
  ⟨hg.os.trans h.os, hg.tape.trans h.tape, hg.output.trans h.output, Nat.le_trans h.size hg.size, fun k hk hne => (hg.block k (Nat.lt_of_lt_of_le hk h.size) (by
    rcases hr with rfl | hr
    · exact hne
    · intro e
      have := hr k e.symm
      omega)).trans (h.block k hk hne)⟩
/-- The neighbours looked at so far are all seen. -/
def Dn (C : Int) (y : Int) (L : List Nat) (i : Nat) (xs s part : List Int) : Prop := ∀ t a, t < i → L[t]? = some a → nbAt C y a ∈ xs → nbAt C y a ∈ s ∨ nbAt C y a ∈ part
theorem partsTo_rows (nr : Int → List Int) (xs : List Int) : partsTo nr xs xs = (partsF nr xs, (partsTo nr xs xs).2) := rfl
set_option maxRecDepth 100000 in
set_option maxHeartbeats 1600000 in
theorem parts_i (R C S : Int) (A : Option Addr) (n c : Nat) (B : Option Addr) (m d : Nat) (hs xs : List Int) (w : World) (h : GridA w R C S A n hs) (h' : Ints w B m xs) (hv : gridOk R C S hs = true) (hr : risesB xs 0 (R * C - 1) = true) :
    Calls Try.prog 22 #[.agg #[.int .i64 R, .int .i64 C, .int .i64 S, .slice A n c], .slice B m d] w fun e w' => ∃ o, e = .returned o ∧ RowsB w.heap.size w' o (partsF (near R C) xs).length (partsF (near R C) xs) ∧ Below w.heap.size w w' := by
  have hmm := @run_makeMap Try.prog
  have hl := h.1.1
  have hl' := h'.1
  obtain ⟨⟨r1, r2⟩, ⟨c1, c2⟩, ⟨s1, s2⟩, hn, hall⟩ := gridOk_iff.1 hv
  have hmul := mul64 r1 r2 c1 c2
  have h64 : n ≤ 64 := by omega
  obtain ⟨hinc, hxall⟩ := rises_iff.1 hr
  have xbd : ∀ z ∈ xs, 0 ≤ z ∧ z < R * C := fun z hz => by
    obtain ⟨j, hj⟩ := List.mem_iff_getElem?.1 hz
    have := allB_iff.1 hxall j z hj
    omega
  have hm64 := pw_len (pw_inc hinc) xbd (by omega)
  rw [hl'] at hm64
  have HA := Lib.hid (And.intro xbd (And.intro (near_sym c1 xbd) (And.intro hv (And.intro hl' (show R * C = (n : Int) by rw [← hn, hl])))))
  have hmm64 : m ≤ 64 := by omega
  obtain ⟨w0, hw0⟩ : ∃ w0, w0 = w.alloc (.cells #[.int .i64 R, .int .i64 C, .int .i64 S, .slice A n c] 26) := ⟨_, rfl⟩
  have B0 := (Below.refl w.heap.size w).alloc (Nat.le_refl _) (.cells #[.int .i64 R, .int .i64 C, .int .i64 S, .slice A n c] 26)
  have HI := Lib.hid (show GridA w0 R C S A n hs ∧ BoxG w0 w.heap.size R C S A n c ∧ Ints w0 B m xs ∧ Below w.heap.size w w0 ∧ w0.heap.size = w.heap.size + 1 by
    rw [hw0]
    exact ⟨h.below B0, boxG_of w R C S A n c 26, h'.below B0, B0, by simp⟩)
  have HS0 := Lib.hid (show Below w0.heap.size w0 ((w.alloc (.cells #[.int .i64 R, .int .i64 C, .int .i64 S, .slice A n c] 26)).alloc (.map #[] 0)) ∧ SeenM ((w.alloc (.cells #[.int .i64 R, .int .i64 C, .int .i64 S, .slice A n c] 26)).alloc (.map #[] 0)) (w.heap.size + 1) [] ∧ w.heap.size + 2 ≤ ((w.alloc (.cells #[.int .i64 R, .int .i64 C, .int .i64 S, .slice A n c] 26)).alloc (.map #[] 0)).heap.size by
    have e : (w.alloc (.cells #[.int .i64 R, .int .i64 C, .int .i64 S, .slice A n c] 26)).heap.size = w.heap.size + 1 := by simp
    refine ⟨by rw [hw0]; exact (Below.refl _ _).alloc (Nat.le_refl _) _, ?_, by simp⟩
    have := SeenM.made (w.alloc (.cells #[.int .i64 R, .int .i64 C, .int .i64 S, .slice A n c] 26))
    rw [e] at this
    exact this)
  clear hw0 B0 hl hl' hn hall hinc hxall xbd hm64 h h' hv hr r1 r2 s1 s2 hmul
  go_enter Try.func22, Try.ntmps22
  go_wp2_with fail
  clear hmm
  go_loopw [5, 8, 9, 10, 12, 16] (fun o _ _ _ _ iv wr => ∃ (k j : Nat) (rs : Rws) (s : List Int), k ≤ m ∧ iv = .int .i64 k ∧ Hid (Below w0.heap.size w0 wr) ∧ Hid (w.heap.size + 2 ≤ wr.heap.size) ∧ Hid (SeenM wr (w.heap.size + 1) s) ∧ Hid (RowsB (w.heap.size + 2) wr o j rs) ∧ Hid ((rs, s) = partsTo (near R C) xs (xs.take k)) ∧ Hid (j ≤ k ∧ s.length ≤ 64 * k)) (fun _ _ _ _ _ iv _ => m - (intOf iv).toNat)
  case atStart => exact ⟨0, 0, [], [], Nat.zero_le _, rfl, HS0.out.1, HS0.out.2.2, HS0.out.2.1, RowsB.nil ⟨rfl, .inl ⟨rfl, rfl⟩⟩, by show ([], []) = partsTo _ _ _; simp [partsTo], by show 0 ≤ 0 ∧ _; simp⟩
  case round =>
    obtain ⟨k, j, rs, s, hk, rfl, HBL, HZ, HSE, HRB, HE, HJ⟩ := hrel
    by_cases hlt : k < m
    · obtain ⟨bf, of, f, rfl, HF, hcf, hf1, hf2⟩ := (HI.out.2.2.1.below HBL.out).at_ hlt
      have hfm := HA.out.1 f (List.mem_of_getElem? HF.out)
      have hki : (k : Int) < (m : Int) := by omega
      have hfb : -9223372036854775808 ≤ f ∧ f ≤ 9223372036854775807 := ⟨hf1, hf2⟩
      cases hsf : hasB s f
      · have HSF := Lib.hid hsf
        clear hsf
        go_wp2_with (first | (at_lookup; refine wp_look rfl _ _ rfl (w.heap.size + 1) s rfl HSE.out f rfl hfb ?_; rw [HSF.out]) | (at_mapUpdate; refine wp_mark rfl _ _ rfl (w.heap.size + 1) s rfl HSE.out (by have := HJ.out.2; omega) f rfl hfb ?_; intro w1 hs1 hg1; have HM := Lib.hid (And.intro hs1 hg1); clear hs1 hg1))
        have HB1 := Lib.hid (show Below w0.heap.size w0 w1 ∧ w.heap.size + 2 ≤ w1.heap.size ∧ RowsB (w.heap.size + 2) w1 _ j rs from
          ⟨HBL.out.grown HM.out.2 HBL.out.size (fun g hg => by cases hg; have := HI.out.2.2.2.2; omega), Nat.le_trans HZ.out HM.out.2.size, HRB.out.grow HM.out.2 (by omega)⟩)
        have HP0 := Lib.hid (show (w1.alloc (.cells #[.int .i64 f] 2)).ownsRow w1.heap.size 2 1 (.slice (some ⟨w1.heap.size, 0, none⟩) 1 1) 1 ([f].map (.int .i64)) from
          World.ownsRow_lit (base := w1.heap.size) (e := 2) (size := 1) w1 #[.int .i64 f] 1 (Nat.le_refl _) (by unfold maxLen; simp) rfl)
        have HFX := Lib.hid (List.mem_of_getElem? HF.out)
        have HNS := Lib.hid (show f ∉ s from fun hm => by have := hasB_iff.2 hm; rw [HSF.out] at this; cases this)
        clear hfm hcf hf1 hf2 hki
        go_loopw [9, 10, 12] (fun pv kv _ wi => ∃ (q : Nat) (part : List Int) (g cc : Nat), q ≤ 64 ∧ kv = .int .i64 q ∧ pv = .slice (some ⟨g, 0, none⟩) part.length cc ∧ Hid (Look (near R C) xs s f part q) ∧ Hid (w1.grownBy wi (some (w.heap.size + 1))) ∧ Hid (SeenM wi (w.heap.size + 1) (s ++ part)) ∧ Hid (wi.ownsRow w1.heap.size 2 1 (.slice (some ⟨g, 0, none⟩) part.length cc) part.length (part.map (.int .i64)))) (fun _ kv _ _ => m - (intOf kv).toNat)
        case atStart => exact ⟨0, [f], w1.heap.size, 1, by omega, rfl, rfl, Look.start HFX.out HNS.out, World.grownBy_alloc _ _ _, HM.out.1.below ((Below.refl _ _).alloc (Nat.le_refl _) _), HP0.out⟩
        case round =>
          obtain ⟨q, part, g, cc, hq64, rfl, rfl, HLK, HG, HSM, HOW⟩ := hrel
          have hpl : part.length ≤ 64 := by have := HLK.out.bound; rw [HA.out.2.2.2.1] at this; omega
          have hpb : ∀ z ∈ part, 0 ≤ z ∧ z < R * C := fun z hz => HA.out.1 z (HLK.out.conn z hz).mem
          have HPB := Lib.hid hpb
          have HIN := Lib.hid (Ints.of_own HOW.out fun z hz => by have := hpb z hz; rw [HA.out.2.2.2.2] at this; omega)
          have hw0z := HI.out.2.2.2.2
          have HBI := Lib.hid (show Below w0.heap.size w0 wr from HB1.out.1.grown HG.out HB1.out.1.size (fun g2 hg => by injection hg with hg; omega))
          clear hpb
          by_cases hql : q < part.length
          · obtain ⟨bq, oq, y, hBQ, HY, hcy, _⟩ := HIN.out.at_ hql
            obtain ⟨rfl, rfl⟩ : bq = g ∧ oq = 0 := by
              injection hBQ with e
              injection e with e1 e2 _
              exact ⟨e1.symm, e2.symm⟩
            have hyb := HPB.out y (List.mem_of_getElem? HY.out)
            rw [HA.out.2.2.2.2] at hyb
            obtain ⟨Y, hY⟩ : ∃ Y : Nat, y = (Y : Int) := ⟨y.toNat, by omega⟩
            subst hY
            have hYn : Y < n := by omega
            have hqi : (q : Int) < (part.length : Int) := by omega
            rw [Nat.zero_add] at hcy
            obtain ⟨p0, p1, p2, p3⟩ := HI.out.2.1.below HBI.out
            have HCON := Lib.hid (next_any R C S A n c Y hs _ ((HI.out.1.below HBI.out).below (Below.refl _ _).drew) HA.out.2.2.1 hYn)
            clear hyb hBQ hYn
            go_wp2_with fail
            go_region_held3 (fun w' => w'.cell? ⟨w.heap.size, 0, none⟩ = some (.int .i64 R) ∧ w'.cell? ⟨w.heap.size, 1, none⟩ = some (.int .i64 C) ∧ w'.cell? ⟨w.heap.size, 2, none⟩ = some (.int .i64 S) ∧ w'.cell? ⟨w.heap.size, 3, none⟩ = some (.slice A n c) ∧ w'.cell? ⟨bq, q, none⟩ = some (.int .i64 Y))
              (first | go_keep | exact ⟨cell_kept hb4 p0, cell_kept hb4 p1, cell_kept hb4 p2, cell_kept hb4 p3, cell_kept hb4 hcy⟩)
              ((go_at_call 37; refine HCON.out.mono ?_; rintro e w2 ⟨A4, c4, rfl, ho4, hb4⟩))
            have hqm : q < m := by have := HLK.out.bound; rw [HA.out.2.2.2.1] at this; omega
            have hb5 := (Below.refl wr.heap.size wr).drew.trans (hb4.mono (Below.refl wr.heap.size wr).drew.size)
            have hzw : w1.heap.size ≤ wr.heap.size := HG.out.size
            have HT2 := Lib.hid (show w1.grownBy w2 (some (w.heap.size + 1)) ∧ SeenM w2 (w.heap.size + 1) (s ++ part) ∧ w2.ownsRow w1.heap.size 2 1 (.slice (some ⟨bq, 0, none⟩) part.length cc) part.length (part.map (.int .i64)) ∧ w2.ownsRow w1.heap.size 53 3 (.slice A4 (dirs R C Y).length c4) (dirs R C Y).length (stepsOf C S hs Y (dirs R C Y)) from
              ⟨grown_then HG.out (grown_of_below hb5 (some (w.heap.size + 1))) (.inl rfl), HSM.out.below hb5, own_below HOW.out hb5, own_base ho4 (Nat.le_trans hzw (Below.refl wr.heap.size wr).drew.size)⟩)
            have HQM := Lib.hid hqm
            have hdl := dirs_len R C Y
            clear hb4 hb5 ho4 p0 p1 p2 p3 hcy hqi hzw
            go_wp2_with fail
            go_loopw [9, 12, 40] (fun pv _ iv wt => ∃ (i : Nat) (part3 : List Int) (g3 c3 : Nat), i ≤ (dirs R C Y).length ∧ iv = .int .i64 i ∧ pv = .slice (some ⟨g3, 0, none⟩) part3.length c3 ∧ Hid (Look (near R C) xs s f part3 q) ∧ Hid (part3[q]? = some (Y : Int)) ∧ Hid (w1.grownBy wt (some (w.heap.size + 1))) ∧ Hid (SeenM wt (w.heap.size + 1) (s ++ part3)) ∧ Hid (wt.ownsRow w1.heap.size 2 1 (.slice (some ⟨g3, 0, none⟩) part3.length c3) part3.length (part3.map (.int .i64))) ∧ Hid (wt.ownsRow w1.heap.size 53 3 (.slice A4 (dirs R C Y).length c4) (dirs R C Y).length (stepsOf C S hs Y (dirs R C Y))) ∧ Hid (Dn C Y (dirs R C Y) i xs s part3)) (fun _ _ iv _ => (dirs R C Y).length - (intOf iv).toNat)
            case atStart => exact ⟨0, part, bq, cc, Nat.zero_le _, rfl, rfl, HLK, HY, HT2.out.1, HT2.out.2.1, HT2.out.2.2.1, HT2.out.2.2.2, fun t a ht => absurd ht (by omega)⟩
            case round =>
              obtain ⟨i, part3, g3, c3, hi, rfl, rfl, HLK3, HY3, HG3, HS3, HO3, HST, HDN⟩ := hrel
              by_cases hil : i < (dirs R C Y).length
              · obtain ⟨a, HD⟩ : ∃ a, Hid ((dirs R C Y)[i]? = some a) := ⟨_, List.getElem?_eq_getElem hil⟩
                obtain ⟨gs, rfl, t0, t1, t2⟩ := StepsAt.of_own HST.out i a HD.out
                have hmem := mem_dirs.1 (List.mem_of_getElem? HD.out)
                obtain ⟨M, hM⟩ : ∃ M : Nat, nbAt C Y a = (M : Int) := ⟨(nbAt C Y a).toNat, by have := nb_bd hmem.2 (by omega); omega⟩
                have hMb0 := nb_bd hmem.2 (show 1 ≤ C by omega)
                rw [hM, HA.out.2.2.2.2] at hMb0
                have hMb : -9223372036854775808 ≤ (M : Int) ∧ (M : Int) ≤ 9223372036854775807 := by omega
                have HMN := Lib.hid (show (M : Int) ∈ near R C Y from mem_near.2 ⟨a, List.mem_of_getElem? HD.out, hM.symm⟩)
                obtain ⟨F, hF⟩ : ∃ F, F = fallAt C S hs Y a := ⟨_, rfl⟩
                rw [hM] at t0
                rw [← hF] at t2
                have HMA := Lib.hid hM
                have hij : (i : Int) < ((dirs R C Y).length : Int) := by omega
                have hp3 : part3.length ≤ 64 := by have := HLK3.out.bound; rw [HA.out.2.2.2.1] at this; omega
                have hz3 : w.heap.size + 2 ≤ wr.heap.size := Nat.le_trans HB1.out.2.1 HG3.out.size
                have hBW := (Below.refl wr.heap.size wr).alloc (Nat.le_refl _) (.cells #[.int .i64 (M : Int), .int .i64 a, .int .i64 F] 53)
                have HW := Lib.hid (show w1.grownBy (wr.alloc (.cells #[.int .i64 (M : Int), .int .i64 a, .int .i64 F] 53)) (some (w.heap.size + 1)) ∧ SeenM (wr.alloc (.cells #[.int .i64 (M : Int), .int .i64 a, .int .i64 F] 53)) (w.heap.size + 1) (s ++ part3) ∧ (wr.alloc (.cells #[.int .i64 (M : Int), .int .i64 a, .int .i64 F] 53)).ownsRow w1.heap.size 2 1 (.slice (some ⟨g3, 0, none⟩) part3.length c3) part3.length (part3.map (.int .i64)) ∧ (wr.alloc (.cells #[.int .i64 (M : Int), .int .i64 a, .int .i64 F] 53)).ownsRow w1.heap.size 53 3 (.slice (some ⟨gs, 0, none⟩) (dirs R C Y).length c4) (dirs R C Y).length (stepsOf C S hs Y (dirs R C Y)) ∧ Below w0.heap.size w0 (wr.alloc (.cells #[.int .i64 (M : Int), .int .i64 a, .int .i64 F] 53)) from by
                  have h1 := grown_then HG3.out (grown_of_below hBW (some (w.heap.size + 1))) (.inl rfl)
                  exact ⟨h1, HS3.out.below hBW, own_below HO3.out hBW, own_below HST.out hBW, HB1.out.1.grown h1 HB1.out.1.size (fun g2 hg => by injection hg with hg; omega)⟩)
                have HCB := Lib.hid (show (wr.alloc (.cells #[.int .i64 (M : Int), .int .i64 a, .int .i64 F] 53)).cell? ⟨wr.heap.size, 0, none⟩ = some (.int .i64 (M : Int)) by go_simp)
                clear hM hF hmem hMb0 hBW
                have HDM := Lib.hid (show ∀ p : List Int, (∀ z ∈ part3, z ∈ p) → ((M : Int) ∈ xs → (M : Int) ∈ s ∨ (M : Int) ∈ p) → Dn C Y (dirs R C Y) (i + 1) xs s p from fun p hp hMp t b ht hb hbx => by
                  by_cases e : t = i
                  · subst e
                    have := HD.out
                    rw [hb] at this
                    injection this with this
                    subst this
                    rw [HMA.out] at hbx ⊢
                    exact hMp hbx
                  · rcases HDN.out t b (by omega) hb hbx with h1 | h1
                    · exact .inl h1
                    · exact .inr (hp _ h1))
                cases hsp : hasB (s ++ part3) (M : Int)
                · have HSP := Lib.hid hsp
                  clear hsp
                  cases hcx : hasB xs (M : Int)
                  · have HCX := Lib.hid hcx
                    clear hcx
                    go_wp2_with (at_lookup; refine wp_look rfl _ _ rfl (w.heap.size + 1) (s ++ part3) rfl HW.out.2.1 (M : Int) rfl hMb ?_; rw [HSP.out])
                    refine (contains_any _ _ _ _ xs _ (HI.out.2.2.1.below HW.out.2.2.2.2)).mono ?_
                    rintro e w7 ⟨rfl, q7, rfl⟩
                    rw [HCX.out]
                    go_wp2_with fail
                    go_roundw
                    case rel => exact ⟨i + 1, part3, g3, c3, by omega, by go_num, rfl, HLK3, HY3, grown_drewN HW.out.1 _, HW.out.2.1.drewN _, own_drewN HW.out.2.2.1 _, own_drewN HW.out.2.2.2.1 _, HDM.out part3 (fun z hz => hz) fun hx => by have := hasB_iff.2 hx; rw [HCX.out] at this; cases this⟩
                    case measure => simp [intOf]; omega
                  · have HCX := Lib.hid hcx
                    clear hcx
                    go_wp2_with (at_lookup; refine wp_look rfl _ _ rfl (w.heap.size + 1) (s ++ part3) rfl HW.out.2.1 (M : Int) rfl hMb ?_; rw [HSP.out])
                    refine (contains_any _ _ _ _ xs _ (HI.out.2.2.1.below HW.out.2.2.2.2)).mono ?_
                    rintro e w7 ⟨rfl, q7, rfl⟩
                    rw [HCX.out]
                    have hcd : ((wr.alloc (.cells #[.int .i64 (M : Int), .int .i64 a, .int .i64 F] 53)).drewN q7).cell? ⟨wr.heap.size, 0, none⟩ = some (.int .i64 (M : Int)) := HCB.out
                    have HPB3 := Lib.hid (show (M : Int) ∉ s ∧ (M : Int) ∉ part3 from by
                      have h1 : ¬ (M : Int) ∈ s ++ part3 := fun hm => by have := hasB_iff.2 hm; rw [HSP.out] at this; cases this
                      rw [List.mem_append, not_or] at h1
                      exact h1)
                    have hg3w := own_base_le HO3.out
                    go_wp2_with (first | (at_mapUpdate; refine wp_mark rfl _ _ rfl (w.heap.size + 1) (s ++ part3) rfl (HW.out.2.1.drewN q7) (by have := HJ.out.2; rw [List.length_append]; omega) (M : Int) rfl hMb ?_; intro w8 hs8 hg8; have hbx := hg8.cell hcd (fun e => by injection e with e; simp at e; omega); have HM8 := Lib.hid (show SeenM w8 (w.heap.size + 1) (s ++ part3 ++ [(M : Int)]) ∧ w1.grownBy w8 (some (w.heap.size + 1)) ∧ w8.ownsRow w1.heap.size 2 1 (.slice (some ⟨g3, 0, none⟩) part3.length c3) part3.length (part3.map (.int .i64)) ∧ w8.ownsRow w1.heap.size 53 3 (.slice (some ⟨gs, 0, none⟩) (dirs R C Y).length c4) (dirs R C Y).length (stepsOf C S hs Y (dirs R C Y)) from ⟨hs8, grown_then (grown_drewN HW.out.1 q7) hg8 (.inl rfl), (own_drewN HW.out.2.2.1 q7).kept hg8 (.inr fun e2 => by have := own_blk HW.out.2.2.1 _ e2; have := HB1.out.2.1; omega), (own_drewN HW.out.2.2.2.1 q7).kept hg8 (.inr fun e2 => by have := own_blk HW.out.2.2.2.1 _ e2; have := HB1.out.2.1; omega)⟩); clear hs8 hg8 hcd) | (at_builtin; refine wp_app_int (wr := w8) rfl (.tmp 58) (.tmp 61) 24 rfl w1.heap.size 2 Try.underlying24 info_int _ part3.length part3 (M : Int) (by rfl) HM8.out.2.2.1 (by rfl) (by omega) HM8.out.2.1.size ?_; intro v' w9 hown9 hgrow9 hv9; obtain ⟨g9, c9, rfl⟩ := hv9; have HM9 := Lib.hid (And.intro hown9 hgrow9); clear hown9 hgrow9))
                    go_roundw
                    case rel => exact ⟨i + 1, part3 ++ [(M : Int)], g9, c9, by omega, by go_num, by rw [List.length_append]; rfl,
                      HLK3.out.add HA.out.2.1 (List.mem_of_getElem? HY3.out) (hasB_iff.1 HCX.out) HMN.out HPB3.out.1 HPB3.out.2,
                      (by show (part3 ++ [(M : Int)])[q]? = _; rw [List.getElem?_append_left (List.getElem?_eq_some_iff.1 HY3.out).1]; exact HY3.out),
                      grown_then HM8.out.2.1 HM9.out.2 (.inr fun g2 e2 => by simp [Value.ownBlock] at e2; omega),
                      (by show SeenM _ _ _; rw [← List.append_assoc]; exact HM8.out.1.kept HM9.out.2 (fun e2 => by simp [Value.ownBlock] at e2; have := HB1.out.2.1; omega)),
                      (by show World.ownsRow _ _ _ _ _ _ _; rw [List.length_append]; exact HM9.out.1),
                      HM8.out.2.2.2.kept HM9.out.2 (.inr (own_ne HM8.out.2.2.2 HM8.out.2.2.1 (by decide))),
                      HDM.out _ (fun z hz => by simp [hz]) fun _ => .inr (by simp)⟩
                    case measure => simp [intOf]; omega
                · have HSP := Lib.hid hsp
                  clear hsp
                  go_wp2_with (at_lookup; refine wp_look rfl _ _ rfl (w.heap.size + 1) (s ++ part3) rfl HW.out.2.1 (M : Int) rfl hMb ?_; rw [HSP.out])
                  go_roundw
                  case rel => exact ⟨i + 1, part3, g3, c3, by omega, by go_num, rfl, HLK3, HY3, HW.out.1, HW.out.2.1, HW.out.2.2.1, HW.out.2.2.2.1, HDM.out part3 (fun z hz => hz) fun _ => List.mem_append.1 (hasB_iff.1 HSP.out)⟩
                  case measure => simp [intOf]; omega
              · obtain rfl : i = (dirs R C Y).length := by omega
                clear hil
                go_wp2_with fail
                go_roundw
                case rel => exact ⟨q + 1, part3, g3, c3, by omega, by go_num, rfl, HLK3.out.next HY3.out (fun z hz hzn => by
                  obtain ⟨a, ha, rfl⟩ := mem_near.1 hzn
                  obtain ⟨t, ht⟩ := List.mem_iff_getElem?.1 ha
                  exact HDN.out t a (List.getElem?_eq_some_iff.1 ht).1 ht hz), HG3, HS3, HO3⟩
                case measure => have := HQM.out; simp [intOf]; omega
          · obtain rfl : q = part.length := Nat.le_antisymm HLK.out.le (by omega)
            have HFIN := Lib.hid (HLK.out.finish (by have := partsTo_seen (nr := near R C) (xs := xs) (xs.take k) (fun c hc => List.mem_of_mem_take hc); rw [← HE.out] at this; exact this) HA.out.2.1)
            have HSP := Lib.hid (sortI_eq HLK.out.nodup (spread_ok HFX.out).1 HFIN.out)
            have HSL := Lib.hid (show (spread (near R C) xs f).length = part.length by rw [← HSP.out, sortI_len])
            obtain ⟨cs, ff, fd, q1, q2, q3⟩ := HB1.out.2.2
            have HRR := Lib.hid (And.intro q1 (And.intro q2 q3))
            have hgw := own_base_le HOW.out
            have hjk := HJ.out.1
            clear q1 q2 q3
            go_wp2_with fail
            refine (sort_own HOW.out (by omega)).mono ?_
            rintro e w5 ⟨rfl, ho5, hg5⟩
            have HG5 := Lib.hid (grown_then HG.out hg5 (.inr fun g2 e2 => by injection e2 with e2; omega))
            have HO5 := Lib.hid (And.intro (HRR.out.1.kept HG5.out (.inr fun e2 => by have := own_blk HRR.out.1 _ e2; omega)) (And.intro ho5 (HSM.out.kept hg5 (fun e2 => by injection e2 with e2; have := HB1.out.2.1; omega))))
            have hz5 : w.heap.size + 2 ≤ w5.heap.size := Nat.le_trans HB1.out.2.1 HG5.out.size
            clear ho5 hg5
            go_wp2_with (at_builtin; refine wp_app (wr := w5) rfl (.tmp 66) (.tmp 68) 29 rfl (w.heap.size + 2) 24 (.slice none 0 0) 1 24 Try.underlying29 info_rows rfl (by omega) _ j cs (by rfl) HO5.out.1 [.slice (some ⟨g, 0, none⟩) part.length cc] rfl (by rfl) (by intro u hu; simp at hu; subst hu; rfl) (by unfold maxLen; omega) (by omega) hz5 ?_; intro v' w6 hown6 hgrow6 hv6; have HF6 := Lib.hid (And.intro hown6 hgrow6); clear hown6 hgrow6 hv6)
            go_roundw
            case rel => exact ⟨k + 1, j + 1, rs ++ [spread (near R C) xs f], s ++ spread (near R C) xs f, by omega, by go_num,
              (HB1.out.1.grown HG5.out HB1.out.1.size (fun g2 hg => by injection hg with hg; omega)).grown HF6.out.2 (by have := HI.out.2.2.2.2; omega) (fun g2 hg => by have := own_blk HO5.out.1 _ hg; omega),
              Nat.le_trans hz5 HF6.out.2.size,
              (HO5.out.2.2.kept HF6.out.2 (fun e2 => by have := own_blk HO5.out.1 _ e2.symm; omega)).same (by simp [HSL.out]) (fun x => by
                have := HFIN.out x
                cases h1 : hasB (s ++ part) x <;> cases h2 : hasB (s ++ spread (near R C) xs f) x <;> simp_all [← Bool.not_eq_true, hasB_iff]),
              RowsB.appG HRR.out.1 HRR.out.2.1 HRR.out.2.2 HG5.out (by omega) hgw (by rw [HSL.out, ← HSP.out]; exact own_base HO5.out.2.1 HB1.out.2.1) (by rw [HSL.out]; exact HF6.out.1) HF6.out.2,
              (by
                show (_, _) = _
                rw [partsTo_snoc HF.out, ← HE.out]
                unfold partOne
                rw [if_neg (by simp [HSF.out])]),
              (by have := HJ.out; have := HSL.out; show j + 1 ≤ k + 1 ∧ _; rw [List.length_append]; omega)⟩
            case measure => simp [intOf]; omega
      · have HSF := Lib.hid hsf
        clear hsf
        go_wp2_with (first | (at_lookup; refine wp_look rfl _ _ rfl (w.heap.size + 1) s rfl HSE.out f rfl hfb ?_; rw [HSF.out]))
        go_roundw
        case rel => exact ⟨k + 1, j, rs, s, by omega, by go_num, HBL, HZ, HSE, HRB, by
          show (rs, s) = _
          rw [partsTo_snoc HF.out, ← HE.out]
          unfold partOne
          rw [if_pos HSF.out], ⟨by have := HJ.out.1; omega, by have := HJ.out.2; omega⟩⟩
        case measure => simp [intOf]; omega
    · obtain rfl : k = m := by omega
      clear hlt
      have HX := Lib.hid (show rs = partsF (near R C) xs by
        have e := HE.out
        rw [List.take_of_length_le (by rw [HA.out.2.2.2.1]; omega), partsTo_rows] at e
        exact congrArg Prod.fst e)
      have HJR := Lib.hid (show rs.length = j by obtain ⟨cs, f, dd, q1, q2, q3⟩ := HRB.out; exact q2)
      go_wp2_with fail
      go_ret
      rw [← HX.out, HJR.out]
      exact ⟨_, rfl, HRB.out.base (by omega), HI.out.2.2.2.1.trans (HBL.out.mono HI.out.2.2.2.1.size)⟩
end Go.Proofs.Ytknppcgoooaaaaa
