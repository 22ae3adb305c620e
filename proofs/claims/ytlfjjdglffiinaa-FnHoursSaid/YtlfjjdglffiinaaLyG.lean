/-
  Layers: the forms of the next hour.
-/
import Derived.Test.YtlfjjdglffiinaaLyF
namespace Go.Proofs.Ytlfjjdglffiinaa
open Go.ChangeShapes Go.WideShapes Go.ChangeAt Go.RowKit Go.Deep
set_option linter.unusedVariables false

def nextN (f v a g : Int) : Int :=
  if 0 < v ∨ f = 6 then 6 else if 2000 ≤ g ∧ 72 ≤ a then 5 else if 1000 ≤ g ∧ 24 ≤ a then 4 else if f = 1 ∧ 48 ≤ a then 2 else if f = 2 ∧ 120 ≤ a then 3 else f
theorem nextN_bd {f v a g : Int} (hf : 1 ≤ f ∧ f ≤ 6) : 1 ≤ nextN f v a g ∧ nextN f v a g ≤ 6 := by unfold nextN; (repeat' split) <;> omega
def steepF (ls : List Ly) (k : Nat) : Int :=
  if k + 1 < ls.length then max (if 0 < k then absI (gradF ls (k - 1)) else 0) (absI (gradF ls k)) else if 0 < k then absI (gradF ls (k - 1)) else 0
def formX (ls : List Ly) (k : Nat) (x : Ly) : Ly := { x with form := nextN x.form x.water x.age (steepF ls k) }
def formsF (ls : List Ly) : List Ly := ls.mapIdx (formX ls)
theorem formsF_len (ls : List Ly) : (formsF ls).length = ls.length := by simp [formsF]
theorem formsF_at {ls : List Ly} {k : Nat} {x : Ly} (h : ls[k]? = some x) : (formsF ls)[k]? = some (formX ls k x) := by simp [formsF, h]
theorem formX_ok {ls : List Ly} {k : Nat} {x : Ly} (h : LyOk x) : LyOk (formX ls k x) := ⟨nextN_bd h.f, h.i, h.v, h.d, h.g, h.h, h.a⟩
theorem formsF_ok {ls : List Ly} (h : ∀ x ∈ ls, LyOk x) : ∀ x ∈ formsF ls, LyOk x := by
  intro x hx
  obtain ⟨j, hj⟩ := List.mem_iff_getElem?.1 hx
  have hlt : j < ls.length := by have := (List.getElem?_eq_some_iff.1 hj).1; rw [formsF_len] at this; exact this
  rw [formsF_at (List.getElem?_eq_getElem hlt)] at hj
  injection hj with hj
  subst hj
  exact formX_ok (h _ (List.getElem_mem hlt))
/-! ### New elements up to k, old ones behind -/
def mixL (new old : List Ly) (k : Nat) : List Ly := new.take k ++ old.drop k
theorem mixL_zero (new old : List Ly) : mixL new old 0 = old := by simp [mixL]
theorem mixL_all {new old : List Ly} {n : Nat} (h : new.length = n) (h' : old.length = n) : mixL new old n = new := by
  unfold mixL
  rw [List.take_of_length_le (by omega), List.drop_of_length_le (by omega), List.append_nil]
theorem mixL_len {new old : List Ly} {n k : Nat} (h : new.length = n) (h' : old.length = n) (hk : k ≤ n) : (mixL new old k).length = n := by simp [mixL, h, h']; omega
theorem mixL_at {new old : List Ly} {n k : Nat} {x : Ly} (h : new.length = n) (h' : old.length = n) (hk : k < n) (hx : old[k]? = some x) : (mixL new old k)[k]? = some x := by
  unfold mixL
  rw [List.getElem?_append_right (by simp; omega), List.length_take, List.getElem?_drop]
  rw [show k + (k - min k new.length) = k by omega]
  exact hx
theorem mixL_set {new old : List Ly} {n k : Nat} {y : Ly} (h : new.length = n) (h' : old.length = n) (hk : k < n) (hy : new[k]? = some y) : (mixL new old k).set k y = mixL new old (k + 1) := by
  apply List.ext_getElem?
  intro j
  by_cases e : j = k
  · subst e
    rw [List.getElem?_set_self (by rw [mixL_len h h' (by omega)]; exact hk)]
    unfold mixL
    rw [List.getElem?_append_left (by simp; omega), List.getElem?_take, if_pos (by omega), hy]
  · rw [List.getElem?_set_ne (fun e' => e e'.symm)]
    unfold mixL
    by_cases hj : j < k
    · rw [List.getElem?_append_left (by simp; omega), List.getElem?_append_left (by simp; omega), List.getElem?_take, List.getElem?_take, if_pos hj, if_pos (by omega)]
    · rw [List.getElem?_append_right (by simp; omega), List.getElem?_append_right (by simp; omega), List.getElem?_drop, List.getElem?_drop, List.length_take, List.length_take]
      congr 1
      omega
theorem mixL_ok {new old : List Ly} {k : Nat} (h : ∀ x ∈ new, LyOk x) (h' : ∀ x ∈ old, LyOk x) : ∀ x ∈ mixL new old k, LyOk x := by
  intro x hx
  rcases List.mem_append.1 hx with h1 | h1
  · exact h x (List.mem_of_mem_take h1)
  · exact h' x (List.mem_of_mem_drop h1)
theorem gradF_bd {ls : List Ly} (h : ∀ x ∈ ls, LyOk x) (k : Nat) : -4000001 ≤ gradF ls k ∧ gradF ls k ≤ 4000001 := by
  unfold gradF
  split
  · rename_i a b ha hb
    exact gradN_bd (h _ (List.mem_of_getElem? ha)).g (h _ (List.mem_of_getElem? hb)).g
  · omega
theorem GradientOf_t (A : Option Addr) (n c : Nat) (ls : List Ly) (k : Nat) (w : World) (H : Lys w A n ls) (hk : k + 1 < n) :
    Calls Try.prog 22 #[.slice A n c, .int .i64 (k : Int)] w fun e w' => e = .returned (.tuple #[.int .i64 (gradF ls k), .int .i64 0]) ∧ Below w.heap.size w w' := by
  have hn := H.2.1
  have HH := Lib.hid H
  clear H
  go_enter Try.func22, Try.ntmps22
  go_wp2_with fail
  refine (ValidProfile_t _ _ _ ls _ HH.out).mono ?_
  rintro e w1 ⟨rfl, hb1⟩
  have H1 := Lib.hid hb1
  clear hb1
  go_wp2_with (go_at_call 32; refine (within_t _ _ _ _ (by omega) (by omega)).mono ?_; rintro e w' ⟨rfl, rfl⟩)
  refine (gradientOf_t _ _ _ ls k _ (HH.out.below H1.out) hk).mono ?_
  rintro e w2 ⟨rfl, hb2⟩
  have H2 := Lib.hid (H1.out.trans (hb2.mono H1.out.size))
  clear hb2
  go_wp2_with fail
  go_ret2
  exact ⟨rfl, H2.out⟩
set_option maxRecDepth 100000 in
theorem nextForm_t (f i v d t h a g : Int) (w : World) :
    Calls Try.prog 57 #[Lyv f i v d t h a, .int .i64 g] w fun e w' => e = .returned (.int .i64 (nextN f v a g)) ∧ Below w.heap.size w w' := by
  go_enter Try.func57, Try.ntmps57
  go_wp2_with fail
  all_goals go_ret
  all_goals exact ⟨ret_int (by (try simp only [beq_iff_eq, beq_eq_false_iff_ne, ne_eq] at *); unfold nextN; (repeat' split) <;> omega), (Below.refl _ _).alloc (Nat.le_refl _) _⟩
set_option maxRecDepth 100000 in
set_option maxHeartbeats 2000000 in
theorem changedForms_t (A : Option Addr) (n c : Nat) (ls : List Ly) (w : World) (H : Lys w A n ls) :
    Calls Try.prog 45 #[.slice A n c] w fun e w' => ∃ A' c', e = .returned (.slice A' n c') ∧ LBag w' 35 w.heap.size A' n c' (formsF ls) ∧ Below w.heap.size w w' := by
  have hn := H.2.1
  have HL := Lib.hid H.1
  have HFL := Lib.hid ((formsF_len ls).trans H.1)
  have HH := Lib.hid H
  clear H
  go_enter Try.func45, Try.ntmps45
  go_wp2_with fail
  refine (cloneLy_t _ _ _ ls _ HH.out).mono ?_
  rintro e w1 ⟨A', c', rfl, hbag, hb1⟩
  have H1 := Lib.hid (And.intro hbag hb1)
  clear hbag hb1
  go_wp2_with fail
  go_loopw [4, 5, 6, 11] (fun _ _ _ kv wr => ∃ k : Nat, k ≤ n ∧ kv = .int .i64 k ∧ Hid (LBag wr 35 w.heap.size A' n c' (mixL (formsF ls) ls k)) ∧ Below w.heap.size w wr) (fun _ _ _ kv _ => n - (intOf kv).toNat)
  case atStart => exact ⟨0, Nat.zero_le _, rfl, by rw [mixL_zero]; exact H1.out.1, H1.out.2⟩
  case round =>
    obtain ⟨k, hk, rfl, HBG, hbl⟩ := hrel
    by_cases hlt : k < n
    · obtain ⟨b, off, f, i, v, d, t, h, a, rfl, HX, hc, hb⟩ := (HH.out.below hbl).at_ hlt
      obtain ⟨g', hA', hbg, hrow⟩ := HBG.out.2.2.2 (by omega)
      subst hA'
      have hki : (k : Int) < (n : Int) := by omega
      have HFK := Lib.hid (formsF_at HX.out)
      have HHL := Lib.hid (And.intro (HH.out.below hbl) (And.intro hb hbl))
      have HROW := Lib.hid hrow
      have hwz := hrow.lt
      obtain ⟨c0, c1, c2, c3, c4, c5, c6⟩ := hc
      clear hb hbl hrow
      obtain ⟨G0, hG0⟩ : ∃ G0, G0 = if 0 < k then absI (gradF ls (k - 1)) else 0 := ⟨_, rfl⟩
      obtain ⟨G1, hG1⟩ : ∃ G1, G1 = steepF ls k := ⟨_, rfl⟩
      have hgb := gradF_bd HH.out.2.2.1 (k - 1)
      have hgb2 := gradF_bd HH.out.2.2.1 k
      have hG0b : 0 ≤ G0 ∧ G0 ≤ 4000001 := by rw [hG0]; unfold absI; (repeat' split) <;> omega
      have HG0 := Lib.hid hG0
      have HG1 := Lib.hid hG1
      have hst : steepF ls k = if k + 1 < n then max G0 (absI (gradF ls k)) else G0 := by rw [hG0]; unfold steepF; rw [HL.out]
      have HST := Lib.hid hst
      clear hG0 hG1 hst
      go_upto_if 17 with (fail)
      go_cut [6] (fun gv wx => gv = .int .i64 G0 ∧ LyAt wx wr.heap.size 0 f i v d t h a ∧ Below wr.heap.size wr wx)
      case first =>
        have hla := ly_alloc wr f i v d t h a 35
        have hba : Below wr.heap.size wr (wr.alloc (.cells #[.int .i64 f, .int .i64 i, .int .i64 v, .int .i64 d, .int .i64 t, .int .i64 h, .int .i64 a] 35)) := (Below.refl _ _).alloc (Nat.le_refl _) _
        have HA := Lib.hid (And.intro hla hba)
        clear hla hba
        by_cases h0 : 0 < k
        · obtain ⟨j, rfl⟩ : ∃ j, k = j + 1 := ⟨k - 1, by omega⟩
          have hj : ((j + 1 : Nat) : Int) - 1 = (j : Int) := by omega
          have hGe := Lib.hid (HG0.out.trans (if_pos h0))
          go_wp2_with fail
          refine (gradientOf_t _ _ _ ls j _ (HHL.out.1.below HA.out.2) hlt).mono ?_
          rintro e w2 ⟨rfl, hb2⟩
          have HB2 := Lib.hid (And.intro (HA.out.1.below hb2) (HA.out.2.trans (hb2.mono HA.out.2.size)))
          clear hb2
          rw [show j + 1 - 1 = j by omega] at hgb
          go_wp2_with (go_at_call 53; refine (abs_any _ _ (by omega) (by omega)).mono ?_; rintro e w' ⟨rfl, rfl⟩)
          go_meet
          exact ⟨by rw [hGe.out]; rfl, HB2.out.1, HB2.out.2⟩
        · have hGe := Lib.hid (HG0.out.trans (if_neg h0))
          go_wp2_with fail
          go_meet
          exact ⟨by rw [hGe.out], HA.out.1, HA.out.2⟩
      case rest =>
        obtain ⟨rfl, hla, hba⟩ := hcut
        rename World => wx
        have HA := Lib.hid (And.intro hla hba)
        clear hla hba hgb
        go_upto_if 27 with (fail)
        go_cut [6] (fun gv wy => gv = .int .i64 G1 ∧ LyAt wy wr.heap.size 0 f i v d t h a ∧ Below wr.heap.size wr wy)
        case first =>
          by_cases h1 : k + 1 < n
          · have hGe := Lib.hid (HG1.out.trans (HST.out.trans (if_pos h1)))
            have h1i : (k : Int) < (n : Int) - 1 := by omega
            go_wp2_with fail
            refine (gradientOf_t _ _ _ ls k _ (HHL.out.1.below HA.out.2) h1).mono ?_
            rintro e w2 ⟨rfl, hb2⟩
            have HB2 := Lib.hid (And.intro (HA.out.1.below hb2) (HA.out.2.trans (hb2.mono HA.out.2.size)))
            clear hb2
            go_wp2_with (go_at_call 53; refine (abs_any _ _ (by omega) (by omega)).mono ?_; rintro e w' ⟨rfl, rfl⟩)
            all_goals
              go_meet
              exact ⟨by rw [hGe.out]; congr 1; omega, HB2.out.1, HB2.out.2⟩
          · have hGe := Lib.hid (HG1.out.trans (HST.out.trans (if_neg h1)))
            have h1i : ¬ (k : Int) < (n : Int) - 1 := by omega
            go_wp2_with fail
            go_meet
            exact ⟨by rw [hGe.out], HA.out.1, HA.out.2⟩
        case rest =>
          obtain ⟨rfl, hla, hba⟩ := hcut
          rename World => wy
          obtain ⟨x0, x1, x2, x3, x4, x5, x6⟩ := hla
          simp only [Nat.zero_add] at x1 x2 x3 x4 x5 x6
          have HB := Lib.hid hba
          clear hba
          go_wp2_with fail
          refine (nextForm_t _ _ _ _ _ _ _ _ _).mono ?_
          rintro e w2 ⟨rfl, hb2⟩
          have HB2 := Lib.hid (HB.out.trans (hb2.mono HB.out.size))
          clear hb2 x0 x1 x2 x3 x4 x5 x6
          have hr2 := HROW.out.below HB2.out
          have hmx := mixL_at HFL.out HL.out hlt HX.out
          obtain ⟨d0, d1, d2, d3, d4, d5, d6⟩ := hr2.lyAt hmx
          have f0 := hr2.free (k * 7)
          have HS := Lib.hid (show LRow (w2.setCell ⟨g', k * 7, none⟩ (.int .i64 (nextN f v a G1))) 35 g' c' (mixL (formsF ls) ls (k + 1)) by
            rw [← mixL_set HFL.out HL.out hlt (by rw [HFK.out]), show formX ls k ⟨f, i, v, d, t, h, a⟩ = ⟨nextN f v a G1, i, v, d, t, h, a⟩ by simp only [formX, HG1.out]]
            exact hr2.set_form hmx _)
          have HBF := Lib.hid (below_grown (HHL.out.2.2.trans (HB2.out.mono HHL.out.2.2.size)) (grown_setCell (p := ⟨g', k * 7, none⟩) (World.grownBy.refl w2 (some g')) rfl (.int .i64 (nextN f v a G1))) (Nat.le_trans HHL.out.2.2.size HB2.out.size) hbg)
          clear hr2 hmx d1 d2 d3 d4 d5 d6
          go_wp2_with fail
          go_roundw
          case rel => exact ⟨k + 1, by omega, by go_num, ⟨by rw [mixL_len HFL.out HL.out (by omega)], hn, mixL_ok (formsF_ok HH.out.2.2.1) HH.out.2.2.1, fun _ => ⟨g', rfl, hbg, HS.out⟩⟩, HBF.out⟩
          case measure => simp [intOf]; omega
    · obtain rfl : k = n := by omega
      have HB := Lib.hid hbl
      clear hbl
      go_wp2_with fail
      go_ret
      exact ⟨_, _, rfl, by rw [← mixL_all HFL.out HL.out]; exact HBG.out, HB.out⟩
theorem ChangeForms_t (A : Option Addr) (n c : Nat) (ls : List Ly) (w : World) (H : Lys w A n ls) :
    Calls Try.prog 23 #[.slice A n c] w fun e w' => ∃ A' c', e = .returned (.tuple #[.slice A' n c', .int .i64 0]) ∧ LBag w' 35 w.heap.size A' n c' (formsF ls) ∧ Below w.heap.size w w' := by
  have HH := Lib.hid H
  clear H
  go_enter Try.func23, Try.ntmps23
  go_wp2_with fail
  refine (ValidProfile_t _ _ _ ls _ HH.out).mono ?_
  rintro e w1 ⟨rfl, hb1⟩
  have H1 := Lib.hid hb1
  clear hb1
  go_wp2_with fail
  refine (changedForms_t _ _ _ ls _ (HH.out.below H1.out)).mono ?_
  rintro e w2 ⟨A', c', rfl, hbag, hb2⟩
  have H2 := Lib.hid (And.intro (hbag.base H1.out.size) (H1.out.trans (hb2.mono H1.out.size)))
  clear hbag hb2
  go_wp2_with fail
  go_ret2
  exact ⟨A', c', rfl, H2.out.1, H2.out.2⟩
def nameS (n : Int) : ByteArray := if n = 1 then ⟨#[110, 101, 119]⟩ else if n = 2 then ⟨#[98, 114, 111, 107, 101, 110]⟩ else if n = 3 then ⟨#[114, 111, 117, 110, 100]⟩ else if n = 4 then ⟨#[102, 97, 99, 101, 116]⟩ else if n = 5 then ⟨#[104, 111, 97, 114]⟩ else ⟨#[109, 101, 108, 116]⟩
theorem nameS_full (n : Int) : (nameS n).toList.isEmpty = false ∧ (nameS n == ByteArray.empty) = false := by
  unfold nameS
  (repeat' split) <;> exact ⟨by decide +kernel, by decide +kernel⟩
set_option maxRecDepth 100000 in
theorem FormName_t (n : Int) (w : World) (h1 : 1 ≤ n) (h2 : n ≤ 6) :
    Calls Try.prog 24 #[.int .i64 n] w fun e w' => e = .returned (.string (nameS n)) ∧ w = w' := by
  have hc : n = 1 ∨ n = 2 ∨ n = 3 ∨ n = 4 ∨ n = 5 ∨ n = 6 := by omega
  clear h1 h2
  rcases hc with rfl | rfl | rfl | rfl | rfl | rfl
  · have ik : ∀ w, (Instr.index 65 (.agg #[.string { data := #[] }, .string { data := #[110, 101, 119] }, .string { data := #[98, 114, 111, 107, 101, 110] }, .string { data := #[114, 111, 117, 110, 100] }, .string { data := #[102, 97, 99, 101, 116] }, .string { data := #[104, 111, 97, 114] }, .string { data := #[109, 101, 108, 116] }]) (.int .i64 1)).run Try.prog w = .ok (.string { data := #[110, 101, 119] }) w := fun _ => by kernel_rfl
    have ik2 : ∀ w, (Instr.index 65 (.agg #[.string ByteArray.empty, .string { data := #[110, 101, 119] }, .string { data := #[98, 114, 111, 107, 101, 110] }, .string { data := #[114, 111, 117, 110, 100] }, .string { data := #[102, 97, 99, 101, 116] }, .string { data := #[104, 111, 97, 114] }, .string { data := #[109, 101, 108, 116] }]) (.int .i64 1)).run Try.prog w = .ok (.string { data := #[110, 101, 119] }) w := fun _ => by kernel_rfl
    go_enter Try.func24, Try.ntmps24
    go_wp2_with (go_at_call 32; refine (within_t _ _ _ _ (by omega) (by omega)).mono ?_; rintro e w' ⟨rfl, rfl⟩)
    go_ret
    exact ⟨rfl, rfl⟩
  · have ik : ∀ w, (Instr.index 65 (.agg #[.string { data := #[] }, .string { data := #[110, 101, 119] }, .string { data := #[98, 114, 111, 107, 101, 110] }, .string { data := #[114, 111, 117, 110, 100] }, .string { data := #[102, 97, 99, 101, 116] }, .string { data := #[104, 111, 97, 114] }, .string { data := #[109, 101, 108, 116] }]) (.int .i64 2)).run Try.prog w = .ok (.string { data := #[98, 114, 111, 107, 101, 110] }) w := fun _ => by kernel_rfl
    have ik2 : ∀ w, (Instr.index 65 (.agg #[.string ByteArray.empty, .string { data := #[110, 101, 119] }, .string { data := #[98, 114, 111, 107, 101, 110] }, .string { data := #[114, 111, 117, 110, 100] }, .string { data := #[102, 97, 99, 101, 116] }, .string { data := #[104, 111, 97, 114] }, .string { data := #[109, 101, 108, 116] }]) (.int .i64 2)).run Try.prog w = .ok (.string { data := #[98, 114, 111, 107, 101, 110] }) w := fun _ => by kernel_rfl
    go_enter Try.func24, Try.ntmps24
    go_wp2_with (go_at_call 32; refine (within_t _ _ _ _ (by omega) (by omega)).mono ?_; rintro e w' ⟨rfl, rfl⟩)
    go_ret
    exact ⟨rfl, rfl⟩
  · have ik : ∀ w, (Instr.index 65 (.agg #[.string { data := #[] }, .string { data := #[110, 101, 119] }, .string { data := #[98, 114, 111, 107, 101, 110] }, .string { data := #[114, 111, 117, 110, 100] }, .string { data := #[102, 97, 99, 101, 116] }, .string { data := #[104, 111, 97, 114] }, .string { data := #[109, 101, 108, 116] }]) (.int .i64 3)).run Try.prog w = .ok (.string { data := #[114, 111, 117, 110, 100] }) w := fun _ => by kernel_rfl
    have ik2 : ∀ w, (Instr.index 65 (.agg #[.string ByteArray.empty, .string { data := #[110, 101, 119] }, .string { data := #[98, 114, 111, 107, 101, 110] }, .string { data := #[114, 111, 117, 110, 100] }, .string { data := #[102, 97, 99, 101, 116] }, .string { data := #[104, 111, 97, 114] }, .string { data := #[109, 101, 108, 116] }]) (.int .i64 3)).run Try.prog w = .ok (.string { data := #[114, 111, 117, 110, 100] }) w := fun _ => by kernel_rfl
    go_enter Try.func24, Try.ntmps24
    go_wp2_with (go_at_call 32; refine (within_t _ _ _ _ (by omega) (by omega)).mono ?_; rintro e w' ⟨rfl, rfl⟩)
    go_ret
    exact ⟨rfl, rfl⟩
  · have ik : ∀ w, (Instr.index 65 (.agg #[.string { data := #[] }, .string { data := #[110, 101, 119] }, .string { data := #[98, 114, 111, 107, 101, 110] }, .string { data := #[114, 111, 117, 110, 100] }, .string { data := #[102, 97, 99, 101, 116] }, .string { data := #[104, 111, 97, 114] }, .string { data := #[109, 101, 108, 116] }]) (.int .i64 4)).run Try.prog w = .ok (.string { data := #[102, 97, 99, 101, 116] }) w := fun _ => by kernel_rfl
    have ik2 : ∀ w, (Instr.index 65 (.agg #[.string ByteArray.empty, .string { data := #[110, 101, 119] }, .string { data := #[98, 114, 111, 107, 101, 110] }, .string { data := #[114, 111, 117, 110, 100] }, .string { data := #[102, 97, 99, 101, 116] }, .string { data := #[104, 111, 97, 114] }, .string { data := #[109, 101, 108, 116] }]) (.int .i64 4)).run Try.prog w = .ok (.string { data := #[102, 97, 99, 101, 116] }) w := fun _ => by kernel_rfl
    go_enter Try.func24, Try.ntmps24
    go_wp2_with (go_at_call 32; refine (within_t _ _ _ _ (by omega) (by omega)).mono ?_; rintro e w' ⟨rfl, rfl⟩)
    go_ret
    exact ⟨rfl, rfl⟩
  · have ik : ∀ w, (Instr.index 65 (.agg #[.string { data := #[] }, .string { data := #[110, 101, 119] }, .string { data := #[98, 114, 111, 107, 101, 110] }, .string { data := #[114, 111, 117, 110, 100] }, .string { data := #[102, 97, 99, 101, 116] }, .string { data := #[104, 111, 97, 114] }, .string { data := #[109, 101, 108, 116] }]) (.int .i64 5)).run Try.prog w = .ok (.string { data := #[104, 111, 97, 114] }) w := fun _ => by kernel_rfl
    have ik2 : ∀ w, (Instr.index 65 (.agg #[.string ByteArray.empty, .string { data := #[110, 101, 119] }, .string { data := #[98, 114, 111, 107, 101, 110] }, .string { data := #[114, 111, 117, 110, 100] }, .string { data := #[102, 97, 99, 101, 116] }, .string { data := #[104, 111, 97, 114] }, .string { data := #[109, 101, 108, 116] }]) (.int .i64 5)).run Try.prog w = .ok (.string { data := #[104, 111, 97, 114] }) w := fun _ => by kernel_rfl
    go_enter Try.func24, Try.ntmps24
    go_wp2_with (go_at_call 32; refine (within_t _ _ _ _ (by omega) (by omega)).mono ?_; rintro e w' ⟨rfl, rfl⟩)
    go_ret
    exact ⟨rfl, rfl⟩
  · have ik : ∀ w, (Instr.index 65 (.agg #[.string { data := #[] }, .string { data := #[110, 101, 119] }, .string { data := #[98, 114, 111, 107, 101, 110] }, .string { data := #[114, 111, 117, 110, 100] }, .string { data := #[102, 97, 99, 101, 116] }, .string { data := #[104, 111, 97, 114] }, .string { data := #[109, 101, 108, 116] }]) (.int .i64 6)).run Try.prog w = .ok (.string { data := #[109, 101, 108, 116] }) w := fun _ => by kernel_rfl
    have ik2 : ∀ w, (Instr.index 65 (.agg #[.string ByteArray.empty, .string { data := #[110, 101, 119] }, .string { data := #[98, 114, 111, 107, 101, 110] }, .string { data := #[114, 111, 117, 110, 100] }, .string { data := #[102, 97, 99, 101, 116] }, .string { data := #[104, 111, 97, 114] }, .string { data := #[109, 101, 108, 116] }]) (.int .i64 6)).run Try.prog w = .ok (.string { data := #[109, 101, 108, 116] }) w := fun _ => by kernel_rfl
    go_enter Try.func24, Try.ntmps24
    go_wp2_with (go_at_call 32; refine (within_t _ _ _ _ (by omega) (by omega)).mono ?_; rintro e w' ⟨rfl, rfl⟩)
    go_ret
    exact ⟨rfl, rfl⟩
end Go.Proofs.Ytlfjjdglffiinaa
