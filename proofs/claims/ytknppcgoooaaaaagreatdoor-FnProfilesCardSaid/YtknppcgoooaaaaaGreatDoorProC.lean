/-
  slices.Concat at lists of layers.
-/
import Derived.Test.YtknppcgoooaaaaaGreatDoorLyX
import Derived.Test.YtknppcgoooaaaaaGreatDoorGrowS
import Derived.Deep.DeepCutAuto
namespace Go.Proofs.YtknppcgoooaaaaaGreatDoor
open Go.ChangeShapes Go.WideShapes Go.ChangeAt Go.RowKit Go.Deep
set_option linter.unusedVariables false

/-- A part to be joined: a slice that reads as layers. -/
structure LPart where
  a : Addr
  n : Nat
  c : Nat
  ls : List Ly
def LPart.val (p : LPart) : Value := .slice (some p.a) p.n p.c
def totP (ps : List LPart) : Nat := (ps.map LPart.n).sum
def flatP (ps : List LPart) : List Ly := (ps.map LPart.ls).flatten
def PartsL (w : World) (B : Nat) (ps : List LPart) : Prop := ∀ (j : Nat) (p : LPart), ps[j]? = some p → w.cell? ⟨B, j, none⟩ = some p.val ∧ Lys w (some p.a) p.n p.ls
theorem PartsL.below {w w' : World} {B : Nat} {ps : List LPart} (h : PartsL w B ps) (hb : Below w.heap.size w w') : PartsL w' B ps :=
  fun j p hp => ⟨cell_kept hb (h j p hp).1, (h j p hp).2.below hb⟩
theorem totP_snoc {ps : List LPart} {k : Nat} {p : LPart} (h : ps[k]? = some p) : totP (ps.take (k + 1)) = totP (ps.take k) + p.n := by
  have hlt := (List.getElem?_eq_some_iff.1 h).1
  have he := (List.getElem?_eq_some_iff.1 h).2
  rw [List.take_add_one, h]
  simp [totP]
theorem flatP_snoc {ps : List LPart} {k : Nat} {p : LPart} (h : ps[k]? = some p) : flatP (ps.take (k + 1)) = flatP (ps.take k) ++ p.ls := by
  rw [List.take_add_one, h]
  simp [flatP]
theorem totP_le (ps : List LPart) (k : Nat) : totP (ps.take k) ≤ totP ps := by
  have : totP ps = totP (ps.take k) + totP (ps.drop k) := by
    unfold totP
    rw [← List.sum_append, ← List.map_append, List.take_append_drop]
  omega
theorem flatP_len {w : World} {B : Nat} {ps : List LPart} (h : PartsL w B ps) : ∀ k, k ≤ ps.length → (flatP (ps.take k)).length = totP (ps.take k) := by
  intro k
  induction k with
  | zero => intro _; simp [flatP, totP]
  | succ k ih =>
    intro hk
    have e : ps[k]? = some ps[k] := List.getElem?_eq_getElem (by omega)
    rw [flatP_snoc e, totP_snoc e, List.length_append, ih (by omega), (h k _ e).2.1]
theorem flatP_ok {w : World} {B : Nat} {ps : List LPart} (h : PartsL w B ps) : ∀ x ∈ flatP ps, LyOk x := by
  intro x hx
  simp only [flatP, List.mem_flatten, List.mem_map] at hx
  obtain ⟨l, ⟨p, hp, rfl⟩, hxl⟩ := hx
  obtain ⟨j, hj⟩ := List.getElem?_of_mem hp
  exact (h j p hj).2.2.2.1 x hxl
theorem lyCells_app (a b : List Ly) : lyCells (a ++ b) = lyCells a ++ lyCells b := by
  have H : ∀ (r a : List Ly), lyCells (a ++ r.reverse) = lyCells a ++ lyCells r.reverse := by
    intro r
    induction r with
    | nil => intro a; simp [lyCells]
    | cons x r ih => intro a; rw [List.reverse_cons, ← List.append_assoc, lyCells_snoc, ih, lyCells_snoc, List.append_assoc]
  have := H b.reverse a
  rwa [List.reverse_reverse] at this
set_option maxRecDepth 100000 in
set_option maxHeartbeats 1600000 in
theorem growLy_t (n : Nat) (w : World) (h0 : 0 < n) (hn : n ≤ 16) :
    Calls Tryz.prog 92 #[.slice none 0 0, .int .i64 (n : Int)] w fun e w' => ∃ c, e = .returned (.slice (some ⟨w.heap.size, 0, none⟩) 0 c) ∧ w'.ownsRow w.heap.size 44 7 (.slice (some ⟨w.heap.size, 0, none⟩) 0 c) 0 [] ∧ Below w.heap.size w w' := by
  obtain ⟨i0, hi, hz0, hz1, hz2⟩ := info_parts info_ly
  refine (Tryz.slices_Grow_grow i0 _ hi hz0 (by omega) none 0 0 n [] w (Nat.le_refl 0) (by omega) (by rw [hz2]; omega) (by omega) (by simp) (fun _ => rfl) (fun a ha => by cases ha)).mono ?_
  rintro e w' ⟨rfl, rfl⟩
  refine ⟨_, rfl, World.ownsRow_made w.drew _ _ (Nat.le_refl _) (grownCap_le_maxLen w _ _ _ (by unfold maxLen; omega)) ?_, ((Below.refl _ _).drew).alloc (Nat.le_refl _) _⟩
  have hge := grownCap_ge w (0 + n) 0 44
  have hz7 : (Value.agg #[.int .i64 0, .int .i64 0, .int .i64 0, .int .i64 0, .int .i64 0, .int .i64 0, .int .i64 0]).cells.size = 7 := rfl
  simp only [Array.size_append, List.size_toArray, size_zeroCells, hz7, List.length_nil]
  omega
set_option maxRecDepth 100000 in
set_option maxHeartbeats 3200000 in
theorem concatLy_t (B m d : Nat) (ps : List LPart) (w : World) (H : PartsL w B ps) (hm : ps.length = m) (hm2 : m ≤ 100) (h0 : 0 < totP ps) (h16 : totP ps ≤ 16) :
    Calls Tryz.prog 66 #[.slice (some ⟨B, 0, none⟩) m d] w fun e w' => ∃ A c, e = .returned (.slice A (totP ps) c) ∧ LBag w' 44 w.heap.size A (totP ps) c (flatP ps) ∧ Below w.heap.size w w' := by
  have HH := Lib.hid H
  have HM := Lib.hid hm
  have HLE := Lib.hid (totP_le ps)
  have HLN := Lib.hid (flatP_len H)
  have HOK := Lib.hid (flatP_ok H)
  clear H hm
  obtain ⟨i0, hi, hz0, hz1, hz2⟩ := info_parts info_ly
  have HI := Lib.hid (And.intro hi (And.intro hz0 (And.intro hz1 hz2)))
  clear hi hz0 hz1 hz2
  go_enter Tryz.func66, Tryz.ntmps66
  go_wp2_with fail
  go_loopw [3, 5, 11] (fun sv _ iv wr => ∃ k : Nat, k ≤ m ∧ iv = .int .i64 k ∧ sv = .int .i64 (totP (ps.take k) : Nat) ∧ w = wr) (fun _ _ iv _ => m - (intOf iv).toNat)
  case atStart => exact ⟨0, Nat.zero_le _, rfl, by simp [totP], rfl⟩
  case round =>
    obtain ⟨k, hk, rfl, rfl, rfl⟩ := hrel
    have hle := HLE.out k
    obtain ⟨S, hS⟩ : ∃ S, S = totP (ps.take k) := ⟨_, rfl⟩
    rw [← hS] at hle ⊢
    have HS := Lib.hid hS
    clear hS
    by_cases hlt : k < m
    · have hki : (k : Int) < (m : Int) := by omega
      have hk' : k < ps.length := by rw [HM.out]; exact hlt
      obtain ⟨p, hp⟩ : ∃ p, ps[k]? = some p := ⟨_, List.getElem?_eq_getElem hk'⟩
      have hc := (HH.out k p hp).1
      unfold LPart.val at hc
      have hle2 := HLE.out (k + 1)
      rw [totP_snoc hp, ← HS.out] at hle2
      have HSN := Lib.hid (show totP (ps.take (k + 1)) = S + p.n by rw [totP_snoc hp, ← HS.out])
      have hneg : ¬ (S : Int) + (p.n : Int) < 0 := by omega
      clear hp hk'
      go_wp2_with fail
      go_roundw
      case rel => exact ⟨k + 1, by omega, by go_num, by rw [HSN.out]; go_num, by first | rfl | trivial⟩
      case measure => simp [intOf]; omega
    · obtain rfl : k = m := by omega
      obtain rfl : S = totP ps := by rw [HS.out, List.take_of_length_le (by rw [HM.out]; exact Nat.le_refl _)]
      clear hlt hle
      go_wp2_with fail
      refine (growLy_t _ _ h0 h16).mono ?_
      rintro e w2 ⟨c2, rfl, ho2, hb2⟩
      have H2 := Lib.hid (And.intro ho2 (And.intro hb2 (HH.out.below hb2)))
      clear ho2 hb2
      go_wp2_with fail
      go_loopw [6, 8, 27] (fun nv _ iv wq => ∃ j : Nat, j ≤ k ∧ iv = .int .i64 j ∧ (∃ A c, nv = .slice A (totP (ps.take j)) c) ∧ Hid (wq.ownsRow w.heap.size 44 7 nv (totP (ps.take j)) (lyCells (flatP (ps.take j)))) ∧ Hid (Below w.heap.size w wq)) (fun _ _ iv _ => k - (intOf iv).toNat)
      case atStart => exact ⟨0, Nat.zero_le _, rfl, by first | exact ⟨_, _, rfl⟩ | exact ⟨none, 0, trivial⟩, H2.out.1, H2.out.2.1⟩
      case round =>
        clear H2
        obtain ⟨j, hj, rfl, ⟨A3, c3, rfl⟩, HO, HB⟩ := hrel
        have hle := HLE.out j
        by_cases hjl : j < k
        · have hji : (j : Int) < (k : Int) := by omega
          have hj' : j < ps.length := by rw [HM.out]; exact hjl
          obtain ⟨p, hp⟩ : ∃ p, ps[j]? = some p := ⟨_, List.getElem?_eq_getElem hj'⟩
          have hc := cell_kept HB.out (HH.out j p hp).1
          unfold LPart.val at hc
          have HPL := Lib.hid (((HH.out j p hp).2.below HB.out))
          have hle2 := HLE.out (j + 1)
          rw [totP_snoc hp] at hle2
          have HSN := Lib.hid (And.intro (totP_snoc hp) (flatP_snoc hp))
          obtain ⟨S, hS⟩ : ∃ S, S = totP (ps.take j) := ⟨_, rfl⟩
          rw [← hS] at hle hle2 HO HSN ⊢
          obtain ⟨F, hF⟩ : ∃ F, F = flatP (ps.take j) := ⟨_, rfl⟩
          rw [← hF] at HO HSN
          have hsz := HB.out.size
          clear hp hj' hS hF
          go_wp2_with (at_builtin; refine wpList_append_own _ rfl _ _ 41 rfl w.heap.size 44 i0 (.agg #[.int .i64 0, .int .i64 0, .int .i64 0, .int .i64 0, .int .i64 0, .int .i64 0, .int .i64 0]) 7 56 Tryz.underlying41 HI.out.1 HI.out.2.1 HI.out.2.2.1 HI.out.2.2.2 rfl (by decide) _ S (lyCells F) rfl HO.out p.a p.n p.c (lyCells p.ls) rfl (by rw [lyCells_length, HPL.out.1]) HPL.out.cells (lyCells_one _) (by unfold maxLen; omega) (by omega) hsz ?_; intro v' w5 hown5 hgrow5 hv5)
          obtain ⟨A', c', rfl, _⟩ := own_form hown5
          have HF := Lib.hid (And.intro hown5 (HB.out.grown hgrow5 hsz (fun g hg => (HO.out.lt g hg).1)))
          clear hown5 hgrow5 hv5
          go_wp2_with fail
          go_roundw
          case rel => exact ⟨j + 1, by omega, by go_num, ⟨A', c', by rw [HSN.out.1]⟩, by rw [HSN.out.1, HSN.out.2, lyCells_app]; exact HF.out.1, HF.out.2⟩
          case measure => simp [intOf]; omega
        · obtain rfl : j = k := by omega
          have ht : ps.take j = ps := List.take_of_length_le (by rw [HM.out]; exact Nat.le_refl _)
          rw [ht] at HO ⊢
          clear hjl hle ht
          go_wp2_with fail
          go_ret
          exact ⟨A3, c3, rfl, LBag.of_own HO.out (by have := HLN.out j (by rw [HM.out]; exact Nat.le_refl _); rwa [List.take_of_length_le (by rw [HM.out]; exact Nat.le_refl _)] at this) h16 HOK.out, HB.out⟩
end Go.Proofs.YtknppcgoooaaaaaGreatDoor
