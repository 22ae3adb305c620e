/-
  Draws of slabs and of masses to be divided.
-/
import Derived.Test.YtbakmcjngadebaaDrawN
import Derived.Test.YtbakmcjngadebaaSl
namespace Go.Proofs.Ytbakmcjngadebaa
open Go.ChangeShapes Go.WideShapes Go.ChangeAt Go.RowKit Go.Deep
set_option linter.unusedVariables false

/-- A draw that gives three numbers. -/
def Tri (lo hi : Int) (e : Ending) : Prop := ∃ a b c : Int, e = .returned (.tuple #[.int .i64 a, .int .i64 b, .int .i64 c]) ∧ (lo ≤ a ∧ a ≤ hi) ∧ (lo ≤ b ∧ b ≤ hi) ∧ (lo ≤ c ∧ c ≤ hi)
theorem DrawSlabTonnes_d (A : Option Addr) (n c : Nat) (w : World) (h : Byts w A n) :
    Calls Try.prog 44 #[.slice A n c] w fun e w' => Tri (-1) 1000001 e ∧ Below w.heap.size w w' := by
  have HH := Lib.hid h
  clear h
  go_enter Try.func44, Try.ntmps44
  go_wp2_with fail
  refine (from_p _ _ _ _ HH.out).mono ?_
  rintro e w1 ⟨rfl, hs1, hb1⟩
  have H1 := Lib.hid (And.intro hs1 hb1)
  clear hs1 hb1
  go_wp2_with fail
  refine (l12DrawSquares_d _ _ _ H1.out.1 (by omega)).mono ?_
  rintro e w2 ⟨⟨x, rfl, hx1, hx2⟩, hs2, hg2⟩
  have H2 := Lib.hid (And.intro hs2 (H1.out.2.grown hg2 H1.out.2.size (fun k hk => by injection hk with e; omega)))
  clear hs2 hg2
  go_wp2_with fail
  refine (l12DrawDepth_d _ _ _ H2.out.1 (by omega)).mono ?_
  rintro e w3 ⟨⟨y, rfl, hy1, hy2⟩, hs3, hg3⟩
  have H3 := Lib.hid (And.intro hs3 (H2.out.2.grown hg3 H2.out.2.size (fun k hk => by injection hk with e; omega)))
  clear hs3 hg3
  go_wp2_with fail
  refine (l02DrawDensity_d _ _ _ H3.out.1 (by omega)).mono ?_
  rintro e w4 ⟨⟨z, rfl, hz1, hz2⟩, hs4, hg4⟩
  have H4 := Lib.hid (H3.out.2.grown hg4 H3.out.2.size (fun k hk => by injection hk with e; omega))
  clear hs4 hg4
  go_wp2_with fail
  go_ret3
  exact ⟨⟨x, y, z, rfl, by omega, by omega, by omega⟩, H4.out⟩
/-- A list of numbers under way in memory made behind the source. -/
def Bag (w : World) (B j : Nat) (lo hi : Int) (o : Value) (xs : List Int) : Prop := w.ownsRow B 2 1 o j (xs.map (.int .i64)) ∧ ∀ x ∈ xs, lo ≤ x ∧ x ≤ hi
theorem Bag.src {w w' : World} {B j q : Nat} {lo hi : Int} {o : Value} {xs : List Int} (h : Bag w B j lo hi o xs) (hg : w.grownBy w' (some q)) (hq : q < B) : Bag w' B j lo hi o xs :=
  ⟨h.1.kept hg (.inr fun e => by have := own_blk h.1 _ e; omega), h.2⟩
theorem Bag.snoc {xs : List Int} {lo hi x : Int} (h : ∀ y ∈ xs, lo ≤ y ∧ y ≤ hi) (hx : lo ≤ x ∧ x ≤ hi) : ∀ y ∈ xs ++ [x], lo ≤ y ∧ y ≤ hi := by
  intro y hy
  rw [List.mem_append] at hy
  rcases hy with hy | hy
  · exact h y hy
  · simp at hy
    subst hy
    exact hx
/-- A draw that gives a number and a list. -/
def NumList (lo hi lo2 hi2 : Int) (most : Nat) (e : Ending) (w' : World) : Prop :=
  ∃ (t : Int) (A : Option Addr) (m c : Nat) (xs : List Int), e = .returned (.tuple #[.int .i64 t, .slice A m c]) ∧ (lo ≤ t ∧ t ≤ hi) ∧ Ints w' A m xs ∧ m ≤ most ∧ ∀ x ∈ xs, lo2 ≤ x ∧ x ≤ hi2
set_option maxRecDepth 100000 in
set_option maxHeartbeats 2000000 in
theorem DrawSplitTonnes_d (A : Option Addr) (n c : Nat) (w : World) (h : Byts w A n) :
    Calls Try.prog 51 #[.slice A n c] w fun e w' => NumList (-1) 100000001 (-1) 1001 65 e w' ∧ Below w.heap.size w w' := by
  have HH := Lib.hid h
  clear h
  have hmk64 := fun W => run_make_row' (P := Try.prog) 22 2 (.int .i64 0) 8 Try.underlying22 info_int rfl .i64 .i64 64 (by omega) (by omega) W
  have hmk65 := fun W => run_make_row' (P := Try.prog) 22 2 (.int .i64 0) 8 Try.underlying22 info_int rfl .i64 .i64 65 (by omega) (by omega) W
  have HM := Lib.hid (And.intro hmk64 hmk65)
  clear hmk64 hmk65
  go_enter Try.func51, Try.ntmps51
  go_wp2_with fail
  refine (from_p _ _ _ _ HH.out).mono ?_
  rintro e w1 ⟨rfl, hs1, hb1⟩
  have hq1 := hs1.lt
  have H1 := Lib.hid (And.intro hs1 hb1)
  clear hs1 hb1
  go_wp2_with fail
  have hown0 := World.ownsRow_lit (base := w.heap.size + 1) (e := 2) (size := 1) w1 #[] 0 hq1 (by simp) rfl
  have hba : Below w1.heap.size w1 (w1.alloc (.cells #[] 2)) := (Below.refl _ _).alloc (Nat.le_refl _) _
  refine (pick_p _ _ 6 _ (H1.out.1.below hba) (by omega) (by omega)).mono ?_
  rintro e w2 ⟨⟨x, rfl, hx1, hx2⟩, hs2, hg2⟩
  have hx3 : x ≤ 5 := by omega
  have HB2 := Lib.hid (And.intro hs2 (And.intro ((H1.out.2.trans (hba.mono H1.out.2.size)).grown hg2 (by simp; omega) (fun k hk => by injection hk with e; omega)) (hown0.kept hg2 (.inr fun e => by have := own_blk hown0 _ e; omega))))
  clear hs2 hg2 hx2 hown0 hba
  go_wp2_with fail
  go_loopw [5, 6] (fun o kv wr => ∃ (k j : Nat) (xs : List Int), (k : Int) + j ≤ 5 ∧ kv = .int .i64 k ∧ SrcP wr w.heap.size (2 + 2 * j) ∧ Below w.heap.size w wr ∧ Bag wr (w.heap.size + 1) j (-1) 1001 o xs ∧ w.heap.size + 1 ≤ wr.heap.size) (fun _ kv _ => (intOf kv).toNat)
  case atStart =>
    obtain ⟨k, rfl⟩ : ∃ k : Nat, x = k := ⟨x.toNat, by omega⟩
    exact ⟨k, 0, [], by omega, rfl, HB2.out.1, HB2.out.2.1, ⟨HB2.out.2.2, by simp⟩, by have := HB2.out.1.lt; omega⟩
  case round =>
    clear hx1 hx3 HB2
    obtain ⟨k, j, xs, hkj, rfl, hs, hbl, hbag, hz⟩ := hrel
    have HR := Lib.hid (And.intro hs (And.intro hbl hbag))
    clear hs hbl hbag
    by_cases hk : 0 < k
    · have hki : (0 : Int) < (k : Int) := by omega
      go_wp2_with fail
      refine (among_lit _ _ [0, 1, 1, 3, 50] _ _ _ _ _ HR.out.1 (by omega) rfl rfl (by decide) (by decide) (by decide)).mono ?_
      rintro e w3 ⟨⟨y, hy, rfl⟩, hs3, hg3⟩
      have hy3 : -1 ≤ y ∧ y ≤ 1001 := by
        simp only [List.mem_cons, List.not_mem_nil, or_false] at hy
        omega
      have hz3 := hg3.size
      have H3 := Lib.hid (And.intro hs3 (And.intro (HR.out.2.1.grown hg3 HR.out.2.1.size (fun k hk => by injection hk with e; omega)) (HR.out.2.2.src hg3 (by omega))))
      clear hs3 hg3 hy
      go_wp2_with (at_builtin; refine wp_app_int rfl (.tmp 16) (.tmp 20) 22 rfl (w.heap.size + 1) 2 Try.underlying22 info_int _ _ xs y rfl H3.out.2.2.1 rfl (by omega) (by omega) ?_; intro v' w4 hown4 hgrow4 hv4)
      have HF := Lib.hid (And.intro (H3.out.1.grow hgrow4 (fun g hg => by have := own_blk H3.out.2.2.1 g hg; omega)) (And.intro (H3.out.2.1.grown hgrow4 H3.out.2.1.size (fun g hg => by have := own_blk H3.out.2.2.1 g hg; omega)) (show Bag w4 (w.heap.size + 1) (j + 1) (-1) 1001 v' (xs ++ [y]) from ⟨hown4, Bag.snoc H3.out.2.2.2 hy3⟩)))
      have hz4 := hgrow4.size
      clear hown4 hgrow4
      go_wp2_with fail
      go_roundw
      case rel => exact ⟨k - 1, j + 1, xs ++ [y], by omega, by rw [show ((k - 1 : Nat) : Int) = (k : Int) - 1 by omega], HF.out.1, HF.out.2.1, HF.out.2.2, by omega⟩
      case measure => simp [intOf]; omega
    · obtain rfl : k = 0 := by omega
      go_wp2_with fail
      refine (pick_p _ _ 16 _ HR.out.1 (by omega) (by omega)).mono ?_
      rintro e w5 ⟨⟨z, rfl, hz1, hz2⟩, hs5, hg5⟩
      have hz5 := hg5.size
      have H5 := Lib.hid (And.intro hs5 (And.intro (HR.out.2.1.grown hg5 HR.out.2.1.size (fun k hk => by injection hk with e; omega)) (HR.out.2.2.src hg5 (by omega))))
      clear hs5 hg5
      by_cases hz0 : z = 0
      · subst hz0
        go_wp2_with fail
        refine (among_lit _ _ [-1, 1000, 1001] _ _ _ _ _ H5.out.1 (by omega) rfl rfl (by decide) (by decide) (by decide)).mono ?_
        rintro e w3 ⟨⟨y, hy, rfl⟩, hs3, hg3⟩
        have hy3 : -1 ≤ y ∧ y ≤ 1001 := by
          simp only [List.mem_cons, List.not_mem_nil, or_false] at hy
          omega
        have hz3 := hg3.size
        have H3 := Lib.hid (And.intro hs3 (And.intro (H5.out.2.1.grown hg3 H5.out.2.1.size (fun k hk => by injection hk with e; omega)) (H5.out.2.2.src hg3 (by omega))))
        clear hs3 hg3 hy
        go_wp2_with (at_builtin; refine wp_app_int rfl (.tmp 26) (.tmp 30) 22 rfl (w.heap.size + 1) 2 Try.underlying22 info_int _ _ xs y rfl H3.out.2.2.1 rfl (by omega) (by omega) ?_; intro v' w4 hown4 hgrow4 hv4)
        have HF := Lib.hid (And.intro (H3.out.1.grow hgrow4 (fun g hg => by have := own_blk H3.out.2.2.1 g hg; omega)) (And.intro (H3.out.2.1.grown hgrow4 H3.out.2.1.size (fun g hg => by have := own_blk H3.out.2.2.1 g hg; omega)) (show Bag w4 (w.heap.size + 1) (j + 1) (-1) 1001 v' (xs ++ [y]) from ⟨hown4, Bag.snoc H3.out.2.2.2 hy3⟩)))
        clear hown4 hgrow4
        go_wp2_with fail
        refine (l12DrawTonnes_d _ _ _ HF.out.1 (by omega)).mono ?_
        rintro e w9 ⟨⟨t, rfl, ht1, ht2⟩, hs9, hg9⟩
        have H9 := Lib.hid (And.intro (HF.out.2.1.grown hg9 HF.out.2.1.size (fun k hk => by injection hk with e; omega)) (HF.out.2.2.src hg9 (by omega)))
        clear hs9 hg9
        obtain ⟨A', c', hv, _⟩ := own_form H9.out.2.1
        subst hv
        go_wp2_with fail
        go_ret2
        exact ⟨⟨t, A', _, c', _, rfl, by omega, Ints.of_own H9.out.2.1 (fun y hy => by have := H9.out.2.2 y hy; omega), by omega, H9.out.2.2⟩, H9.out.1⟩
      · by_cases hz1' : z = 1
        · subst hz1'
          go_wp2_with fail
          refine (among_lit _ _ [64, 65] _ _ _ _ _ H5.out.1 (by omega) rfl rfl (by decide) (by decide) (by decide)).mono ?_
          rintro e w3 ⟨⟨y, hy, rfl⟩, hs3, hg3⟩
          have hy3 : ∃ m : Nat, y = (m : Int) ∧ m ≤ 65 := by
            simp only [List.mem_cons, List.not_mem_nil, or_false] at hy
            exact ⟨y.toNat, by omega, by omega⟩
          obtain ⟨m, rfl, hm65⟩ := hy3
          have hz3 := hg3.size
          have H3 := Lib.hid (And.intro hs3 (H5.out.2.1.grown hg3 H5.out.2.1.size (fun k hk => by injection hk with e; omega)))
          clear hs3 hg3 hy
          have hmk := fun W => run_make_row' (P := Try.prog) 22 2 (.int .i64 0) 8 Try.underlying22 info_int rfl .i64 .i64 m (by omega) (by omega) W
          go_wp2_with fail
          clear hmk
          have hba : Below w3.heap.size w3 (w3.alloc (.cells (madeCells #[.int .i64 0] m) 2)) := (Below.refl _ _).alloc (Nat.le_refl _) _
          have HO := Lib.hid (show Bag (w3.alloc (.cells (madeCells #[.int .i64 0] m) 2)) (w.heap.size + 1) m (-1) 1001 (.slice (some ⟨w3.heap.size, 0, none⟩) m m) ((List.range m).map fun _ => 0) from
            ⟨rowIs_to_own (by simpa using World.rowIs_made w3 (.int .i64 0) m 2) (by omega) (Nat.le_refl _) (by unfold maxLen; omega) (by simp) (fun j hj => by
              have hj' : j < m := by omega
              simp [hj']), by
              intro x hx
              simp at hx
              omega⟩)
          have HF := Lib.hid (And.intro (H3.out.1.below hba) (And.intro (H3.out.2.trans (hba.mono H3.out.2.size)) HO.out))
          clear hba
          refine (l12DrawTonnes_d _ _ _ HF.out.1 (by omega)).mono ?_
          rintro e w9 ⟨⟨t, rfl, ht1, ht2⟩, hs9, hg9⟩
          have H9 := Lib.hid (And.intro (HF.out.2.1.grown hg9 HF.out.2.1.size (fun k hk => by injection hk with e; omega)) (HF.out.2.2.src hg9 (by omega)))
          clear hs9 hg9
          go_wp2_with fail
          go_ret2
          exact ⟨⟨t, some ⟨w3.heap.size, 0, none⟩, _, m, _, rfl, by omega, Ints.of_own H9.out.2.1 (fun y hy => by have := H9.out.2.2 y hy; omega), by omega, H9.out.2.2⟩, H9.out.1⟩
        · go_wp2_with fail
          refine (l12DrawTonnes_d _ _ _ H5.out.1 (by omega)).mono ?_
          rintro e w9 ⟨⟨t, rfl, ht1, ht2⟩, hs9, hg9⟩
          have H9 := Lib.hid (And.intro (H5.out.2.1.grown hg9 H5.out.2.1.size (fun k hk => by injection hk with e; omega)) (H5.out.2.2.src hg9 (by omega)))
          clear hs9 hg9
          obtain ⟨A', c', hv, _⟩ := own_form H9.out.2.1
          subst hv
          go_wp2_with fail
          go_ret2
          exact ⟨⟨t, A', _, c', _, rfl, by omega, Ints.of_own H9.out.2.1 (fun y hy => by have := H9.out.2.2 y hy; omega), by omega, H9.out.2.2⟩, H9.out.1⟩
end Go.Proofs.Ytbakmcjngadebaa
