/-
  Draws of maxima, of values and of years.
-/
import Derived.Test.YtbakmcjngadebaaDrawV
namespace Go.Proofs.Ytbakmcjngadebaa
open Go.ChangeShapes Go.WideShapes Go.ChangeAt Go.RowKit Go.Deep
set_option linter.unusedVariables false

theorem grown_new {w wr w' : World} {r r' : Option Nat} (h : w.grownBy wr r) (h' : wr.grownBy w' r') (hr : ∀ g, r' = some g → w.heap.size ≤ g) : w.grownBy w' r :=
  ⟨h'.os.trans h.os, h'.tape.trans h.tape, h'.output.trans h.output, Nat.le_trans h.size h'.size, fun k hk hne => (h'.block k (Nat.lt_of_lt_of_le hk h.size) (fun e => by have := hr k e.symm; omega)).trans (h.block k hk hne)⟩
theorem grown_below {w wr w' : World} {r : Option Nat} (h : w.grownBy wr r) (hb : Below wr.heap.size wr w') : w.grownBy w' r :=
  ⟨hb.os.trans h.os, hb.tape.trans h.tape, hb.output.trans h.output, Nat.le_trans h.size hb.size, fun k hk hne => (hb.block k (Nat.lt_of_lt_of_le hk h.size)).trans (h.block k hk hne)⟩
theorem Bag.below {w w' : World} {B j : Nat} {lo hi : Int} {o : Value} {xs : List Int} (h : Bag w B j lo hi o xs) (hb : Below w.heap.size w w') : Bag w' B j lo hi o xs := ⟨own_below h.1 hb, h.2⟩
/-- One number appended to a list under way. -/
theorem bag_step {w wr w4 : World} {q m B j : Nat} {lo hi y : Int} {o v' : Value} {xs : List Int} (hs : SrcP wr q m) (hg : w.grownBy wr (some q)) (hbag : Bag wr B j lo hi o xs) (hy : lo ≤ y ∧ y ≤ hi) (hq : q < B) (hB : w.heap.size ≤ B)
    (hown : w4.ownsRow B 2 1 v' (j + 1) ((xs ++ [y]).map (.int .i64))) (hgrow : wr.grownBy w4 o.ownBlock) : SrcP w4 q m ∧ w.grownBy w4 (some q) ∧ Bag w4 B (j + 1) lo hi v' (xs ++ [y]) :=
  ⟨hs.grow hgrow (fun g hg => by have := own_blk hbag.1 g hg; omega), grown_new hg hgrow (fun g hg => by have := own_blk hbag.1 g hg; omega), hown, Bag.snoc hbag.2 hy⟩
/-- A slice of zeros just made. -/
theorem bag_made (w : World) (B m : Nat) (lo hi : Int) (hB : B ≤ w.heap.size) (hm : m ≤ 1048576) (h0 : lo ≤ 0 ∧ 0 ≤ hi) :
    Bag (w.alloc (.cells (madeCells #[.int .i64 0] m) 2)) B m lo hi (.slice (some ⟨w.heap.size, 0, none⟩) m m) ((List.range m).map fun _ => 0) :=
  ⟨rowIs_to_own (by simpa using World.rowIs_made w (.int .i64 0) m 2) hB (Nat.le_refl _) (by unfold maxLen; omega) (by simp) (fun j hj => by
    have hj' : j < m := by omega
    simp [hj']), by
    intro x hx
    simp at hx
    omega⟩
/-- A draw that gives a list of numbers. -/
def ListD (w : World) (lo hi : Int) (most : Nat) (e : Ending) (w' : World) : Prop :=
  ∃ (A : Option Addr) (n c : Nat) (xs : List Int), e = .returned (.slice A n c) ∧ Bag w' w.heap.size n lo hi (.slice A n c) xs ∧ n ≤ most
set_option maxRecDepth 100000 in
set_option maxHeartbeats 2000000 in
theorem l16DrawMaxima_d (q m : Nat) (w : World) (h : SrcP w q m) (hm : m ≤ 10000000000) :
    Calls Try.prog 97 #[.pointer (some ⟨q, 0, none⟩)] w fun e w' => ListD w (-1) 1000000000001 65 e w' ∧ SrcP w' q (m + 30) ∧ w.grownBy w' (some q) := by
  have hq := h.lt
  have HH := Lib.hid h
  clear h
  have hown0 := World.ownsRow_lit (base := w.heap.size) (e := 2) (size := 1) w #[] 0 (Nat.le_refl _) (by simp) rfl
  have hba : Below w.heap.size w (w.alloc (.cells #[] 2)) := (Below.refl _ _).alloc (Nat.le_refl _) _
  have H0 := Lib.hid (And.intro (HH.out.below hba) (And.intro hba hown0))
  clear hown0 hba
  go_enter Try.func97, Try.ntmps97
  go_wp2_with fail
  refine (pick_p _ _ 10 _ H0.out.1 (by omega) (by omega)).mono ?_
  rintro e w2 ⟨⟨x, rfl, hx1, hx2⟩, hs2, hg2⟩
  have hx3 : x ≤ 9 := by omega
  have HB2 := Lib.hid (And.intro hs2 (And.intro ((grown_below (World.grownBy.refl w (some q)) H0.out.2.1).trans hg2) (H0.out.2.2.kept hg2 (.inr fun e => by have := own_blk H0.out.2.2 _ e; omega))))
  clear hs2 hg2 hx2
  go_wp2_with fail
  go_loopw [3, 4] (fun o kv wr => ∃ (k j : Nat) (xs : List Int), (k : Int) + j ≤ 9 ∧ kv = .int .i64 k ∧ SrcP wr q (m + 2 + 2 * j) ∧ w.grownBy wr (some q) ∧ Bag wr w.heap.size j (-1) 1000000000001 o xs ∧ w.heap.size ≤ wr.heap.size) (fun _ kv _ => (intOf kv).toNat)
  case atStart =>
    obtain ⟨k, rfl⟩ : ∃ k : Nat, x = k := ⟨x.toNat, by omega⟩
    exact ⟨k, 0, [], by omega, rfl, HB2.out.1, HB2.out.2.1, ⟨HB2.out.2.2, by simp⟩, HB2.out.2.1.size⟩
  case round =>
    clear hx1 hx3 HB2
    obtain ⟨k, j, xs, hkj, rfl, hs, hgr, hbag, hz⟩ := hrel
    have HR := Lib.hid (And.intro hs (And.intro hgr hbag))
    clear hs hgr hbag
    by_cases hk : 0 < k
    · have hki : (0 : Int) < (k : Int) := by omega
      go_wp2_with fail
      refine (pick_p _ _ 40 _ HR.out.1 (by omega) (by omega)).mono ?_
      rintro e w3 ⟨⟨y, rfl, hy1, hy2⟩, hs3, hg3⟩
      have hy3 : -1 ≤ 5 * y ∧ 5 * y ≤ 1000000000001 := by omega
      have hy4 : y < 40 := by omega
      have hz3 := hg3.size
      have H3 := Lib.hid (And.intro hs3 (And.intro (HR.out.2.1.trans hg3) (HR.out.2.2.src hg3 hq)))
      clear hs3 hg3 hy2
      go_wp2_with (at_builtin; refine wp_app_int rfl (.tmp 12) (.tmp 16) 22 rfl w.heap.size 2 Try.underlying22 info_int _ _ xs (5 * y) rfl H3.out.2.2.1 rfl (by omega) (by omega) ?_; intro v' w4 hown4 hgrow4 hv4)
      have hz4 := hgrow4.size
      have HF := Lib.hid (bag_step H3.out.1 H3.out.2.1 H3.out.2.2 hy3 hq (Nat.le_refl _) hown4 hgrow4)
      clear hown4 hgrow4
      go_wp2_with fail
      go_roundw
      case rel => exact ⟨k - 1, j + 1, xs ++ [5 * y], by omega, by rw [show ((k - 1 : Nat) : Int) = (k : Int) - 1 by omega], HF.out.1, HF.out.2.1, HF.out.2.2, by omega⟩
      case measure => simp [intOf]; omega
    · obtain rfl : k = 0 := by omega
      go_wp2_with fail
      refine (pick_p _ _ 18 _ HR.out.1 (by omega) (by omega)).mono ?_
      rintro e w5 ⟨⟨z, rfl, hz1, hz2⟩, hs5, hg5⟩
      have hz5 := hg5.size
      have H5 := Lib.hid (And.intro hs5 (And.intro (HR.out.2.1.trans hg5) (HR.out.2.2.src hg5 hq)))
      clear hs5 hg5
      by_cases hz0 : z = 0
      · subst hz0
        go_wp2_with fail
        refine (among_lit _ _ [-1, 0, 1000000000000, 1000000000001] _ _ _ _ _ H5.out.1 (by omega) rfl rfl (by decide) (by decide) (by decide)).mono ?_
        rintro e w3 ⟨⟨y, hy, rfl⟩, hs3, hg3⟩
        have hy3 : -1 ≤ y ∧ y ≤ 1000000000001 := by
          simp only [List.mem_cons, List.not_mem_nil, or_false] at hy
          omega
        have hz3 := hg3.size
        have H3 := Lib.hid (And.intro hs3 (And.intro (H5.out.2.1.trans hg3) (H5.out.2.2.src hg3 hq)))
        clear hs3 hg3 hy
        go_wp2_with (at_builtin; refine wp_app_int rfl (.tmp 22) (.tmp 26) 22 rfl w.heap.size 2 Try.underlying22 info_int _ _ xs y rfl H3.out.2.2.1 rfl (by omega) (by omega) ?_; intro v' w4 hown4 hgrow4 hv4)
        obtain ⟨g, cc, rfl⟩ := hv4
        have HF := Lib.hid (bag_step H3.out.1 H3.out.2.1 H3.out.2.2 hy3 hq (Nat.le_refl _) hown4 hgrow4)
        clear hown4 hgrow4
        go_wp2_with fail
        go_ret
        exact ⟨⟨_, _, _, _, rfl, HF.out.2.2, by omega⟩, HF.out.1.mono (by omega), HF.out.2.1⟩
      · by_cases hz1' : z = 1
        · subst hz1'
          go_wp2_with fail
          refine (among_lit _ _ [64, 65] _ _ _ _ _ H5.out.1 (by omega) rfl rfl (by decide) (by decide) (by decide)).mono ?_
          rintro e w3 ⟨⟨y, hy, rfl⟩, hs3, hg3⟩
          have hy3 : ∃ m : Nat, y = (m : Int) ∧ m ≤ 65 := by
            simp only [List.mem_cons, List.not_mem_nil, or_false] at hy
            exact ⟨y.toNat, by omega, by omega⟩
          obtain ⟨mm, rfl, hm65⟩ := hy3
          have hz3 := hg3.size
          have H3 := Lib.hid (And.intro hs3 (H5.out.2.1.trans hg3))
          clear hs3 hg3 hy
          have hmk := fun W => run_make_row' (P := Try.prog) 22 2 (.int .i64 0) 8 Try.underlying22 info_int rfl .i64 .i64 mm (by omega) (by omega) W
          go_wp2_with fail
          clear hmk
          go_ret
          have hba : Below w3.heap.size w3 (w3.alloc (.cells (madeCells #[.int .i64 0] mm) 2)) := (Below.refl _ _).alloc (Nat.le_refl _) _
          exact ⟨⟨_, _, _, _, rfl, bag_made w3 w.heap.size mm _ _ (by omega) (by omega) (by omega), hm65⟩, (H3.out.1.below hba).mono (by omega), grown_below H3.out.2 hba⟩
        · obtain ⟨A', c', rfl, _⟩ := own_form H5.out.2.2.1
          go_wp2_with fail
          go_ret
          exact ⟨⟨_, _, _, _, rfl, H5.out.2.2, by omega⟩, H5.out.1.mono (by omega), H5.out.2.1⟩
/-- A draw that gives a list and a number. -/
def ListNum (lo hi lo2 hi2 : Int) (most : Nat) (e : Ending) (w' : World) : Prop :=
  ∃ (t : Int) (A : Option Addr) (m c : Nat) (xs : List Int), e = .returned (.tuple #[.slice A m c, .int .i64 t]) ∧ (lo2 ≤ t ∧ t ≤ hi2) ∧ Ints w' A m xs ∧ m ≤ most ∧ ∀ x ∈ xs, lo ≤ x ∧ x ≤ hi
set_option maxRecDepth 100000 in
theorem DrawReturnYears_d (A : Option Addr) (n c : Nat) (w : World) (h : Byts w A n) :
    Calls Try.prog 55 #[.slice A n c] w fun e w' => ListNum (-1) 1000000000001 (-1) 1000000000001 65 e w' ∧ Below w.heap.size w w' := by
  have HH := Lib.hid h
  clear h
  go_enter Try.func55, Try.ntmps55
  go_wp2_with fail
  refine (from_p _ _ _ _ HH.out).mono ?_
  rintro e w1 ⟨rfl, hs1, hb1⟩
  have hq1 := hs1.lt
  have H1 := Lib.hid (And.intro hs1 hb1)
  clear hs1 hb1
  go_wp2_with fail
  refine (l16DrawMaxima_d _ _ _ H1.out.1 (by omega)).mono ?_
  rintro e w2 ⟨⟨A2, n2, c2, xs, rfl, hbag, hn2⟩, hs2, hg2⟩
  have H2 := Lib.hid (And.intro hs2 (And.intro (H1.out.2.grown hg2 H1.out.2.size (fun k hk => by injection hk with e; omega)) hbag))
  clear hs2 hg2 hbag
  go_wp2_with fail
  refine (one_p _ _ 9 _ H2.out.1 (by omega) (by omega)).mono ?_
  rintro e w3 ⟨⟨b, rfl⟩, hs3, hg3⟩
  have H3 := Lib.hid (And.intro hs3 (And.intro (H2.out.2.1.grown hg3 H2.out.2.1.size (fun k hk => by injection hk with e; omega)) (H2.out.2.2.src hg3 hq1)))
  clear hs3 hg3
  cases b
  · go_wp2_with fail
    refine (pick_p _ _ 40 _ H3.out.1 (by omega) (by omega)).mono ?_
    rintro e w4 ⟨⟨y, rfl, hy1, hy2⟩, hs4, hg4⟩
    have hy4 : y < 40 := by omega
    have H4 := Lib.hid (And.intro (H3.out.2.1.grown hg4 H3.out.2.1.size (fun k hk => by injection hk with e; omega)) (H3.out.2.2.src hg4 hq1))
    clear hs4 hg4 hy2
    go_wp2_with fail
    go_ret2
    exact ⟨⟨5 * y, A2, n2, c2, xs, rfl, by omega, Ints.of_own H4.out.2.1 (fun y hy => by have := H4.out.2.2 y hy; omega), hn2, H4.out.2.2⟩, H4.out.1⟩
  · go_wp2_with fail
    refine (among_lit _ _ [-1, 0, 1000000000000, 1000000000001] _ _ _ _ _ H3.out.1 (by omega) rfl rfl (by decide) (by decide) (by decide)).mono ?_
    rintro e w4 ⟨⟨y, hy, rfl⟩, hs4, hg4⟩
    have hy3 : -1 ≤ y ∧ y ≤ 1000000000001 := by
      simp only [List.mem_cons, List.not_mem_nil, or_false] at hy
      omega
    have H4 := Lib.hid (And.intro (H3.out.2.1.grown hg4 H3.out.2.1.size (fun k hk => by injection hk with e; omega)) (H3.out.2.2.src hg4 hq1))
    clear hs4 hg4 hy
    go_wp2_with fail
    go_ret2
    exact ⟨⟨y, A2, n2, c2, xs, rfl, hy3, Ints.of_own H4.out.2.1 (fun y hy => by have := H4.out.2.2 y hy; omega), hn2, H4.out.2.2⟩, H4.out.1⟩
set_option maxRecDepth 100000 in
theorem DrawValueOfYears_d (A : Option Addr) (n c : Nat) (w : World) (h : Byts w A n) :
    Calls Try.prog 56 #[.slice A n c] w fun e w' => ListNum (-1) 1000000000001 99 10001 65 e w' ∧ Below w.heap.size w w' := by
  have HH := Lib.hid h
  clear h
  go_enter Try.func56, Try.ntmps56
  go_wp2_with fail
  refine (from_p _ _ _ _ HH.out).mono ?_
  rintro e w1 ⟨rfl, hs1, hb1⟩
  have hq1 := hs1.lt
  have H1 := Lib.hid (And.intro hs1 hb1)
  clear hs1 hb1
  go_wp2_with fail
  refine (l16DrawMaxima_d _ _ _ H1.out.1 (by omega)).mono ?_
  rintro e w2 ⟨⟨A2, n2, c2, xs, rfl, hbag, hn2⟩, hs2, hg2⟩
  have H3 := Lib.hid (And.intro hs2 (And.intro (H1.out.2.grown hg2 H1.out.2.size (fun k hk => by injection hk with e; omega)) hbag))
  clear hs2 hg2 hbag
  go_wp2_with fail
  refine (among_lit _ _ [100, 110, 200, 300, 500, 1000, 10000, 10001, 99] _ _ _ _ _ H3.out.1 (by omega) rfl rfl (by decide) (by decide) (by decide)).mono ?_
  rintro e w4 ⟨⟨y, hy, rfl⟩, hs4, hg4⟩
  have hy3 : 99 ≤ y ∧ y ≤ 10001 := by
    simp only [List.mem_cons, List.not_mem_nil, or_false] at hy
    omega
  have H4 := Lib.hid (And.intro (H3.out.2.1.grown hg4 H3.out.2.1.size (fun k hk => by injection hk with e; omega)) (H3.out.2.2.src hg4 hq1))
  clear hs4 hg4 hy
  go_wp2_with fail
  go_ret2
  exact ⟨⟨y, A2, n2, c2, xs, rfl, hy3, Ints.of_own H4.out.2.1 (fun y hy => by have := H4.out.2.2 y hy; omega), hn2, H4.out.2.2⟩, H4.out.1⟩
end Go.Proofs.Ytbakmcjngadebaa
