/-
  Draws of profiles; the law's own small numbers.
-/
import Derived.Test.YtlfjjdglffiinaaLyR
namespace Go.Proofs.Ytlfjjdglffiinaa
open Go.ChangeShapes Go.WideShapes Go.ChangeAt Go.RowKit Go.Deep
set_option linter.unusedVariables false

theorem grown_newL {w wr w' : World} {r r' : Option Nat} (h : w.grownBy wr r) (h' : wr.grownBy w' r') (hr : ∀ g, r' = some g → w.heap.size ≤ g) : w.grownBy w' r :=
  ⟨h'.os.trans h.os, h'.tape.trans h.tape, h'.output.trans h.output, Nat.le_trans h.size h'.size, fun k hk hne => (h'.block k (Nat.lt_of_lt_of_le hk h.size) (fun e => by have := hr k e.symm; omega)).trans (h.block k hk hne)⟩
theorem ly_ok {f i v d t h a : Int} (B : Lb f i v d t h a) : LyOk ⟨f, i, v, d, t, h, a⟩ := ⟨B.1, B.2.1, B.2.2.1, B.2.2.2.1, B.2.2.2.2.1, B.2.2.2.2.2.1, B.2.2.2.2.2.2⟩
/-- Layers under way in memory made behind a source. -/
def LWay (w : World) (B j : Nat) (o : Value) (ls : List Ly) : Prop := w.ownsRow B 35 7 o j (lyCells ls) ∧ ls.length = j ∧ ∀ x ∈ ls, LyOk x
theorem LWay.src {w w' : World} {B j q : Nat} {o : Value} {ls : List Ly} (h : LWay w B j o ls) (hg : w.grownBy w' (some q)) (hq : q < B) : LWay w' B j o ls :=
  ⟨h.1.kept hg (.inr fun e => by have := own_blk h.1 _ e; omega), h.2⟩
theorem lway_step {w wr w4 : World} {q m B j : Nat} {f i v d t h a : Int} {o v' : Value} {ls : List Ly} (hs : SrcP wr q m) (hg : w.grownBy wr (some q)) (hbag : LWay wr B j o ls) (hb : Lb f i v d t h a) (hq : q < B) (hB : w.heap.size ≤ B)
    (hown : w4.ownsRow B 35 7 v' (j + 1) (lyCells ls ++ [.int .i64 f, .int .i64 i, .int .i64 v, .int .i64 d, .int .i64 t, .int .i64 h, .int .i64 a])) (hgrow : wr.grownBy w4 o.ownBlock) : SrcP w4 q m ∧ w.grownBy w4 (some q) ∧ LWay w4 B (j + 1) v' (ls ++ [⟨f, i, v, d, t, h, a⟩]) := by
  refine ⟨hs.grow hgrow (fun g hg => by have := own_blk hbag.1 g hg; omega), grown_newL hg hgrow (fun g hg => by have := own_blk hbag.1 g hg; omega), by rw [lyCells_snoc]; exact hown, by simp [hbag.2.1], fun p hp => ?_⟩
  rw [List.mem_append] at hp
  rcases hp with hp | hp
  · exact hbag.2.2 p hp
  · simp at hp
    subst hp
    exact ly_ok hb
set_option maxRecDepth 100000 in
set_option maxHeartbeats 1600000 in
theorem l03Draw_d (q m : Nat) (w : World) (h : SrcP w q m) (hm : m ≤ 1000000000) :
    Calls Try.prog 26 #[.pointer (some ⟨q, 0, none⟩)] w fun e w' => (∃ A n c ls, e = .returned (.slice A n c) ∧ LWay w' w.heap.size n (.slice A n c) ls ∧ n ≤ 5) ∧ SrcP w' q (m + 200) ∧ w.grownBy w' (some q) := by
  have hq := h.lt
  have HH := Lib.hid h
  clear h
  have hown0 := World.ownsRow_lit (base := w.heap.size) (e := 35) (size := 7) w #[] 0 (Nat.le_refl _) (by simp) rfl
  have hba : Below w.heap.size w (w.alloc (.cells #[] 35)) := (Below.refl _ _).alloc (Nat.le_refl _) _
  have H0 := Lib.hid (And.intro (HH.out.below hba) (And.intro (grown_belowL (World.grownBy.refl w (some q)) hba) (show LWay (w.alloc (.cells #[] 35)) w.heap.size 0 (.slice (some ⟨w.heap.size, 0, none⟩) 0 0) [] from ⟨hown0, rfl, by simp⟩)))
  clear hown0 hba
  go_enter Try.func26, Try.ntmps26
  go_wp2_with fail
  refine (pick_p _ _ 6 _ H0.out.1 (by omega) (by omega)).mono ?_
  rintro e w1 ⟨⟨x, rfl, hx1, hx2⟩, hs1, hg1⟩
  replace hx2 := lt_of_pick hx1 hx2 (by omega)
  have H1 := Lib.hid (And.intro hs1 (And.intro (H0.out.2.1.trans hg1) (H0.out.2.2.src hg1 hq)))
  clear hs1 hg1
  go_wp2_with fail
  go_loopw [3, 4] (fun o kv wr => ∃ (k j : Nat) (ls : List Ly), k + j ≤ 5 ∧ kv = .int .i64 k ∧ SrcP wr q (m + 2 + 20 * j) ∧ w.grownBy wr (some q) ∧ LWay wr w.heap.size j o ls) (fun _ kv _ => (intOf kv).toNat)
  case atStart =>
    obtain ⟨k, rfl⟩ : ∃ k : Nat, x = (k : Int) := ⟨x.toNat, by omega⟩
    exact ⟨k, 0, [], by omega, rfl, H1.out.1, H1.out.2.1, H1.out.2.2⟩
  case round =>
    clear H1 H0 hx1 hx2
    obtain ⟨k, j, ls, hkj, rfl, hs, hgr, hbag⟩ := hrel
    have hz := hgr.size
    have HR := Lib.hid (And.intro hs (And.intro hgr hbag))
    clear hs hgr hbag
    by_cases hk : 0 < k
    · have hki : (0 : Int) < (k : Int) := by omega
      go_wp2_with fail
      refine (l03DrawOne_d _ _ _ HR.out.1 (by omega)).mono ?_
      rintro e w2 ⟨⟨f, i, v, d, t, hh, a, rfl, hb⟩, hs2, hg2⟩
      have hz2 := hg2.size
      have H2 := Lib.hid (And.intro hs2 (And.intro (HR.out.2.1.trans hg2) (And.intro (HR.out.2.2.src hg2 hq) hb)))
      clear hs2 hg2 hb
      go_wp2_with (at_builtin; refine wp_app rfl (.tmp 12) (.tmp 15) 24 rfl w.heap.size 35 (.agg #[.int .i64 0, .int .i64 0, .int .i64 0, .int .i64 0, .int .i64 0, .int .i64 0, .int .i64 0]) 7 56 Try.underlying24 info_ly rfl (by omega) _ j (lyCells ls) rfl H2.out.2.2.1.1 [.int .i64 f, .int .i64 i, .int .i64 v, .int .i64 d, .int .i64 t, .int .i64 hh, .int .i64 a] rfl (by rfl) (by intro u hu; simp at hu; rcases hu with rfl | rfl | rfl | rfl | rfl | rfl | rfl <;> rfl) (by unfold maxLen; omega) (by omega) (by omega) ?_; intro v' w5 hown5 hgrow5 hv5)
      have HF := Lib.hid (lway_step H2.out.1 H2.out.2.1 H2.out.2.2.1 H2.out.2.2.2 hq (Nat.le_refl _) hown5 hgrow5)
      clear hown5 hgrow5
      go_roundw
      case rel => exact ⟨k - 1, j + 1, _, by omega, by rw [show ((k - 1 : Nat) : Int) = (k : Int) - 1 by omega], HF.out.1.mono (by omega), HF.out.2.1, HF.out.2.2⟩
      case measure => simp [intOf]; omega
    · obtain rfl : k = 0 := by omega
      obtain ⟨A', c', rfl, _⟩ := own_form HR.out.2.2.1
      go_wp2_with fail
      go_ret
      exact ⟨⟨_, _, _, _, rfl, HR.out.2.2, by omega⟩, HR.out.1.mono (by omega), HR.out.2.1⟩
theorem R8Profile_d (A : Option Addr) (n c : Nat) (w : World) (h : Byts w A n) :
    Calls Try.prog 7 #[.slice A n c] w fun e w' => (∃ A' n' c' ls, e = .returned (.slice A' n' c') ∧ Lys w' A' n' ls ∧ n' ≤ 5) ∧ Below w.heap.size w w' := by
  have HH := Lib.hid h
  clear h
  go_enter Try.func7, Try.ntmps7
  go_wp2_with fail
  refine (from_p _ _ _ _ HH.out).mono ?_
  rintro e w1 ⟨rfl, hs1, hb1⟩
  have H1 := Lib.hid (And.intro hs1 hb1)
  clear hs1 hb1
  go_wp2_with fail
  refine (l03Draw_d _ _ _ H1.out.1 (by omega)).mono ?_
  rintro e w2 ⟨⟨A', n', c', ls, rfl, hbag, hn5⟩, hs2, hg2⟩
  have H2 := Lib.hid (And.intro (show Lys w2 A' n' ls from (LBag.of_own hbag.1 hbag.2.1 (by omega) hbag.2.2).lys) (below_grown H1.out.2 hg2 H1.out.2.size (Nat.le_refl _)))
  clear hs2 hg2 hbag
  go_wp2_with fail
  go_ret
  exact ⟨⟨_, _, _, _, rfl, H2.out.1, hn5⟩, H2.out.2⟩
end Go.Proofs.Ytlfjjdglffiinaa
