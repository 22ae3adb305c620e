/-
  The contract of slices.Clone at numbers.
-/
import Derived.Test.YtdmfapdnepdibaaSl
namespace Go.Proofs.Ytdmfapdnepdibaa
open Go.ChangeShapes Go.WideShapes Go.ChangeAt Go.RowKit Go.Deep
set_option maxRecDepth 100000 in
set_option maxHeartbeats 400000 in
theorem clone_any (A : Option Addr) (n c : Nat) (xs : List Int) (w : World) (h : Ints w A n xs) (hn : n ≤ 1048576) (hA : ∃ a, A = some a) :
    Calls Try.prog 45 #[.slice A n c] w fun e w' => SlI 2 w xs e w' := by
  obtain ⟨a, rfl⟩ := hA
  have hl := h.1
  have HL := Lib.hid hl
  have HC := Lib.hid (h.below ((Below.refl _ _).alloc (Nat.le_refl _) (.cells #[] 2))).cells
  have hown := World.ownsRow_lit (base := w.heap.size) (e := 2) (size := 1) w #[] 0 (Nat.le_refl _) (by simp) rfl
  have hnil := fun W => Lib.run_eql_slice_nil (P := Try.prog) W 24 2 (some a) n c 0 0 Try.underlying24
  obtain ⟨i0, hi, hz0, hz1, hz2⟩ := info_parts info_int
  have HO := Lib.hid hown
  clear hown hl
  go_enter Try.func45, Try.ntmps45
  go_wp2_with (at_builtin; refine wpList_append_own _ rfl _ _ 24 rfl w.heap.size 2 i0 (.int .i64 0) 1 8 Try.underlying24 hi hz0 hz1 hz2 rfl (by decide) _ 0 [] rfl HO.out a n c (xs.map (.int .i64)) rfl (by simp [HL.out]) HC.out (ints_one _) (by unfold maxLen; omega) (by omega) (by simp) ?_; intro v' w1 hown1 hgrow1 hv1)
  go_ret
  obtain ⟨A', c', rfl, _⟩ := own_form hown1
  rw [Nat.zero_add, List.nil_append, ← HL.out] at hown1
  exact ⟨A', c', by rw [HL.out, Nat.zero_add]; rfl, Fresh.of_own hown1, ((Below.refl _ _).alloc (Nat.le_refl _) _).grown hgrow1 (by simp) (fun k hk => (HO.out.lt k hk).1)⟩
end Go.Proofs.Ytdmfapdnepdibaa
