/-
  The cells with a property: the contract of cellsWhere at whatever closure.
-/
import Derived.Test.YtknppcgoooaaaaaGridC
import Derived.Test.YtknppcgoooaaaaaClone
import Derived.Shelf.Abstract
namespace Go.Proofs.Ytknppcgoooaaaaa
open Go.ChangeShapes Go.WideShapes Go.ChangeAt Go.RowKit Go.Deep
set_option linter.unusedVariables false

set_option maxRecDepth 100000 in
set_option maxHeartbeats 800000 in
theorem cellsWhere_any (R C S : Int) (A : Option Addr) (n c : Nat) (F : Nat) (caps : Array Value) (p : Nat → Bool) (w : World) (hn : n ≤ 64) (eg : ∀ args w, (callFunc F args).run Try.prog w = .ok (.enter F args) w)
    (h : ∀ (k : Nat) (W : World), k < n → Below w.heap.size w W → Calls Try.prog F (#[.int .i64 k] ++ caps) W fun e W' => e = .returned (.bool (p k)) ∧ Below W.heap.size W W') :
    Calls Try.prog 30 #[.agg #[.int .i64 R, .int .i64 C, .int .i64 S, .slice A n c], .func (.func F) #[] caps] w fun e w' => SlI 2 w (cellsB n p) e w' := by
  go_enter Try.func30, Try.ntmps30
  go_wp2_with fail
  have hown0 : (w.alloc (.cells #[.int .i64 R, .int .i64 C, .int .i64 S, .slice A n c] 26)).ownsRow w.heap.size 2 1 (.slice none 0 0) (cellsB 0 p).length ((cellsB 0 p).map (.int .i64)) := ⟨by simp [cellsB], .inl ⟨rfl, by simp [cellsB]⟩⟩
  have hb0 := (Below.refl w.heap.size w).alloc (Nat.le_refl _) (.cells #[.int .i64 R, .int .i64 C, .int .i64 S, .slice A n c] 26)
  have H := Lib.hid h
  clear h
  go_loopw [5, 10] (fun o i wr => ∃ k : Nat, k ≤ n ∧ i = .int .i64 k ∧ Below w.heap.size w wr ∧ wr.ownsRow w.heap.size 2 1 o (cellsB k p).length ((cellsB k p).map (.int .i64))) (fun _ i _ => n - (intOf i).toNat)
  case atStart => exact ⟨0, Nat.zero_le _, rfl, hb0, hown0⟩
  case round =>
    clear hb0 hown0
    obtain ⟨k, hk, rfl, hbl, hown⟩ := hrel
    by_cases hlt : k < n
    · have hki : (k : Int) < (n : Int) := by omega
      have HO := Lib.hid (And.intro hbl hown)
      have hlen := cellsB_len k p
      obtain ⟨A', c', rfl, _⟩ := own_form hown
      clear hown hbl
      cases hp : p k
      · have HS := Lib.hid (show cellsB (k + 1) p = cellsB k p by rw [cellsB_succ, if_neg (by simp [hp])]; simp)
        go_wp2_with fail
        refine (H.out k _ hlt HO.out.1).mono ?_
        rintro e w2 ⟨rfl, hb2⟩
        have HB := Lib.hid hb2
        clear hb2
        rw [hp]
        go_wp2_with fail
        go_roundw
        case rel => exact ⟨k + 1, by omega, by go_num, HO.out.1.trans (HB.out.mono HO.out.1.size), by rw [HS.out]; exact own_below HO.out.2 HB.out⟩
        case measure => simp [intOf]; omega
      · have HS := Lib.hid (show cellsB (k + 1) p = cellsB k p ++ [(k : Int)] by rw [cellsB_succ, if_pos hp])
        go_wp2_with fail
        refine (H.out k _ hlt HO.out.1).mono ?_
        rintro e w2 ⟨rfl, hb2⟩
        have HB := Lib.hid (And.intro (HO.out.1.trans (hb2.mono HO.out.1.size)) (own_below HO.out.2 hb2))
        have hz2 := HB.out.1.size
        clear hb2
        rw [hp]
        go_wp2_with (at_builtin; refine wp_app_int rfl (.tmp 16) (.tmp 18) 24 rfl w.heap.size 2 Try.underlying24 info_int _ _ (cellsB k p) (k : Int) rfl HB.out.2 rfl (by omega) (by omega) ?_; intro v' w3 hown3 hgrow3 hv3)
        obtain ⟨g, cc, rfl⟩ := hv3
        have HF := Lib.hid (And.intro (HB.out.1.grown hgrow3 HB.out.1.size (own_blk HB.out.2)) hown3)
        clear hown3 hgrow3
        go_wp2_with fail
        go_roundw
        case rel => exact ⟨k + 1, by omega, by go_num, HF.out.1, by rw [HS.out]; simpa using HF.out.2⟩
        case measure => simp [intOf]; omega
    · obtain rfl : k = n := by omega
      clear hlt
      obtain ⟨A', c', rfl, _⟩ := own_form hown
      have HO := Lib.hid (And.intro hbl hown)
      clear hbl hown
      go_wp2_with fail
      go_ret
      exact ⟨A', c', rfl, Fresh.of_own HO.out.2, HO.out.1⟩
end Go.Proofs.Ytknppcgoooaaaaa
