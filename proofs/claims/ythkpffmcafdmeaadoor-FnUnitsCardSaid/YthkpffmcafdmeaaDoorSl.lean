/-
  The contracts of the law's own helpers over slices of numbers: copies, comparisons, marks.
-/
import Derived.Test.YthkpffmcafdmeaaDoorMem
import Derived.Test.YthkpffmcafdmeaaDoorRows
import Derived.Test.YthkpffmcafdmeaaDoorArith
namespace Go.Proofs.YthkpffmcafdmeaaDoor
open Go.ChangeShapes Go.WideShapes Go.ChangeAt Go.RowKit Go.Deep

theorem info_int : (Tryd.prog.info? 2).map (fun i => (i.zero, i.size, i.bytes)) = some (some (.int .i64 0), 1, 8) := by kernel_rfl

theorem szInt64S_ok (A : Option Addr) (n c : Nat) (left : Int) (w : World) (h1 : (n : Int) ≤ left) (h2 : left ≤ 1048576) :
    Calls Tryd.prog 67 #[.slice A n c, .int .i64 left] w fun e w' => e = .returned (.int .i64 (left - n)) ∧ w = w' := by
  go_enter Tryd.func67, Tryd.ntmps67
  go_wp2
  go_ret
  exact ⟨rfl, rfl⟩
theorem szInt64S_no (A : Option Addr) (n c : Nat) (left : Int) (w : World) (h0 : n ≤ 9223372036854775807) (h1 : left < (n : Int)) (h2 : left ≤ 1048576) (h3 : 0 ≤ left) :
    Calls Tryd.prog 67 #[.slice A n c, .int .i64 left] w fun e w' => e = .returned (.int .i64 (-1)) ∧ w = w' := by
  go_enter Tryd.func67, Tryd.ntmps67
  go_wp2
  go_ret
  exact ⟨rfl, rfl⟩
set_option maxHeartbeats 400000 in
theorem toInt64S_any (A : Option Addr) (n c : Nat) (xs : List Int) (w : World) (h : Ints w A n xs) (hn : n ≤ 1048576) :
    Calls Tryd.prog 70 #[.slice A n c] w fun e w' => e = .returned (.slice (some ⟨w.heap.size, 0, none⟩) n n) ∧
      w'.ownsRow w.heap.size 2 1 (.slice (some ⟨w.heap.size, 0, none⟩) n n) n (xs.map (.int .i64)) ∧ Below w.heap.size w w' ∧ w'.heap.size = w.heap.size + 1 := by
  have hmk := fun W => run_make_row' (P := Tryd.prog) 29 2 (.int .i64 0) 8 Tryd.underlying29 info_int rfl .i64 .i64 n (by omega) (by omega) W
  go_enter Tryd.func70, Tryd.ntmps70
  go_wp2
  go_loopw [4] (fun i wr => ∃ k : Nat, k ≤ n ∧ i = .int .i64 k ∧ wr.rowIs w.heap.size 2 n (fun j => .int .i64 (if j < k then xs.getD j 0 else 0)) ∧ Below w.heap.size w wr ∧ wr.heap.size = w.heap.size + 1)
    (fun i _ => n - (intOf i).toNat)
  case atStart => exact ⟨0, Nat.zero_le _, rfl, (World.rowIs_made _ _ _ _).congr (fun _ _ => by simp), (Below.refl _ _).alloc (Nat.le_refl _) _, by simp⟩
  case round =>
    obtain ⟨k, hk, rfl, hrow, hbl, hsz⟩ := hrel
    by_cases hlt : k < n
    · obtain ⟨b, off, x, rfl, HX, hc, hx1, hx2⟩ := (h.below hbl).at_ hlt
      have hc0 := hrow.cell hlt
      have hf0 := hrow.frozen k
      have hstep := (hrow.set k (.int .i64 x)).congr (g := fun j => .int .i64 (if j < k + 1 then xs.getD j 0 else 0)) (fun j hj => by
        by_cases e : j = k
        · subst e
          have := HX.out
          simp [this]
        · by_cases e2 : j < k
          · simp [e, e2, Nat.lt_succ_of_lt e2]
          · simp [e, e2, show ¬ j < k + 1 by omega])
      have hb2 := hbl.setCell (p := ⟨w.heap.size, k, none⟩) (Nat.le_refl _) (.int .i64 x)
      have HS := Lib.hid (And.intro hstep hb2)
      have HZ := Lib.hid hsz
      clear hstep hb2 hsz hrow hbl h hmk
      go_wp2
      go_roundw
      case rel => exact ⟨k + 1, by omega, by go_num, HS.out.1, HS.out.2, by simpa [World.setCell] using HZ.out⟩
      case measure => simp [intOf]; omega
    · obtain rfl : k = n := by omega
      clear hlt
      have hl := h.1
      have HO := Lib.hid (rowIs_to_own (n := k) (cap := k) (size := 1) (base := w.heap.size) (xs := xs.map (.int .i64)) (by simpa using hrow) (Nat.le_refl _) (Nat.le_refl _) (by unfold maxLen; omega) (by simpa using hl) (fun j hj => by
        have hj' : j < k := by omega
        have : j < xs.length := by omega
        simp [hj', this]))
      have HB := Lib.hid (And.intro hbl hsz)
      clear hrow hbl hsz h hl hmk
      go_wp2
      go_ret
      exact ⟨rfl, HO.out, HB.out.1, HB.out.2⟩
theorem eqInt64S_same (A B : Option Addr) (n c d : Nat) (xs : List Int) (w : World) (h : Ints w A n xs) (h' : Ints w B n xs) :
    Calls Tryd.prog 72 #[.slice A n c, .slice B n d] w fun e w' => e = .returned (.bool true) ∧ Below w.heap.size w w' := by
  go_enter Tryd.func72, Tryd.ntmps72
  go_wp2
  go_loopw [5] (fun i wr => ∃ k q : Nat, k ≤ n ∧ i = .int .i64 k ∧ wr = w.drewN q) (fun i _ => n - (intOf i).toNat)
  case atStart => exact ⟨0, 0, Nat.zero_le _, rfl, rfl⟩
  case round =>
    obtain ⟨k, q, hk, rfl, rfl⟩ := hrel
    have hn := h.2.1
    by_cases hlt : k < n
    · obtain ⟨b, off, x, rfl, HX, hc, hx1, hx2⟩ := h.at_ hlt
      obtain ⟨b', off', x', rfl, HX', hc', hx1', hx2'⟩ := h'.at_ hlt
      obtain rfl : x = x' := by have := HX.out.symm.trans HX'.out; injection this
      clear h h'
      go_wp2_with fail
      go_quiet (fail)
      go_wp2
      go_roundw
      case rel => exact ⟨k + 1, _, by omega, by go_num, rfl⟩
      case measure => simp [intOf]; omega
    · obtain rfl : k = n := by omega
      clear hlt
      go_wp2
      go_ret
      exact ⟨rfl, below_drewN (Below.refl _ _) _⟩
theorem markInt64S_any (A : Option Addr) (n c base : Nat) (k : Int) (xs : List Value) (w : World) (h : w.ownsRow base 2 1 (.slice A n c) n xs) (hn : n ≤ 1048576) (hk1 : 0 ≤ k) (hk2 : k ≤ 100000000000) :
    Calls Tryd.prog 79 #[.slice A n c, .int .i64 k] w fun e w' => e = .returned (.int .i64 (k + n)) ∧
      w'.ownsRow base 2 1 (.slice A n c) n ((marks k n).map (.int .i64)) ∧ w.grownBy w' (Value.slice A n c).ownBlock := by
  go_enter Tryd.func79, Tryd.ntmps79
  go_wp2
  rcases A with _ | ad
  · have h0 : n = 0 := by
      rcases h.2 with ⟨_, h0⟩ | ⟨g, cap, cur, hv, _⟩
      · exact h0
      · simp at hv
    subst h0
    go_rounds 1
    go_ret
    exact ⟨ret_int (by simp), ⟨by simp [marks], .inl ⟨by
      rcases h.2 with ⟨hv, _⟩ | ⟨g, cap, cur, hv, _⟩
      · exact hv
      · simp at hv, rfl⟩⟩, World.grownBy.refl _ _⟩
  · obtain ⟨g, hg⟩ : ∃ g, ad = ⟨g, 0, none⟩ := by
      rcases h.2 with ⟨hv, _⟩ | ⟨g, cap, cur, hv, _⟩
      · simp at hv
      · simp only [Value.slice.injEq, Option.some.injEq] at hv
        exact ⟨g, hv.1⟩
    subst hg
    obtain ⟨f, hbg, hnc, hcm, _, hrow0, _⟩ := own_to_rowIs h
    have hlt0 := hrow0.lt
    clear h
    go_loopw [1, 5] (fun kv i wr => ∃ j : Nat, j ≤ n ∧ i = .int .i64 j ∧ kv = .int .i64 (k + j) ∧ (∃ f, wr.rowIs g 2 (c * 1) f ∧ ∀ t, t < j → f t = .int .i64 (k + t)) ∧ w.grownBy wr (some g)) (fun _ i _ => n - (intOf i).toNat)
    case atStart => exact ⟨0, Nat.zero_le _, rfl, by simp, ⟨f, hrow0, fun t ht => absurd ht (by omega)⟩, World.grownBy.refl _ _⟩
    case round =>
      obtain ⟨j, hj, rfl, rfl, ⟨f', hrow, hf'⟩, hgr⟩ := hrel
      by_cases hlt : j < n
      · have hc0 := hrow.cell (i := j) (by omega)
        have hf0 := hrow.frozen j
        have HS := Lib.hid (And.intro (hrow.set j (.int .i64 (k + j))) (grown_setCell hgr (p := ⟨g, j, none⟩) rfl (.int .i64 (k + j))))
        have HF := Lib.hid hf'
        clear hrow hgr hf' hrow0
        go_wp2
        go_roundw
        case rel => exact ⟨j + 1, by omega, by go_num, by go_num, ⟨_, HS.out.1, fun t ht => by
          by_cases e : t = j
          · simp [e]
          · rw [if_neg e]; exact HF.out t (by omega)⟩, HS.out.2⟩
        case measure => simp [intOf]; omega
      · obtain rfl : j = n := by omega
        clear hlt
        have HO := Lib.hid (rowIs_to_own (n := j) (xs := (marks k j).map (.int .i64)) hrow hbg hnc hcm (by simp [marks]) (fun t ht => by
          have ht' : t < j := by omega
          rw [List.getElem?_map, marks_at ht', hf' t ht']
          rfl))
        have HG := Lib.hid hgr
        clear hrow hgr hf' hrow0
        go_wp2
        go_ret
        exact ⟨rfl, HO.out, HG.out⟩
theorem markInt64S_fresh (A : Option Addr) (n c base : Nat) (k : Int) (xs : List Value) (w : World) (h : Fresh w base 2 1 A n c xs) (hn : n ≤ 1048576) (hk1 : 0 ≤ k) (hk2 : k ≤ 100000000000) :
    Calls Tryd.prog 79 #[.slice A n c, .int .i64 k] w fun e w' => e = .returned (.int .i64 (k + n)) ∧ ∃ r, Fresh w' base 2 1 A n c ((marks k n).map (.int .i64)) ∧ w.grownBy w' r ∧ (∀ g, r = some g → base ≤ g ∧ 0 < n ∧ A = some ⟨g, 0, none⟩) := by
  rcases Nat.eq_zero_or_pos n with rfl | h0
  · go_enter Tryd.func79, Tryd.ntmps79
    go_wp2
    go_rounds 1
    go_ret
    exact ⟨ret_int (by simp), none, ⟨by simp [marks], fun h => absurd h (by omega)⟩, World.grownBy.refl _ _, fun g h => by cases h⟩
  · have ho := h.2 h0
    refine (markInt64S_any A n c base k xs w ho hn hk1 hk2).mono fun e w' ⟨he, h1, h2⟩ => ⟨he, _, Fresh.of_own h1, h2, fun g hg => ?_⟩
    rcases ho.2 with ⟨hv, h00⟩ | ⟨g', cap, cur, hv, hb, hgg, _⟩
    · omega
    · simp only [Value.slice.injEq] at hv
      obtain ⟨rfl, _⟩ := hv
      simp only [Value.ownBlock, Option.some.injEq] at hg
      subst hg
      exact ⟨hb, h0, rfl⟩
theorem heldInt64S_any (A : Option Addr) (n c : Nat) (k : Int) (w : World) (h : Ints w A n (marks k n)) (hn : n ≤ 1048576) (hk1 : 0 ≤ k) (hk2 : k ≤ 100000000000) :
    Calls Tryd.prog 80 #[.slice A n c, .int .i64 k] w fun e w' => e = .returned (.int .i64 (k + n)) ∧ ∃ q, w' = w.drewN q := by
  go_enter Tryd.func80, Tryd.ntmps80
  go_wp2
  go_loopw [1, 5] (fun kv i wr => ∃ j q : Nat, j ≤ n ∧ i = .int .i64 j ∧ kv = .int .i64 (k + j) ∧ wr = w.drewN q) (fun _ i _ => n - (intOf i).toNat)
  case atStart => exact ⟨0, 0, Nat.zero_le _, rfl, by simp, rfl⟩
  case round =>
    obtain ⟨j, q, hj, rfl, rfl, rfl⟩ := hrel
    by_cases hlt : j < n
    · obtain ⟨b, off, x, rfl, HX, hc, hx1, hx2⟩ := h.at_ hlt
      obtain rfl : x = k + j := by have := HX.out.symm.trans (marks_at hlt); injection this
      clear h
      go_wp2
      go_roundw
      case rel => exact ⟨j + 1, _, by omega, by go_num, by go_num, rfl⟩
      case measure => simp [intOf]; omega
    · obtain rfl : j = n := by omega
      clear hlt
      go_wp2
      go_ret
      exact ⟨rfl, _, rfl⟩
end Go.Proofs.YthkpffmcafdmeaaDoor
