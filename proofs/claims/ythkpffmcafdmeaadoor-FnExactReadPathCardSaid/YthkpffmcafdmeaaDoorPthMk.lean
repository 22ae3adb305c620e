/-
  The law's helpers over paths that mark memory and look whether the marks still stand.
-/
import Derived.Test.YthkpffmcafdmeaaDoorPathW
namespace Go.Proofs.YthkpffmcafdmeaaDoor
open Go.ChangeShapes Go.WideShapes Go.ChangeAt Go.RowKit Go.Deep
set_option linter.unusedVariables false

def mks (k : Int) (n : Nat) : Pth := (List.range n).map fun (j : Nat) => (k + (2 * j : Nat), k + (2 * j + 1 : Nat))
theorem mks_len (k : Int) (n : Nat) : (mks k n).length = n := by simp [mks]
theorem mks_at {k : Int} {n j : Nat} (h : j < n) : (mks k n)[j]? = some (k + (2 * j : Nat), k + (2 * j + 1 : Nat)) := by simp [mks, h]
theorem mks_cell {k : Int} {n t : Nat} (h : t < n * 2) : ptCell (mks k n) t = .int .i64 (k + t) := by
  have hj : t / 2 < n := by omega
  have h1 := mks_at (k := k) hj
  unfold ptCell
  by_cases e : t % 2 = 0
  · rw [if_pos e, dAt_eq h1]
    congr 2
    omega
  · rw [if_neg e, hAt_eq h1]
    congr 2
    omega
theorem mks_bd {k : Int} {n : Nat} (h1 : 0 ≤ k) (h2 : k + 2 * n ≤ 1000000000000) : ∀ p ∈ mks k n, (-9223372036854775808 ≤ p.1 ∧ p.1 ≤ 9223372036854775807) ∧ (-9223372036854775808 ≤ p.2 ∧ p.2 ≤ 9223372036854775807) := by
  intro p hp
  simp only [mks, List.mem_map, List.mem_range] at hp
  obtain ⟨j, hj, rfl⟩ := hp
  constructor <;> constructor <;> simp only <;> omega
theorem Fresh.ptsb {w : World} {base e c : Nat} {A : Option Addr} {ps : Pth} (h : Fresh w base e 2 A ps.length c (ptCells ps)) (hl : ps.length ≤ 9223372036854775807)
    (hx : ∀ p ∈ ps, (-9223372036854775808 ≤ p.1 ∧ p.1 ≤ 9223372036854775807) ∧ (-9223372036854775808 ≤ p.2 ∧ p.2 ≤ 9223372036854775807)) : Pts w A ps.length ps := by
  rcases Nat.eq_zero_or_pos ps.length with h0 | h0
  · exact ⟨rfl, hl, hx, fun h => absurd h (by omega)⟩
  · exact Pts.of_own (h.2 h0) rfl hl hx
theorem Fresh.ptsk {w : World} {base e n c : Nat} {A : Option Addr} {k : Int} (h : Fresh w base e 2 A n c (ptCells (mks k n))) (h1 : 0 ≤ k) (h2 : k + 2 * n ≤ 1000000000000) : Pts w A n (mks k n) := by
  rcases Nat.eq_zero_or_pos n with h0 | h0
  · exact ⟨mks_len _ _, by omega, mks_bd h1 h2, fun h => absurd h (by omega)⟩
  · exact Pts.of_own (h.2 h0) (mks_len _ _).symm (by omega) (mks_bd h1 h2)
set_option maxRecDepth 100000 in
set_option maxHeartbeats 1600000 in
theorem markPathPointS_any (A : Option Addr) (n c base : Nat) (k : Int) (xs : List Value) (w : World) (h : w.ownsRow base 71 2 (.slice A n c) n xs) (hn : n ≤ 1048576) (hk1 : 0 ≤ k) (hk2 : k ≤ 100000000000) :
    Calls Tryd.prog 22 #[.slice A n c, .int .i64 k] w fun e w' => e = .returned (.int .i64 (k + 2 * n)) ∧
      w'.ownsRow base 71 2 (.slice A n c) n (ptCells (mks k n)) ∧ w.grownBy w' (Value.slice A n c).ownBlock := by
  go_enter Tryd.func22, Tryd.ntmps22
  go_wp2_with fail
  rcases A with _ | ad
  · have h0 : n = 0 := by
      rcases h.2 with ⟨_, h0⟩ | ⟨g, cap, cur, hv, _⟩
      · exact h0
      · simp at hv
    subst h0
    go_rounds 1
    go_ret
    exact ⟨ret_int (by simp), ⟨by simp [ptCells, mks], .inl ⟨by
      rcases h.2 with ⟨hv, _⟩ | ⟨g, cap, cur, hv, _⟩
      · exact hv
      · simp at hv, rfl⟩⟩, World.grownBy.refl _ _⟩
  · obtain ⟨g, hg⟩ : ∃ g, ad = ⟨g, 0, none⟩ := by
      rcases h.2 with ⟨hv, _⟩ | ⟨g, cap, cur, hv, _⟩
      · simp at hv
      · simp only [Value.slice.injEq, Option.some.injEq] at hv
        exact ⟨g, hv.1⟩
    subst hg
    obtain ⟨f, hbg, hnc, hcm, _, hrow0, _⟩ := own_to_rowIs h
    have hlt0 := hrow0.lt
    clear h
    go_loopw [1, 5] (fun kv i wr => ∃ j : Nat, j ≤ n ∧ i = .int .i64 j ∧ kv = .int .i64 (k + 2 * j) ∧ (∃ f, wr.rowIs g 71 (c * 2) f ∧ ∀ t, t < j * 2 → f t = .int .i64 (k + t)) ∧ w.grownBy wr (some g)) (fun _ i _ => n - (intOf i).toNat)
    case atStart => exact ⟨0, Nat.zero_le _, rfl, by simp, ⟨f, hrow0, fun t ht => absurd ht (by omega)⟩, World.grownBy.refl _ _⟩
    case round =>
      obtain ⟨j, hj, rfl, rfl, ⟨f', hrow, hf'⟩, hgr⟩ := hrel
      by_cases hlt : j < n
      · have c0 := hrow.cell (i := j * 2) (by omega)
        have c1 := hrow.cell (i := j * 2 + 1) (by omega)
        have f0 := hrow.frozen (j * 2)
        have f1 := hrow.frozen (j * 2 + 1)
        have HS := Lib.hid (And.intro ((hrow.set (j * 2) (.int .i64 (k + 2 * j))).set (j * 2 + 1) (.int .i64 (k + 2 * j + 1))) (grown_setCell (grown_setCell hgr (p := ⟨g, j * 2, none⟩) rfl (.int .i64 (k + 2 * j))) (p := ⟨g, j * 2 + 1, none⟩) rfl (.int .i64 (k + 2 * j + 1))))
        have HF := Lib.hid hf'
        have hki : (j : Int) < (n : Int) := by omega
        clear hrow hgr hf' hrow0
        go_wp2_with fail
        go_roundw
        case rel => exact ⟨j + 1, by omega, by go_num, by go_num, ⟨_, HS.out.1, fun t ht => by
          by_cases e : t = j * 2 + 1
          · subst e
            rw [if_pos rfl]
            congr 1
            omega
          · rw [if_neg e]
            by_cases e' : t = j * 2
            · subst e'
              rw [if_pos rfl]
              congr 1
              omega
            · rw [if_neg e']; exact HF.out t (by omega)⟩, HS.out.2⟩
        case measure => simp [intOf]; omega
      · obtain rfl : j = n := by omega
        clear hlt
        have HO := Lib.hid (rowIs_to_own (n := j) (xs := ptCells (mks k j)) hrow hbg hnc hcm (by simp [ptCells, mks_len]) (fun t ht => by
          rw [ptCells_at (by rw [mks_len]; exact ht), mks_cell ht, hf' t ht]))
        have HG := Lib.hid hgr
        clear hrow hgr hf' hrow0
        go_wp2_with fail
        go_ret
        exact ⟨rfl, HO.out, HG.out⟩
theorem markPathPointS_fresh (A : Option Addr) (n c base : Nat) (k : Int) (xs : List Value) (w : World) (h : Fresh w base 71 2 A n c xs) (hn : n ≤ 1048576) (hk1 : 0 ≤ k) (hk2 : k ≤ 100000000000) :
    Calls Tryd.prog 22 #[.slice A n c, .int .i64 k] w fun e w' => e = .returned (.int .i64 (k + 2 * n)) ∧ ∃ r, Fresh w' base 71 2 A n c (ptCells (mks k n)) ∧ w.grownBy w' r ∧ (∀ g, r = some g → base ≤ g ∧ 0 < n ∧ A = some ⟨g, 0, none⟩) := by
  rcases Nat.eq_zero_or_pos n with rfl | h0
  · go_enter Tryd.func22, Tryd.ntmps22
    go_wp2_with fail
    go_rounds 1
    go_ret
    exact ⟨ret_int (by simp), none, ⟨by simp [ptCells, mks], fun h => absurd h (by omega)⟩, World.grownBy.refl _ _, fun g h => by cases h⟩
  · have ho := h.2 h0
    refine (markPathPointS_any A n c base k xs w ho hn hk1 hk2).mono fun e w' ⟨he, h1, h2⟩ => ⟨he, _, Fresh.of_own h1, h2, fun g hg => ?_⟩
    rcases ho.2 with ⟨hv, h00⟩ | ⟨g', cap, cur, hv, hb, hgg, _⟩
    · omega
    · simp only [Value.slice.injEq] at hv
      obtain ⟨rfl, _⟩ := hv
      simp only [Value.ownBlock, Option.some.injEq] at hg
      subst hg
      exact ⟨hb, h0, rfl⟩
set_option maxRecDepth 100000 in
set_option maxHeartbeats 1600000 in
theorem heldPathPointS_any (A : Option Addr) (n c : Nat) (k : Int) (w : World) (h : Pts w A n (mks k n)) (hn : n ≤ 1048576) (hk1 : 0 ≤ k) (hk2 : k ≤ 100000000000) :
    Calls Tryd.prog 23 #[.slice A n c, .int .i64 k] w fun e w' => e = .returned (.int .i64 (k + 2 * n)) ∧ Below w.heap.size w w' := by
  go_enter Tryd.func23, Tryd.ntmps23
  go_wp2_with fail
  go_loopw [1, 5] (fun kv i wr => ∃ j q : Nat, j ≤ n ∧ i = .int .i64 j ∧ kv = .int .i64 (k + 2 * j) ∧ wr = w.drewN q) (fun _ i _ => n - (intOf i).toNat)
  case atStart => exact ⟨0, 0, Nat.zero_le _, rfl, by simp, rfl⟩
  case round =>
    obtain ⟨j, q, hj, rfl, rfl, rfl⟩ := hrel
    by_cases hlt : j < n
    · obtain ⟨b, off, x, y, rfl, HX, hc1, hc2, hx1, hx2⟩ := h.at_ hlt
      obtain ⟨rfl, rfl⟩ : x = k + (2 * j : Nat) ∧ y = k + (2 * j + 1 : Nat) := by
        have := HX.out.symm.trans (mks_at hlt)
        injection this with this
        injection this with e1 e2
        exact ⟨e1, e2⟩
      have hki : (j : Int) < (n : Int) := by omega
      have e2 : k + 2 * (j : Int) + 1 = k + (2 * j + 1 : Nat) := by omega
      have e1 : k + 2 * (j : Int) = k + (2 * j : Nat) := by omega
      clear h
      go_wp2_with fail
      go_roundw
      case rel => exact ⟨j + 1, _, by omega, by go_num, by go_num, rfl⟩
      case measure => simp [intOf]; omega
    · obtain rfl : j = n := by omega
      clear hlt
      go_wp2_with fail
      go_ret
      exact ⟨rfl, below_drewN (Below.refl _ _) _⟩
end Go.Proofs.YthkpffmcafdmeaaDoor
