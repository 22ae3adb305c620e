/-
  The drawing source of the reference: what it hands back lies in its range, and it changes its own block alone.
-/
import Derived.Test.YtknppcgoooaaaaaGreatDoorArith
import Derived.Test.YtknppcgoooaaaaaGreatDoorMem
import Derived.Lib.SmallJoins
import Derived.Laws.Bits64b
namespace Go.Proofs.YtknppcgoooaaaaaGreatDoor
open Go.ChangeShapes Go.WideShapes Go.ChangeAt Go.RowKit Go.Deep
set_option linter.unusedVariables false

/-- A slice of bytes, whatever they are. -/
def Byts (w : World) (A : Option Addr) (n : Nat) : Prop :=
  n ≤ 9223372036854775807 ∧ (0 < n → ∃ b off, A = some ⟨b, off, none⟩ ∧ ∀ k, k < n → ∃ x : Int, w.cell? ⟨b, off + k, none⟩ = some (.int .u8 x) ∧ 0 ≤ x ∧ x ≤ 255)
theorem Byts.at_ {w : World} {A : Option Addr} {n : Nat} (h : Byts w A n) {k : Nat} (hk : k < n) :
    ∃ b off x, A = some ⟨b, off, none⟩ ∧ w.cell? ⟨b, off + k, none⟩ = some (.int .u8 x) ∧ 0 ≤ x ∧ x ≤ 255 := by
  obtain ⟨b, off, hA, hc⟩ := h.2 (by omega)
  obtain ⟨x, h1, h2⟩ := hc k hk
  exact ⟨b, off, x, hA, h1, h2⟩
theorem Byts.below {w w' : World} {A : Option Addr} {n : Nat} (h : Byts w A n) (hb : Below w.heap.size w w') : Byts w' A n := by
  refine ⟨h.1, fun h0 => ?_⟩
  obtain ⟨b, off, hA, hc⟩ := h.2 h0
  refine ⟨b, off, hA, fun k hk => ?_⟩
  obtain ⟨x, h1, h2⟩ := hc k hk
  exact ⟨x, by rw [hb.cell (p := ⟨b, off + k, none⟩) (cell_lt h1)]; exact h1, h2⟩
/-- Bytes that lie apart from a block that changes. -/
theorem Byts.keep {w w' : World} {A : Option Addr} {n : Nat} (h : Byts w A n) {row : Option Nat} (hg : w.grownBy w' row) (hne : 0 < n → ∀ b off, A = some ⟨b, off, none⟩ → some b ≠ row) : Byts w' A n := by
  refine ⟨h.1, fun h0 => ?_⟩
  obtain ⟨b, off, hA, hc⟩ := h.2 h0
  refine ⟨b, off, hA, fun k hk => ?_⟩
  obtain ⟨x, h1, h2⟩ := hc k hk
  exact ⟨x, hg.cell h1 (hne h0 b off hA), h2⟩
/-- A source: its block, the bytes it reads, how far it has read, its seed. -/
def SrcAt (w : World) (q : Nat) (A : Option Addr) (n c : Nat) (p : Int) : Prop :=
  ∃ s : Int, w.heap[q]? = some (.cells #[.slice A n c, .int .i64 p, .int .u64 s] 95 (0, 0)) ∧ (0 ≤ s ∧ s ≤ 18446744073709551615) ∧ Byts w A n ∧ (0 < n → ∀ b off, A = some ⟨b, off, none⟩ → b ≠ q)
theorem u64_bd (e : Int) : 0 ≤ IntKind.u64.wrap e ∧ IntKind.u64.wrap e ≤ 18446744073709551615 := by
  have h : IntKind.u64.wrap e = e % 18446744073709551616 := by simp [IntKind.wrap, IntKind.bits, IntKind.signed]
  rw [h]
  omega
theorem byte_bd {z : Int} (h : 0 ≤ z ∧ z ≤ 18446744073709551615) : 0 ≤ wrap64 (bits .and .u64 (z / 1099511627776) 255) ∧ wrap64 (bits .and .u64 (z / 1099511627776) 255) ≤ 255 := by
  obtain ⟨a, ha⟩ : ∃ a : Nat, z / 1099511627776 = (a : Int) := ⟨(z / 1099511627776).toNat, by omega⟩
  have h1 : a < 18446744073709551616 := by omega
  rw [ha, show (255 : Int) = ((255 : Nat) : Int) from rfl, bits_and_u64_nat a 255 h1 (by omega)]
  have h2 : a &&& 255 ≤ 255 := Nat.and_le_right
  rw [IntWalk.wrap64_in _ (by omega)]
  omega
theorem src_step {w : World} {q n c m : Nat} {A : Option Addr} {p s : Int} {T : TypeId} (hq : w.heap[q]? = some (.cells #[.slice A n c, .int .i64 p, .int .u64 s] T (0, 0))) (p2 s2 : Int) :
    (((w.drewN m).setCell ⟨q, 1, none⟩ (.int .i64 p2)).setCell ⟨q, 2, none⟩ (.int .u64 s2)).heap[q]? = some (.cells #[.slice A n c, .int .i64 p2, .int .u64 s2] T (0, 0)) ∧
    w.grownBy (((w.drewN m).setCell ⟨q, 1, none⟩ (.int .i64 p2)).setCell ⟨q, 2, none⟩ (.int .u64 s2)) (some q) :=
  ⟨Go.Joins.block_setCell (i := 2) (Go.Joins.block_setCell (w := w.drewN m) (i := 1) hq (.int .i64 p2)) (.int .u64 s2),
    grown_setCell (p := ⟨q, 2, none⟩) (grown_setCell (p := ⟨q, 1, none⟩) (grown_drewN (World.grownBy.refl w (some q)) m) rfl (.int .i64 p2)) rfl (.int .u64 s2)⟩
theorem SrcAt.below {w w' : World} {q : Nat} {A : Option Addr} {n c : Nat} {p : Int} (h : SrcAt w q A n c p) (hb : Below w.heap.size w w') : SrcAt w' q A n c p := by
  obtain ⟨s, hq, hs, hbt, hne⟩ := h
  have hlt : q < w.heap.size := by
    rcases Nat.lt_or_ge q w.heap.size with h | h
    · exact h
    · rw [Array.getElem?_eq_none h] at hq; simp at hq
  exact ⟨s, (hb.block q hlt).trans hq, hs, hbt.below hb, hne⟩
theorem SrcAt.grow {w w' : World} {q : Nat} {A : Option Addr} {n c : Nat} {p : Int} (h : SrcAt w q A n c p) {row : Option Nat} (hg : w.grownBy w' row) (hr : some q ≠ row) (hA : 0 < n → ∀ b off, A = some ⟨b, off, none⟩ → some b ≠ row) : SrcAt w' q A n c p := by
  obtain ⟨s, hq, hs, hbt, hne⟩ := h
  have hlt : q < w.heap.size := by
    rcases Nat.lt_or_ge q w.heap.size with h | h
    · exact h
    · rw [Array.getElem?_eq_none h] at hq; simp at hq
  exact ⟨s, (hg.block q hlt hr).trans hq, hs, hbt.keep hg hA, hne⟩
theorem SrcAt.drewN {w : World} {q : Nat} {A : Option Addr} {n c : Nat} {p : Int} (h : SrcAt w q A n c p) (k : Nat) : SrcAt (w.drewN k) q A n c p := h
theorem from_s (A : Option Addr) (n c : Nat) (w : World) (h : Byts w A n) :
    Calls Tryz.prog 34 #[.slice A n c] w fun e w' => e = .returned (.pointer (some ⟨w.heap.size, 0, none⟩)) ∧ SrcAt w' w.heap.size A n c (0 : Nat) ∧ Below w.heap.size w w' := by
  have HH := Lib.hid h
  clear h
  go_enter Tryz.func34, Tryz.ntmps34
  go_wp2_with fail
  go_ret
  have hb := (Below.refl w.heap.size w).alloc (Nat.le_refl _) (.cells #[.slice A n c, .int .i64 0, .int .u64 0] 95)
  refine ⟨rfl, ⟨0, blk_alloc_new _ _, by omega, HH.out.below hb, fun h0 b off e => ?_⟩, hb⟩
  obtain ⟨b', off', e', hc⟩ := HH.out.2 h0
  obtain ⟨x, hx, _⟩ := hc 0 h0
  rw [e] at e'
  injection e' with e'
  injection e' with e1 _ _
  have := cell_lt hx
  subst e1
  exact Nat.ne_of_lt this
set_option maxRecDepth 100000 in
set_option maxHeartbeats 800000 in
theorem next_s (q : Nat) (A : Option Addr) (n c : Nat) (p : Nat) (w : World) (h : SrcAt w q A n c p) (hp : p ≤ 1000000000000) :
    Calls Tryz.prog 94 #[.pointer (some ⟨q, 0, none⟩)] w fun e w' => (∃ x : Int, e = .returned (.int .i64 x) ∧ 0 ≤ x ∧ x ≤ 255) ∧ SrcAt w' q A n c (p + 1 : Nat) ∧ w.grownBy w' (some q) := by
  obtain ⟨s, hq, hs, hbt, hne⟩ := h
  have HN := Lib.hid (And.intro hbt hne)
  have HQ := Lib.hid hq
  have c0 := Go.Joins.cell_of_block hq 0
  have c1 := Go.Joins.cell_of_block hq 1
  have c2 := Go.Joins.cell_of_block hq 2
  have u1 := Go.Joins.unfrozen_of_block hq 1
  have u2 := Go.Joins.unfrozen_of_block hq 2
  simp only [List.getElem?_toArray, List.getElem?_cons_zero, List.getElem?_cons_succ] at c0 c1 c2
  have hn := hbt.1
  by_cases hlt : p < n
  · obtain ⟨b, off, x, rfl, hc, hx1, hx2⟩ := hbt.at_ hlt
    have hbq := hne (by omega) b off rfl
    clear hbt hne hq
    go_enter Tryz.func94, Tryz.ntmps94
    have hki : (p : Int) < (n : Int) := by omega
    go_wp2_with fail
    go_quiet (fail)
    go_wp2_with fail
    go_quiet (fail)
    go_wp2_with fail
    have hz := u64_bd (IntKind.u64.wrap (IntKind.u64.wrap (s * 6364136223846793005) + x) + 1442695040888963407)
    generalize IntKind.u64.wrap (IntKind.u64.wrap (IntKind.u64.wrap (s * 6364136223846793005) + x) + 1442695040888963407) = s2 at hz ⊢
    generalize hwr : World.setCell (World.setCell _ _ _) _ _ = wr
    have HS2 := Lib.hid (show wr.heap[q]? = some (.cells #[.slice (some ⟨b, off, none⟩) n c, .int .i64 ((p : Int) + 1), .int .u64 s2] 95 (0, 0)) ∧ w.grownBy wr (some q) from by rw [← hwr]; exact src_step HQ.out _ _)
    clear hwr c0 c1 c2 u1 u2
    have c0 := Go.Joins.cell_of_block HS2.out.1 0
    have c1 := Go.Joins.cell_of_block HS2.out.1 1
    have c2 := Go.Joins.cell_of_block HS2.out.1 2
    simp only [List.getElem?_toArray, List.getElem?_cons_zero, List.getElem?_cons_succ] at c0 c1 c2
    have hle : (p : Int) + 1 ≤ (n : Int) := by omega
    go_quiet (fail)
    go_wp2_with fail
    go_ret
    exact ⟨⟨x, rfl, hx1, hx2⟩, ⟨s2, by simpa using HS2.out.1, hz, HN.out.1.keep (row := some q) (grown_drewN HS2.out.2 _) (fun h0 b' o' e => by have := HN.out.2 h0 b' o' e; simpa using this), HN.out.2⟩, grown_drewN HS2.out.2 _⟩
  · clear hbt hne hq
    go_enter Tryz.func94, Tryz.ntmps94
    have hki : ¬ (p : Int) < (n : Int) := by omega
    have hkd : decide ((p : Int) < (n : Int)) = false := by simp; omega
    go_wp2_with fail
    go_quiet (fail)
    go_wp2_with fail
    have hz := u64_bd (IntKind.u64.wrap (IntKind.u64.wrap (s * 6364136223846793005)) + 1442695040888963407)
    generalize IntKind.u64.wrap (IntKind.u64.wrap (IntKind.u64.wrap (s * 6364136223846793005)) + 1442695040888963407) = s2 at hz ⊢
    generalize hwr : World.setCell (World.setCell _ _ _) _ _ = wr
    have HS2 := Lib.hid (show wr.heap[q]? = some (.cells #[.slice A n c, .int .i64 ((p : Int) + 1), .int .u64 s2] 95 (0, 0)) ∧ w.grownBy wr (some q) from by rw [← hwr]; exact src_step HQ.out _ _)
    clear hwr c0 c1 c2 u1 u2
    have c0 := Go.Joins.cell_of_block HS2.out.1 0
    have c1 := Go.Joins.cell_of_block HS2.out.1 1
    have c2 := Go.Joins.cell_of_block HS2.out.1 2
    simp only [List.getElem?_toArray, List.getElem?_cons_zero, List.getElem?_cons_succ] at c0 c1 c2
    have hle : ¬ (p : Int) + 1 ≤ (n : Int) := by omega
    have hld : decide ((p : Int) + 1 ≤ (n : Int)) = false := by simp; omega
    go_quiet (fail)
    go_wp2_with fail
    go_ret
    exact ⟨⟨_, rfl, byte_bd hz⟩, ⟨s2, by simpa using HS2.out.1, hz, HN.out.1.keep (row := some q) (grown_drewN HS2.out.2 _) (fun h0 b' o' e => by have := HN.out.2 h0 b' o' e; simpa using this), HN.out.2⟩, grown_drewN HS2.out.2 _⟩
theorem mod_bd {x m : Int} (h : 0 ≤ x) (hm : 2 ≤ m) : 0 ≤ x % m ∧ x % m < m := ⟨Int.emod_nonneg _ (by omega), Int.emod_lt_of_pos _ (by omega)⟩
set_option maxRecDepth 100000 in
set_option maxHeartbeats 800000 in
theorem pick_s (q : Nat) (A : Option Addr) (n c : Nat) (p : Nat) (m : Int) (w : World) (h : SrcAt w q A n c p) (hp : p + 2 ≤ 1000000000000) (hm : -9223372036854775808 ≤ m ∧ m ≤ 9223372036854775807) :
    Calls Tryz.prog 71 #[.pointer (some ⟨q, 0, none⟩), .int .i64 m] w fun e w' => (∃ x : Int, e = .returned (.int .i64 x) ∧ 0 ≤ x ∧ (x < m ∨ x = 0)) ∧ (∃ p' : Nat, p ≤ p' ∧ p' ≤ p + 2 ∧ SrcAt w' q A n c p') ∧ w.grownBy w' (some q) := by
  have HN := Lib.hid h
  clear h
  by_cases h1 : m ≤ 1
  · go_enter Tryz.func71, Tryz.ntmps71
    go_wp2_with fail
    go_ret
    exact ⟨⟨0, rfl, by omega, .inr rfl⟩, ⟨p, by omega, by omega, HN.out⟩, World.grownBy.refl _ _⟩
  · by_cases h2 : m ≤ 200
    · go_enter Tryz.func71, Tryz.ntmps71
      go_wp2_with fail
      refine (next_s q A n c p _ HN.out (by omega)).mono ?_
      rintro e w1 ⟨⟨x, rfl, hx1, hx2⟩, hs1, hg1⟩
      have H1 := Lib.hid (And.intro hs1 hg1)
      clear hs1 hg1
      have hmd := mod_bd (m := m) hx1 (by omega)
      go_wp2_with fail
      go_ret
      exact ⟨⟨_, rfl, hmd.1, .inl hmd.2⟩, ⟨p + 1, by omega, by omega, H1.out.1⟩, H1.out.2⟩
    · go_enter Tryz.func71, Tryz.ntmps71
      go_wp2_with fail
      refine (next_s q A n c p _ HN.out (by omega)).mono ?_
      rintro e w1 ⟨⟨x, rfl, hx1, hx2⟩, hs1, hg1⟩
      have H1 := Lib.hid (And.intro hs1 hg1)
      clear hs1 hg1
      go_wp2_with fail
      refine (next_s q A n c (p + 1) _ H1.out.1 (by omega)).mono ?_
      rintro e w2 ⟨⟨y, rfl, hy1, hy2⟩, hs2, hg2⟩
      have H2 := Lib.hid (And.intro hs2 (H1.out.2.trans hg2))
      clear hs2 hg2
      have hmd := mod_bd (x := x * 256 + y) (m := m) (by omega) (by omega)
      go_wp2_with fail
      go_ret
      exact ⟨⟨_, rfl, hmd.1, .inl hmd.2⟩, ⟨p + 2, by omega, by omega, H2.out.1⟩, H2.out.2⟩
theorem one_s (q : Nat) (A : Option Addr) (n c : Nat) (p : Nat) (m : Int) (w : World) (h : SrcAt w q A n c p) (hp : p + 2 ≤ 1000000000000) (hm : -9223372036854775808 ≤ m ∧ m ≤ 9223372036854775807) :
    Calls Tryz.prog 73 #[.pointer (some ⟨q, 0, none⟩), .int .i64 m] w fun e w' => (∃ x : Bool, e = .returned (.bool x)) ∧ (∃ p' : Nat, p ≤ p' ∧ p' ≤ p + 2 ∧ SrcAt w' q A n c p') ∧ w.grownBy w' (some q) := by
  go_enter Tryz.func73, Tryz.ntmps73
  go_wp2_with fail
  refine (pick_s q A n c p m _ h hp hm).mono ?_
  rintro e w1 ⟨⟨x, rfl, hx1, hx2⟩, hs1, hg1⟩
  have H1 := Lib.hid (And.intro hs1 hg1)
  clear hs1 hg1
  go_wp2_with fail
  go_ret
  exact ⟨⟨_, rfl⟩, H1.out.1, H1.out.2⟩
set_option maxRecDepth 100000 in
theorem among_s (q : Nat) (A : Option Addr) (n c : Nat) (p : Nat) (L : Option Addr) (k d : Nat) (ls : List Int) (w : World) (h : SrcAt w q A n c p) (hp : p + 2 ≤ 1000000000000) (hL : Ints w L k ls) (hk : 0 < k) (hne : ∀ b off, L = some ⟨b, off, none⟩ → b ≠ q) :
    Calls Tryz.prog 72 #[.pointer (some ⟨q, 0, none⟩), .slice L k d] w fun e w' => (∃ x ∈ ls, e = .returned (.int .i64 x)) ∧ (∃ p' : Nat, p ≤ p' ∧ p' ≤ p + 2 ∧ SrcAt w' q A n c p') ∧ w.grownBy w' (some q) := by
  have hk2 := hL.2.1
  go_enter Tryz.func72, Tryz.ntmps72
  go_wp2_with fail
  refine (pick_s q A n c p k _ h hp (by omega)).mono ?_
  rintro e w1 ⟨⟨x, rfl, hx1, hx2⟩, hs1, hg1⟩
  have hL1 := hL.keep hg1 (fun b off e => by have := hne b off e; simpa using this)
  have H1 := Lib.hid (And.intro hs1 hg1)
  clear hs1 hg1
  obtain ⟨j, rfl⟩ : ∃ j : Nat, x = (j : Int) := ⟨x.toNat, by omega⟩
  have hj : j < k := by omega
  have hji : (j : Int) < (k : Int) := by omega
  obtain ⟨b, off, y, rfl, HX, hc, hy1, hy2⟩ := hL1.at_ hj
  go_wp2_with fail
  go_ret
  exact ⟨⟨y, List.mem_of_getElem? HX.out, rfl⟩, H1.out.1, H1.out.2⟩
/-- An argument that is a slice of bytes. -/
theorem bytes_open {H : Type} {enc : TypeId × Value → H} {P : Program} {w : World} {t e : TypeId} {A : Option Addr} {n c : Nat} {d : DataW H} {p : List MemPlace} {held : Bool}
    (ht : P.underlying t = some (.slice e)) (he : P.underlying e = some (.int .u8)) (hc : P.cellsOf e = 1) (h : DataW.Trod enc P w 0 (fun _ => true) held t (.slice A n c) d p) :
    ∃ u : Unit, Byts w A n := by
  refine ⟨(), ?_⟩
  obtain ⟨fuel, hf⟩ := h
  rcases open_ints ht he hc hf with ⟨hcs, _⟩ | ⟨x, l, c', zs, hcs, _, hl, hm, hz, _, hcell, hwz⟩
  · simp [Value.cells] at hcs
    obtain ⟨rfl, rfl, rfl⟩ := hcs
    exact ⟨by omega, fun h => absurd h (by omega)⟩
  · simp [Value.cells] at hcs
    obtain ⟨rfl, rfl, rfl⟩ := hcs
    have hz' : zs.length = c := by simpa using hz
    refine ⟨by unfold maxLen at hm; omega, fun h0 => ?_⟩
    obtain ⟨b, off, spot⟩ := x
    have hc0 := hcell 0 (by omega)
    have hspot : spot = none := by simpa [Addr.add] using World.cell?_spot hc0
    subst hspot
    refine ⟨b, off, rfl, fun k hk => ?_⟩
    have h1 := hcell k (by omega)
    rw [Go.Addr.add_lit] at h1
    have hk' : k < zs.length := by omega
    refine ⟨zs[k], by rw [h1, List.getD_eq_getElem?_getD, List.getElem?_eq_getElem hk']; rfl, ?_⟩
    have h2 := hwz _ (List.getElem_mem hk')
    simpa [Lit.wf, IntKind.min, IntKind.max, IntKind.signed, IntKind.bits] using h2
theorem b10Long_any (A : Option Addr) (n c : Nat) (w : World) (h : n ≤ 9223372036854775807) :
    Calls Tryz.prog 5 #[.slice A n c] w fun e w' => e = .returned (.bool (decide (1048576 < n))) ∧ w = w' := by
  by_cases h1 : 1048576 < n
  · have h2 : (1048576 : Int) < (n : Int) := by omega
    go_enter Tryz.func5, Tryz.ntmps5
    go_wp2
    go_ret
    exact ⟨by simp [h1], rfl⟩
  · have h2 : ¬ (1048576 : Int) < (n : Int) := by omega
    have h3 : decide ((1048576 : Int) < (n : Int)) = false := by simp; omega
    go_enter Tryz.func5, Tryz.ntmps5
    go_wp2
    all_goals go_ret
    all_goals exact ⟨by simp, rfl⟩
end Go.Proofs.YtknppcgoooaaaaaGreatDoor
