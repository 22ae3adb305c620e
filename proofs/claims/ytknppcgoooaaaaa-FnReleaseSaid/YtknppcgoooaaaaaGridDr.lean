/-
  Draws of grids: whatever is drawn is a valid grid.
-/
import Derived.Test.YtknppcgoooaaaaaSrcP
import Derived.Test.YtknppcgoooaaaaaGridV
import Derived.Test.YtknppcgoooaaaaaSl
import Derived.Deep.DeepCutAuto
import Derived.Deep.RegionLaw
namespace Go.Proofs.Ytknppcgoooaaaaa
open Go.ChangeShapes Go.WideShapes Go.ChangeAt Go.RowKit Go.Deep
set_option linter.unusedVariables false

theorem gown_ne_blk {w : World} {B e s n g : Nat} {v : Value} {xs : List Value} {cs : Array Value} {T : TypeId} (h : w.ownsRow B e s v n xs) (hg : w.heap[g]? = some (.cells cs T (0, 0))) (he : e ≠ T) : v.ownBlock ≠ some g := by
  rcases h.2 with ⟨hv, _⟩ | ⟨g1, cap, cur, hv, hb, hh, _⟩
  · rw [hv]; simp [Value.ownBlock]
  · rw [hv]
    intro e1
    simp only [Value.ownBlock, Option.some.injEq] at e1
    subst e1
    rw [hg] at hh
    injection hh with hh
    injection hh with _ e2 _
    exact he e2.symm
theorem gown_setCell {w : World} {base e size n g c : Nat} {xs : List Value} (h : w.ownsRow base e size (.slice (some ⟨g, 0, none⟩) n c) n xs) {p : Addr} (hp : p.block ≠ g) (v : Value) :
    (w.setCell p v).ownsRow base e size (.slice (some ⟨g, 0, none⟩) n c) n xs := by
  refine ⟨h.1, ?_⟩
  rcases h.2 with ⟨hv, h0⟩ | ⟨g', cap, cur, hv, hb, hg, rest⟩
  · simp at hv
  · simp only [Value.slice.injEq, Option.some.injEq, Addr.mk.injEq, and_true, true_and] at hv
    obtain ⟨rfl, rfl⟩ := hv
    exact .inr ⟨g, c, cur, rfl, hb, (Below.heap_setCell w p v g (fun e => hp e.symm)).trans hg, rest⟩
theorem ggrown_new {w wr w' : World} {r r' : Option Nat} (h : w.grownBy wr r) (h' : wr.grownBy w' r') (hr : ∀ g, r' = some g → w.heap.size ≤ g) : w.grownBy w' r :=
  ⟨h'.os.trans h.os, h'.tape.trans h.tape, h'.output.trans h.output, Nat.le_trans h.size h'.size, fun k hk hne => (h'.block k (Nat.lt_of_lt_of_le hk h.size) (fun e => by have := hr k e.symm; omega)).trans (h.block k hk hne)⟩
theorem ggrown_below {w wr w' : World} {r : Option Nat} (h : w.grownBy wr r) (hb : Below wr.heap.size wr w') : w.grownBy w' r :=
  ⟨hb.os.trans h.os, hb.tape.trans h.tape, hb.output.trans h.output, Nat.le_trans h.size hb.size, fun k hk hne => (hb.block k (Nat.lt_of_lt_of_le hk h.size)).trans (h.block k hk hne)⟩
abbrev gArr (R C : Int) (v : Value) : Array Value := #[.int .i64 R, .int .i64 C, .int .i64 10, v]
abbrev gZero : Array Value := #[.int .i64 0, .int .i64 0, .int .i64 0, .slice none 0 0]
/-- The grid that is being filled: its block, its heights so far; beside it the place of the result and the source. -/
structure GBox (w wr : World) (q m rb xb : Nat) (R C : Int) (v : Value) (j : Nat) (xs : List Int) : Prop where
  src : SrcP wr q m
  grow : w.grownBy wr (some q)
  blk : wr.heap[xb]? = some (.cells (gArr R C v) 26 (0, 0))
  res : wr.heap[rb]? = some (.cells gZero 26 (0, 0))
  row : wr.ownsRow xb 2 1 v j (xs.map (.int .i64))
  bd : ∀ x ∈ xs, 0 ≤ x ∧ x ≤ 5000
  hq : q < rb
  hr : rb < xb
  hw : w.heap.size ≤ rb
theorem GBox.lt {w wr : World} {q m rb xb j : Nat} {R C : Int} {v : Value} {xs : List Int} (H : GBox w wr q m rb xb R C v j xs) : xb < wr.heap.size := (Array.getElem?_eq_some_iff.1 H.blk).1
theorem GBox.call {w wr w2 : World} {q m m' rb xb j : Nat} {R C : Int} {v : Value} {xs : List Int} (H : GBox w wr q m rb xb R C v j xs) (hs : SrcP w2 q m') (hg : wr.grownBy w2 (some q)) : GBox w w2 q m' rb xb R C v j xs := by
  have h1 := (Array.getElem?_eq_some_iff.1 H.blk).1
  have h2 := (Array.getElem?_eq_some_iff.1 H.res).1
  have hq := H.hq
  have hr := H.hr
  exact ⟨hs, H.grow.trans hg, (hg.block xb h1 (fun e => by injection e; omega)).trans H.blk, (hg.block rb h2 (fun e => by injection e; omega)).trans H.res,
    H.row.kept hg (.inr fun e => by have := own_blk H.row _ e; omega), H.bd, hq, hr, H.hw⟩
theorem GBox.setC {w wr : World} {q m rb xb : Nat} {R C z : Int} (H : GBox w wr q m rb xb R C (.slice none 0 0) 0 []) : GBox w (wr.setCell ⟨xb, 1, none⟩ (.int .i64 z)) q m rb xb R z (.slice none 0 0) 0 [] := by
  have hgs : wr.grownBy (wr.setCell ⟨xb, 1, none⟩ (.int .i64 z)) (some xb) := grown_setCell (World.grownBy.refl wr (some xb)) rfl _
  have hq := H.hq
  have hr := H.hr
  have hw := H.hw
  exact ⟨H.src.grow hgs (fun g e => by injection e; omega), ggrown_new H.grow hgs (fun g e => by injection e; omega), Go.Joins.block_setCell (i := 1) H.blk (.int .i64 z),
    (hgs.block rb (Array.getElem?_eq_some_iff.1 H.res).1 (fun e => by injection e; omega)).trans H.res, ⟨by simp, .inl ⟨rfl, rfl⟩⟩, by simp, hq, hr, hw⟩
theorem GBox.step {w wr w3 w4 : World} {q m mm rb xb g4 cc4 j : Nat} {R C z : Int} {v : Value} {xs : List Int} (H : GBox w wr q m rb xb R C v j xs) (hg3 : wr.drew.grownBy w3 (some q)) (hs3 : SrcP w3 q mm) (hz : 0 ≤ z ∧ z ≤ 5000)
    (hown4 : w4.ownsRow xb 2 1 (.slice (some ⟨g4, 0, none⟩) (j + 1) cc4) (j + 1) ((xs ++ [z]).map (.int .i64))) (hgrow4 : (w3.alloc (.cells #[.int .i64 z] 2)).grownBy w4 v.ownBlock) (hb4 : w4.heap[xb]? = some (.cells (gArr R C v) 26 (0, 0))) :
    GBox w (w4.setCell ⟨xb, 3, none⟩ (.slice (some ⟨g4, 0, none⟩) (j + 1) cc4)) q mm rb xb R C (.slice (some ⟨g4, 0, none⟩) (j + 1) cc4) (j + 1) (xs ++ [z]) := by
  have hba : Below w3.heap.size w3 (w3.alloc (.cells #[.int .i64 z] 2)) := (Below.refl _ _).alloc (Nat.le_refl _) _
  have hvb : ∀ g, v.ownBlock = some g → xb ≤ g := fun g hg => own_blk H.row g hg
  have hq := H.hq
  have hr := H.hr
  have hw := H.hw
  have hs4 : SrcP w4 q mm := (hs3.below hba).grow hgrow4 (fun g hg => by have := hvb g hg; omega)
  have hgs : w4.grownBy (w4.setCell ⟨xb, 3, none⟩ (.slice (some ⟨g4, 0, none⟩) (j + 1) cc4)) (some xb) := grown_setCell (World.grownBy.refl w4 (some xb)) rfl _
  have hg3' : wr.grownBy w3 (some q) := ⟨hg3.os, hg3.tape, hg3.output, hg3.size, hg3.block⟩
  have h24 : w.grownBy w4 (some q) := ggrown_new (ggrown_below (H.grow.trans hg3') hba) hgrow4 (fun g hg => by have := hvb g hg; omega)
  have hne : g4 ≠ xb := by
    have := gown_ne_blk hown4 hb4 (by decide)
    intro e
    apply this
    simp [Value.ownBlock, e]
  have hrlt := (Array.getElem?_eq_some_iff.1 H.res).1
  have hr3 : w3.heap[rb]? = some (.cells gZero 26 (0, 0)) := (hg3'.block rb hrlt (fun e => by injection e; omega)).trans H.res
  have hr4 : w4.heap[rb]? = some (.cells gZero 26 (0, 0)) := (hgrow4.block rb (by have := hg3'.size; simp; omega) (fun e => by have := hvb rb e.symm; omega)).trans ((Below.heap_alloc w3 _ _ (by have := hg3'.size; omega)).trans hr3)
  refine ⟨hs4.grow hgs (fun g hg => by injection hg with hg; omega), ggrown_new h24 hgs (fun g hg => by injection hg with hg; omega), Go.Joins.block_setCell (i := 3) hb4 _, ?_, gown_setCell hown4 (by show xb ≠ g4; omega) _, fun x hx => ?_, hq, hr, hw⟩
  · exact (hgs.block rb (by have := hg3'.size; have := hgrow4.size; simp at this; omega) (fun e => by injection e; omega)).trans hr4
  · rw [List.mem_append] at hx
    rcases hx with hx | hx
    · exact H.bd x hx
    · simp at hx
      subst hx
      exact hz
theorem GBox.fin {w wr : World} {q m rb xb j g c : Nat} {R C : Int} {xs : List Int} (H : GBox w wr q m rb xb R C (.slice (some ⟨g, 0, none⟩) j c) j xs) (a0 a1 a2 a3 : Value) :
    SrcP ((((wr.setCell ⟨rb, 0, none⟩ a0).setCell ⟨rb, 1, none⟩ a1).setCell ⟨rb, 2, none⟩ a2).setCell ⟨rb, 3, none⟩ a3) q m ∧ w.grownBy ((((wr.setCell ⟨rb, 0, none⟩ a0).setCell ⟨rb, 1, none⟩ a1).setCell ⟨rb, 2, none⟩ a2).setCell ⟨rb, 3, none⟩ a3) (some q) ∧ ((((wr.setCell ⟨rb, 0, none⟩ a0).setCell ⟨rb, 1, none⟩ a1).setCell ⟨rb, 2, none⟩ a2).setCell ⟨rb, 3, none⟩ a3).ownsRow xb 2 1 (.slice (some ⟨g, 0, none⟩) j c) j (xs.map (.int .i64)) := by
  have hgs : wr.grownBy ((((wr.setCell ⟨rb, 0, none⟩ a0).setCell ⟨rb, 1, none⟩ a1).setCell ⟨rb, 2, none⟩ a2).setCell ⟨rb, 3, none⟩ a3) (some rb) := grown_setCell (p := ⟨rb, 3, none⟩) (grown_setCell (p := ⟨rb, 2, none⟩) (grown_setCell (p := ⟨rb, 1, none⟩) (grown_setCell (p := ⟨rb, 0, none⟩) (World.grownBy.refl wr (some rb)) rfl a0) rfl a1) rfl a2) rfl a3
  have hq := H.hq
  have hr := H.hr
  have hw := H.hw
  refine ⟨H.src.grow hgs (fun g e => by injection e; omega), ggrown_new H.grow hgs (fun g e => by injection e; omega), H.row.kept hgs (.inr fun e => by have := own_blk H.row _ e; omega)⟩
theorem glt_of_pick {x k : Int} (h0 : 0 ≤ x) (h : x < k ∨ x = 0) (hk : 0 < k) : x < k := by omega
theorem gmul_bd {s r : Int} (h0 : 0 ≤ s) (h1 : s < 14) (h2 : 0 ≤ r) (h3 : r < 6) : 0 ≤ s * r ∧ s * r ≤ 70 := by
  have := Int.mul_nonneg h0 h2
  have : s * r ≤ 13 * 5 := Int.mul_le_mul (by omega) (by omega) h2 (by omega)
  omega
/-- A grid as a value: what it is to be when it was drawn. -/
def GridD (w : World) (e : Ending) (w' : World) : Prop := ∃ (R C : Int) (a : Addr) (n c : Nat) (hs : List Int), e = .returned (.agg #[.int .i64 R, .int .i64 C, .int .i64 10, .slice (some a) n c]) ∧ GridA w' R C 10 (some a) n hs ∧ gridOk R C 10 hs = true ∧ n ≤ 20 ∧ w.heap.size ≤ a.block
set_option maxRecDepth 100000 in
set_option maxHeartbeats 4000000 in
theorem l09Draw_d (q m : Nat) (w : World) (H : SrcP w q m) (hm : m ≤ 1000000000) :
    Calls Try.prog 19 #[.pointer (some ⟨q, 0, none⟩)] w fun e w' => GridD w e w' ∧ SrcP w' q (m + 200) ∧ w.grownBy w' (some q) := by
  have hq := H.lt
  have hb0 : Below w.heap.size w (w.alloc (.cells gZero 26)) := (Below.refl _ _).alloc (Nat.le_refl _) _
  have H0 := Lib.hid (And.intro (H.below hb0) hb0)
  clear H hb0
  go_enter Try.func19, Try.ntmps19
  go_wp2_with fail
  refine (pick_p _ _ 4 _ H0.out.1 (by omega) (by omega)).mono ?_
  rintro e w1 ⟨⟨x1, rfl, hx1, hx1'⟩, hs1, hg1⟩
  replace hx1' := glt_of_pick hx1 hx1' (by omega)
  have hz1 : w.heap.size < w1.heap.size := by have := hg1.size; simp at this; omega
  have hba : Below w1.heap.size w1 (w1.alloc (.cells (gArr (2 + x1) 2 (.slice none 0 0)) 26)) := (Below.refl _ _).alloc (Nat.le_refl _) _
  have H1 := Lib.hid (show GBox w (w1.alloc (.cells (gArr (2 + x1) 2 (.slice none 0 0)) 26)) q (m + 2) w.heap.size w1.heap.size (2 + x1) 2 (.slice none 0 0) 0 [] from
    ⟨hs1.below hba, ggrown_below (grown_alloc hg1) hba, blk_alloc_new _ _, (hba.block _ hz1).trans ((hg1.block _ (by simp) (fun e => by injection e; omega)).trans (blk_alloc_new _ _)), ⟨by simp, .inl ⟨rfl, rfl⟩⟩, by simp, hq, hz1, Nat.le_refl _⟩)
  clear hs1 hg1 hba H0
  obtain ⟨R, hR⟩ : ∃ R, R = 2 + x1 := ⟨_, rfl⟩
  have hRb : 2 ≤ R ∧ R ≤ 5 := by omega
  rw [← hR] at H1
  go_wp2_with fail
  rw [← hR]
  clear hR hx1 hx1'
  refine (pick_p _ _ 3 _ H1.out.src (by omega) (by omega)).mono ?_
  rintro e w2 ⟨⟨x2, rfl, hx2, hx2'⟩, hs2, hg2⟩
  replace hx2' := glt_of_pick hx2 hx2' (by omega)
  have HA2 := Lib.hid (H1.out.call hs2 hg2)
  have c2 := Go.Joins.cell_of_block HA2.out.blk 1
  simp only [List.getElem?_toArray, List.getElem?_cons_zero, List.getElem?_cons_succ] at c2
  have u2 := Go.Joins.unfrozen_of_block HA2.out.blk 1
  have HB2 := Lib.hid (HA2.out.setC (z := 2 + x2))
  clear hs2 hg2
  go_wp2_with fail
  generalize hwr : World.setCell _ _ _ = wq
  rw [hwr] at HB2
  clear hwr c2 u2 HA2
  obtain ⟨C, hC⟩ : ∃ C, C = 2 + x2 := ⟨_, rfl⟩
  have hCb : 2 ≤ C ∧ C ≤ 4 := by omega
  rw [← hC] at HB2
  rw [← hC]
  clear hC hx2 hx2'
  obtain ⟨xb, hxb⟩ : ∃ xb, xb = w1.heap.size := ⟨_, rfl⟩
  rw [← hxb] at HB2
  rw [← hxb]
  clear hxb H1 hz1
  refine (pick_p _ _ 14 _ HB2.out.src (by omega) (by omega)).mono ?_
  rintro e w3 ⟨⟨s, rfl, hsp, hsp'⟩, hs3, hg3⟩
  replace hsp' := glt_of_pick hsp hsp' (by omega)
  have H3 := Lib.hid (HB2.out.call hs3 hg3)
  clear hs3 hg3 HB2
  obtain ⟨rn, rfl⟩ : ∃ rn : Nat, R = (rn : Int) := ⟨R.toNat, by omega⟩
  obtain ⟨cn, rfl⟩ : ∃ cn : Nat, C = (cn : Int) := ⟨C.toNat, by omega⟩
  have hrn : 2 ≤ rn ∧ rn ≤ 5 := by omega
  have hcn : 2 ≤ cn ∧ cn ≤ 4 := by omega
  clear hRb hCb
  go_wp2_with fail
  go_loopw [5, 6] (fun rv _ wr => ∃ (r j : Nat) (v : Value) (xs : List Int), r ≤ rn ∧ rv = .int .i64 r ∧ j ≤ 4 * r ∧ Hid (j = r * cn) ∧ Hid (GBox w wr q (m + 10 + 2 * j) w.heap.size xb rn cn v j xs)) (fun rv _ _ => rn - (intOf rv).toNat)
  case atStart => exact ⟨0, 0, _, _, Nat.zero_le _, rfl, by omega, (show 0 = 0 * cn by simp), H3.out.call (H3.out.src.mono (by omega)) (World.grownBy.refl _ _)⟩
  case round =>
    clear H3
    obtain ⟨r, j, v, xs, hr, rfl, hj, HJ, HG⟩ := hrel
    have c0 := Go.Joins.cell_of_block HG.out.blk 0
    simp only [List.getElem?_toArray, List.getElem?_cons_zero] at c0
    by_cases hlt : r < rn
    · have hri : (r : Int) < (rn : Int) := by omega
      go_wp2_with fail
      clear c0
      rename World => wo
      go_loopw [6] (fun cv wr => ∃ (c j : Nat) (v : Value) (xs : List Int), c ≤ cn ∧ cv = .int .i64 c ∧ j ≤ 4 * r + c ∧ Hid (j = r * cn + c) ∧ Hid (GBox w wr q (m + 10 + 2 * j) w.heap.size xb rn cn v j xs)) (fun cv _ => cn - (intOf cv).toNat)
      case atStart => exact ⟨0, j, v, xs, Nat.zero_le _, rfl, by omega, HJ.out, HG.out⟩
      case round =>
        clear HJ HG hj
        obtain ⟨c, j, v, xs, hc, rfl, hj, HJ, HG⟩ := hrel
        have c1 := Go.Joins.cell_of_block HG.out.blk 1
        have c3 := Go.Joins.cell_of_block HG.out.blk 3
        have u3 := Go.Joins.unfrozen_of_block HG.out.blk 3
        simp only [List.getElem?_toArray, List.getElem?_cons_zero, List.getElem?_cons_succ] at c1 c3
        by_cases hclt : c < cn
        · have hci : (c : Int) < (cn : Int) := by omega
          have hmb := gmul_bd hsp hsp' (show (0 : Int) ≤ (r : Int) by omega) (by omega)
          have hvn := gown_ne_blk HG.out.row HG.out.blk (by decide)
          have hvq : v.ownBlock ≠ some q := fun e => by have := own_blk HG.out.row q e; have := HG.out.hq; have := HG.out.hr; omega
          have HVN := Lib.hid (And.intro hvn hvq)
          have hq2 : q ≠ xb := by have := HG.out.hq; have := HG.out.hr; omega
          have hxl := HG.out.lt
          obtain ⟨P, hP⟩ : ∃ P, P = s * (r : Int) := ⟨_, rfl⟩
          rw [← hP] at hmb
          have hw1 : IntKind.i64.wrap (s * (r : Int)) = P := by rw [← hP]; exact IntWalk.i64_in _ (by omega)
          have hw2 : IntKind.i64.wrap (1500 - P) = 1500 - P := IntWalk.i64_in _ (by omega)
          clear hvn hvq hP
          go_upto_region 10 with (fail)
          go_region_law (first
            | (go_simp; go_at_call 35; refine (pick_p q _ 7 wr.drew (show SrcP wr.drew q _ from HG.out.src) (by omega) (by omega)).mono ?_; rintro e w4 ⟨⟨x, rfl, hx1, hx2⟩, hs4, hg4⟩; replace hx2 := glt_of_pick hx1 hx2 (by omega); have hw3 : IntKind.i64.wrap (1500 - P + x) = 1500 - P + x := IntWalk.i64_in _ (by omega); have hz4 : wr.heap.size ≤ w4.heap.size := hg4.size; have hz5 : xb < w4.heap.size := (by omega); have hb4 : w4.heap[xb]? = some (.cells (gArr rn cn v) 26 (0, 0)) := (hg4.block xb (show xb < wr.heap.size from hxl) (fun e => hq2 (Option.some.inj e).symm)).trans HG.out.blk; have hS1 : w4.cell? ⟨xb, 3, none⟩ = some v := by have := Go.Joins.cell_of_block hb4 3; simpa using this)
            | (refine step_app_int rfl (.tmp 30) (.tmp 38) 24 rfl xb 2 Try.underlying24 info_int v j xs (1500 - P + x) rfl ((HG.out.row.kept (w := wr.drew) hg4 (.inr HVN.out.2)).alloc _) w4.heap.size rfl (heap_alloc_new w4 _) (by omega) (by simp; omega) ?_; intro v' w5 hown5 hgrow5 hv5; obtain ⟨g5, cc5, rfl⟩ := hv5; have hb5 : w5.heap[xb]? = some (.cells (gArr rn cn v) 26 (0, 0)) := (hgrow5.block xb (by simp; omega) (fun e => HVN.out.1 e.symm)).trans ((Below.heap_alloc w4 _ _ (by omega)).trans hb4); have c5 : w5.cell? ⟨xb, 3, none⟩ = some v := (by have := Go.Joins.cell_of_block hb5 3; simpa using this); have u5 := Go.Joins.unfrozen_of_block hb5 3))
          all_goals
            have HF := Lib.hid (HG.out.step hg4 hs4 (z := 1500 - P + x) (by omega) hown5 hgrow5 hb5)
            clear hs4 hg4 hown5 hgrow5 hb5 hb4 c5 u5 hS1 c1 c3 u3
            go_wp2_with fail
            go_roundw
            case rel => exact ⟨c + 1, j + 1, _, _, by omega, by go_num, by omega, by rw [HJ.out]; exact Lib.hid (by omega), HF.out.call (HF.out.src.mono (by omega)) (World.grownBy.refl _ _)⟩
            case measure => simp [intOf]; omega
        · obtain rfl : c = cn := by omega
          go_wp2_with fail
          go_roundw
          case rel => exact ⟨r + 1, j, v, xs, by omega, by go_num, by omega, by rw [HJ.out]; exact Lib.hid (by rw [Nat.succ_mul]), HG.out⟩
          case measure => simp [intOf]; omega
    · obtain rfl : r = rn := by omega
      have hjp : 0 < j := by rw [HJ.out]; exact Nat.mul_pos (by omega) (by omega)
      obtain ⟨A', c', rfl, _⟩ := own_form HG.out.row
      obtain ⟨g, rfl⟩ : ∃ g, A' = some ⟨g, 0, none⟩ := by
        rcases HG.out.row.2 with ⟨hv, h00⟩ | ⟨g, cap, cur, hv, _⟩
        · omega
        · simp only [Value.slice.injEq] at hv
          exact ⟨g, hv.1⟩
      have c1 := Go.Joins.cell_of_block HG.out.blk 1
      have c2 := Go.Joins.cell_of_block HG.out.blk 2
      have c3 := Go.Joins.cell_of_block HG.out.blk 3
      have k0 := Go.Joins.cell_of_block HG.out.res 0
      have k1 := Go.Joins.cell_of_block HG.out.res 1
      have k2 := Go.Joins.cell_of_block HG.out.res 2
      have k3 := Go.Joins.cell_of_block HG.out.res 3
      simp only [List.getElem?_toArray, List.getElem?_cons_zero, List.getElem?_cons_succ] at c1 c2 c3 k0 k1 k2 k3
      have r0 := Go.Joins.unfrozen_of_block HG.out.res 0
      have r1 := Go.Joins.unfrozen_of_block HG.out.res 1
      have r2 := Go.Joins.unfrozen_of_block HG.out.res 2
      have r3 := Go.Joins.unfrozen_of_block HG.out.res 3
      have hne : w.heap.size ≠ xb := by have := HG.out.hr; omega
      have HE := Lib.hid (HG.out.fin (.int .i64 (r : Int)) (.int .i64 (cn : Int)) (.int .i64 10) (.slice (some ⟨g, 0, none⟩) j c'))
      have hxl := HG.out.row.1
      have HK := Lib.hid (show GridA ((((wr.setCell ⟨w.heap.size, 0, none⟩ (.int .i64 (r : Int))).setCell ⟨w.heap.size, 1, none⟩ (.int .i64 (cn : Int))).setCell ⟨w.heap.size, 2, none⟩ (.int .i64 10)).setCell ⟨w.heap.size, 3, none⟩ (.slice (some ⟨g, 0, none⟩) j c')) r cn 10 (some ⟨g, 0, none⟩) j xs ∧ gridOk r cn 10 xs = true from by
        have hl : xs.length = j := by simpa using hxl
        refine ⟨⟨Ints.of_own HE.out.2.2 (fun x hx => by have := HG.out.bd x hx; omega), by omega, by omega, by omega⟩, gridOk_iff.2 ⟨by omega, by omega, by omega, ?_, ?_⟩⟩
        · rw [hl, HJ.out]; simp
        · exact allB_iff.2 fun k x hk => HG.out.bd x (List.mem_of_getElem? hk))
      clear hxl
      go_wp2_with fail
      exact bodyPost_ret (v := .agg #[.int .i64 (r : Int), .int .i64 (cn : Int), .int .i64 10, .slice (some ⟨g, 0, none⟩) j c']) (by simp [results, Try.results19, go_sem, *]) rfl ⟨⟨_, _, _, _, _, _, rfl, HK.out.1, HK.out.2, by omega, by have := own_blk HG.out.row g rfl; have := HG.out.hr; show w.heap.size ≤ g; omega⟩, HE.out.1.mono (by omega), HE.out.2.1⟩
end Go.Proofs.Ytknppcgoooaaaaa
