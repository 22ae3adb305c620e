/-
  Grids and cells drawn; the cells around a cell and the descent from it, as the law asks for them.
-/
import Derived.Test.YtknppcgoooaaaaaGridDr
import Derived.Test.YtknppcgoooaaaaaGridGs
namespace Go.Proofs.Ytknppcgoooaaaaa
open Go.ChangeShapes Go.WideShapes Go.ChangeAt Go.RowKit Go.Deep
set_option linter.unusedVariables false

theorem r8Has_any (A : Option Addr) (n c : Nat) (v : Int) (xs : List Int) (w : World) (h : Ints w A n xs) :
    Calls Try.prog 12 #[.slice A n c, .int .i64 v] w fun e w' => e = .returned (.bool (hasB xs v)) ∧ ∃ q, w' = w.drewN q := by
  have hn := h.2.1
  have HL := Lib.hid h.1
  go_enter Try.func12, Try.ntmps12
  go_wp2_with fail
  go_loopw [5] (fun i wr => ∃ k q : Nat, k ≤ n ∧ i = .int .i64 k ∧ wr = w.drewN q ∧ Hid (∀ (j : Nat) (y : Int), j < k → xs[j]? = some y → y ≠ v)) (fun i _ => n - (intOf i).toNat)
  case atStart => exact ⟨0, 0, Nat.zero_le _, rfl, rfl, fun j y hj => absurd hj (by omega)⟩
  case round =>
    obtain ⟨k, q, hk, rfl, rfl, HK⟩ := hrel
    by_cases hlt : k < n
    · obtain ⟨b, off, x, rfl, HX, hc, hx1, hx2⟩ := h.at_ hlt
      have hki : (k : Int) < (n : Int) := by omega
      by_cases hxv : x = v
      · subst hxv
        have HN := Lib.hid (hasB_yes HX.out)
        go_wp2_with fail
        go_ret
        exact ⟨ret_bool (by rw [HN.out]), _, rfl⟩
      · have HNE := Lib.hid hxv
        have he : (x == v) = false := by simpa using hxv
        have he2 : (v == x) = false := by simpa using fun e => hxv (Eq.symm e)
        clear hxv
        go_wp2_with fail
        go_roundw
        case rel => exact ⟨k + 1, _, by omega, by go_num, rfl, fun j y hj hy => by
          by_cases e : j = k
          · subst e
            have a := HX.out.symm.trans hy
            injection a with a
            rw [← a]; exact HNE.out
          · exact HK.out j y (by omega) hy⟩
        case measure => simp [intOf]; omega
    · obtain rfl : k = n := by omega
      have HN := Lib.hid (hasB_no (xs := xs) (x := v) fun j y hj hy => HK.out j y (by rw [← HL.out]; exact hj) hy)
      clear hlt
      go_wp2_with fail
      go_ret
      exact ⟨ret_bool (by rw [HN.out]), _, rfl⟩
/-- The heights of a grid lie elsewhere than the place of the result. -/
theorem grid_put {w w2 : World} {R C : Int} {a : Addr} {m : Nat} {hs : List Int} {T : TypeId} (h : GridA w2 R C 10 (some a) m hs) (hok : gridOk R C 10 hs = true) (hb : w2.heap[w.heap.size]? = some (.cells gZero T (0, 0))) (ha : w.heap.size ≠ a.block) (HB : Below w.heap.size w w2) (a0 a1 a2 a3 : Value) :
    GridA ((((w2.setCell ⟨w.heap.size, 0, none⟩ a0).setCell ⟨w.heap.size, 1, none⟩ a1).setCell ⟨w.heap.size, 2, none⟩ a2).setCell ⟨w.heap.size, 3, none⟩ a3) R C 10 (some a) m hs ∧ Below w.heap.size w ((((w2.setCell ⟨w.heap.size, 0, none⟩ a0).setCell ⟨w.heap.size, 1, none⟩ a1).setCell ⟨w.heap.size, 2, none⟩ a2).setCell ⟨w.heap.size, 3, none⟩ a3) := by
  have hgs : w2.grownBy ((((w2.setCell ⟨w.heap.size, 0, none⟩ a0).setCell ⟨w.heap.size, 1, none⟩ a1).setCell ⟨w.heap.size, 2, none⟩ a2).setCell ⟨w.heap.size, 3, none⟩ a3) (some w.heap.size) := grown_setCell (p := ⟨w.heap.size, 3, none⟩) (grown_setCell (p := ⟨w.heap.size, 2, none⟩) (grown_setCell (p := ⟨w.heap.size, 1, none⟩) (grown_setCell (p := ⟨w.heap.size, 0, none⟩) (World.grownBy.refl w2 (some w.heap.size)) rfl a0) rfl a1) rfl a2) rfl a3
  refine ⟨⟨h.1.keep hgs (fun b off e e2 => ?_), h.2⟩, below_grown HB hgs HB.size (Nat.le_refl _)⟩
  injection e with e
  injection e2 with e2
  exact ha (by rw [e]; exact e2.symm)
set_option maxRecDepth 100000 in
set_option maxHeartbeats 800000 in
theorem R8Grid_d (A : Option Addr) (n c : Nat) (w : World) (h : Byts w A n) :
    Calls Try.prog 5 #[.slice A n c] w fun e w' => GridD w e w' ∧ Below w.heap.size w w' := by
  have hb0 : Below w.heap.size w (w.alloc (.cells gZero 26)) := (Below.refl _ _).alloc (Nat.le_refl _) _
  have HH := Lib.hid (And.intro (h.below hb0) hb0)
  clear h hb0
  go_enter Try.func5, Try.ntmps5
  go_wp2_with fail
  have hzz : (w.alloc (.cells gZero 26)).heap.size = w.heap.size + 1 := by simp
  refine ((from_p _ _ _ _ HH.out.1).mono fun e w' ⟨he, hs, hb⟩ => (⟨by rw [he, hzz], by rw [← hzz]; exact hs, by rw [← hzz]; exact hb⟩ : e = Ending.returned (.pointer (some ⟨w.heap.size + 1, 0, none⟩)) ∧ SrcP w' (w.heap.size + 1) 0 ∧ Below (w.heap.size + 1) (w.alloc (.cells gZero 26)) w')).mono ?_
  rintro e w1 ⟨rfl, hs1, hb1⟩
  have hz2 : w.heap.size + 1 ≤ w1.heap.size := by have := hb1.size; rw [hzz] at this; exact this
  have H1 := Lib.hid (And.intro hs1 (And.intro hb1 (show w1.heap[w.heap.size]? = some (.cells gZero 26 (0, 0)) from (hb1.block _ (by omega)).trans (blk_alloc_new _ _))))
  clear hs1 hb1 hzz
  go_wp2_with fail
  refine (l09Draw_d _ _ _ H1.out.1 (by omega)).mono ?_
  rintro e w2 ⟨⟨R, C, a, m, d, hs, rfl, hga, hok, hm20, hab⟩, hs2, hg2⟩
  have hne : w.heap.size ≠ w.heap.size + 1 := by omega
  have hb2 : w2.heap[w.heap.size]? = some (.cells gZero 26 (0, 0)) := (hg2.block _ (by omega) (fun e => hne (Option.some.inj e))).trans H1.out.2.2
  have HB2 := Lib.hid (show Below w.heap.size w w2 from below_grown (HH.out.2.trans (H1.out.2.1.mono (by omega))) hg2 (by omega) (by omega))
  have k0 := Go.Joins.cell_of_block hb2 0
  have k1 := Go.Joins.cell_of_block hb2 1
  have k2 := Go.Joins.cell_of_block hb2 2
  have k3 := Go.Joins.cell_of_block hb2 3
  simp only [List.getElem?_toArray, List.getElem?_cons_zero, List.getElem?_cons_succ] at k0 k1 k2 k3
  have r0 := Go.Joins.unfrozen_of_block hb2 0
  have r1 := Go.Joins.unfrozen_of_block hb2 1
  have r2 := Go.Joins.unfrozen_of_block hb2 2
  have r3 := Go.Joins.unfrozen_of_block hb2 3
  have HF := Lib.hid (grid_put hga hok hb2 (by omega) HB2.out (.int .i64 R) (.int .i64 C) (.int .i64 10) (.slice (some a) m d))
  clear hs2 hg2 hb2 hga hne
  go_wp2_with fail
  exact bodyPost_ret (v := .agg #[.int .i64 R, .int .i64 C, .int .i64 10, .slice (some a) m d]) (by simp [results, Try.results5, go_sem, *]) rfl ⟨⟨_, _, _, _, _, _, rfl, HF.out.1, hok, hm20, by omega⟩, HF.out.2⟩
/-- Cells under way: rising, below c. -/
def CBag (w : World) (B j c : Nat) (o : Value) (xs : List Int) : Prop :=
  w.ownsRow B 2 1 o j (xs.map (.int .i64)) ∧ (∃ g d, o = .slice (some ⟨g, 0, none⟩) j d) ∧ xs.Pairwise (· < ·) ∧ ∀ x ∈ xs, 0 ≤ x ∧ x < c
theorem CBag.up {w : World} {B j c : Nat} {o : Value} {xs : List Int} (h : CBag w B j c o xs) : CBag w B j (c + 1) o xs := ⟨h.1, h.2.1, h.2.2.1, fun x hx => by have := h.2.2.2 x hx; omega⟩
theorem CBag.src {w w' : World} {B j c q : Nat} {o : Value} {xs : List Int} (h : CBag w B j c o xs) (hg : w.grownBy w' (some q)) (hq : q < B) : CBag w' B j c o xs :=
  ⟨h.1.kept hg (.inr fun e => by have := own_blk h.1 _ e; omega), h.2⟩
theorem cbag_step {w wr w4 : World} {q m B j c : Nat} {o v' : Value} {xs : List Int} (hs : SrcP wr q m) (hg : w.grownBy wr (some q)) (hbag : CBag wr B j c o xs) (hq : q < B) (hB : w.heap.size ≤ B)
    (hown : w4.ownsRow B 2 1 v' (j + 1) ((xs ++ [(c : Int)]).map (.int .i64))) (hgrow : wr.grownBy w4 o.ownBlock) (hv : ∃ g d, v' = .slice (some ⟨g, 0, none⟩) (j + 1) d) : SrcP w4 q m ∧ w.grownBy w4 (some q) ∧ CBag w4 B (j + 1) (c + 1) v' (xs ++ [(c : Int)]) := by
  refine ⟨hs.grow hgrow (fun g hg => by have := own_blk hbag.1 g hg; omega), ggrown_new hg hgrow (fun g hg => by have := own_blk hbag.1 g hg; omega), hown, hv, ?_, fun x hx => ?_⟩
  · rw [List.pairwise_append]
    refine ⟨hbag.2.2.1, by simp, fun a ha b hb => ?_⟩
    simp at hb
    have := hbag.2.2.2 a ha
    omega
  · rw [List.mem_append] at hx
    rcases hx with hx | hx
    · have := hbag.2.2.2 x hx; omega
    · simp at hx; omega
/-- Cells of a grid, drawn. -/
def CellsD (w : World) (n : Nat) (e : Ending) (w' : World) : Prop := ∃ (a : Addr) (m d : Nat) (xs : List Int), e = .returned (.slice (some a) m d) ∧ Ints w' (some a) m xs ∧ xs.Pairwise (· < ·) ∧ ∀ x ∈ xs, 0 ≤ x ∧ x < n
set_option maxRecDepth 100000 in
set_option maxHeartbeats 1600000 in
theorem R8Cells_d (A : Option Addr) (n c : Nat) (R C : Int) (A2 : Option Addr) (n2 c2 : Nat) (w : World) (h : Byts w A n) (h20 : n2 ≤ 20) :
    Calls Try.prog 6 #[.slice A n c, .agg #[.int .i64 R, .int .i64 C, .int .i64 10, .slice A2 n2 c2]] w fun e w' => CellsD w n2 e w' ∧ Below w.heap.size w w' := by
  obtain ⟨wb, hwb⟩ : ∃ wb, wb = w.alloc (.cells (gArr R C (.slice A2 n2 c2)) 26) := ⟨_, rfl⟩
  have hb0 : Below w.heap.size w wb := by rw [hwb]; exact (Below.refl _ _).alloc (Nat.le_refl _) _
  have hzz : wb.heap.size = w.heap.size + 1 := by rw [hwb]; simp
  have hcb : wb.cell? ⟨w.heap.size, 3, none⟩ = some (.slice A2 n2 c2) := by
    have := Go.Joins.cell_of_block (show wb.heap[w.heap.size]? = some (.cells (gArr R C (.slice A2 n2 c2)) 26 (0, 0)) by rw [hwb]; exact blk_alloc_new _ _) 3
    simpa using this
  have HH := Lib.hid (And.intro (h.below hb0) (And.intro hb0 (And.intro hwb hcb)))
  clear h hb0 hwb hcb
  go_enter Try.func6, Try.ntmps6
  go_wp2_with fail
  rw [show w.alloc (.cells (gArr R C (.slice A2 n2 c2)) 26) = wb from HH.out.2.2.1.symm]
  refine ((from_p _ _ _ _ HH.out.1).mono fun e w' ⟨he, hs, hb⟩ => (⟨by rw [he, hzz], by rw [← hzz]; exact hs, hb⟩ : e = Ending.returned (.pointer (some ⟨w.heap.size + 1, 0, none⟩)) ∧ SrcP w' (w.heap.size + 1) 0 ∧ Below wb.heap.size wb w')).mono ?_
  rintro e w1 ⟨rfl, hs1, hb1⟩
  have hz1 := hs1.lt
  have hown0 := World.ownsRow_lit (base := w1.heap.size) (e := 2) (size := 1) w1 #[] 0 (Nat.le_refl _) (by simp) rfl
  have hba : Below w1.heap.size w1 (w1.alloc (.cells #[] 2)) := (Below.refl _ _).alloc (Nat.le_refl _) _
  have hc1 := cell_kept hb1 HH.out.2.2.2
  have H1 := Lib.hid (And.intro (hs1.below hba) (And.intro (HH.out.2.1.trans (hb1.mono HH.out.2.1.size)) (And.intro (ggrown_below (World.grownBy.refl w1 (some (w.heap.size + 1))) hba) (And.intro (show CBag (w1.alloc (.cells #[] 2)) w1.heap.size 0 0 (.slice (some ⟨w1.heap.size, 0, none⟩) 0 0) [] from ⟨hown0, ⟨_, _, rfl⟩, by simp, by simp⟩) hc1))))
  clear hs1 hb1 hown0 hba hc1 hzz
  go_wp2_with fail
  go_loopw [6, 7] (fun o kv wr => ∃ (k j : Nat) (xs : List Int), k ≤ n2 ∧ j ≤ k ∧ kv = .int .i64 k ∧ SrcP wr (w.heap.size + 1) (2 * k) ∧ w1.grownBy wr (some (w.heap.size + 1)) ∧ CBag wr w1.heap.size j k o xs) (fun _ kv _ => n2 - (intOf kv).toNat)
  case atStart => exact ⟨0, 0, [], Nat.zero_le _, Nat.zero_le _, rfl, H1.out.1, H1.out.2.2.1, H1.out.2.2.2.1⟩
  case round =>
    obtain ⟨k, j, xs, hk, hj, rfl, hs, hgr, hbag⟩ := hrel
    have hc3 := hgr.cell (a := ⟨w.heap.size, 3, none⟩) H1.out.2.2.2.2 (fun e => by injection e with e; simp at e)
    have hz := hgr.size
    have HR := Lib.hid (And.intro hs (And.intro hgr hbag))
    clear hs hgr hbag
    by_cases hlt : k < n2
    · have hki : (k : Int) < (n2 : Int) := by omega
      go_wp2_with fail
      refine (one_p _ _ 3 _ HR.out.1 (by omega) (by omega)).mono ?_
      rintro e w2 ⟨⟨x, rfl⟩, hs2, hg2⟩
      have hz2 := hg2.size
      have H2 := Lib.hid (And.intro hs2 (And.intro (HR.out.2.1.trans hg2) (HR.out.2.2.src hg2 hz1)))
      clear hs2 hg2 hc3
      cases x
      · go_wp2_with fail
        go_roundw
        case rel => exact ⟨k + 1, j, xs, by omega, by omega, by go_num, H2.out.1.mono (by omega), H2.out.2.1, H2.out.2.2.up⟩
        case measure => simp [intOf]; omega
      · go_wp2_with (at_builtin; refine wp_app_int rfl (.tmp 20) (.tmp 22) 24 rfl w1.heap.size 2 Try.underlying24 info_int _ j xs (k : Int) (by rfl) H2.out.2.2.1 (by rfl) (by omega) (by omega) ?_; intro v' w5 hown5 hgrow5 hv5)
        have HF := Lib.hid (cbag_step H2.out.1 H2.out.2.1 H2.out.2.2 hz1 (Nat.le_refl _) hown5 hgrow5 hv5)
        clear hown5 hgrow5
        go_roundw
        case rel => exact ⟨k + 1, j + 1, _, by omega, by omega, by go_num, HF.out.1.mono (by omega), HF.out.2.1, HF.out.2.2⟩
        case measure => simp [intOf]; omega
    · obtain rfl : k = n2 := by omega
      obtain ⟨g, d, rfl⟩ := HR.out.2.2.2.1
      go_wp2_with fail
      go_ret
      exact ⟨⟨_, _, _, xs, rfl, Ints.of_own HR.out.2.2.1 (fun x hx => by have := HR.out.2.2.2.2.2 x hx; omega), HR.out.2.2.2.2.1, HR.out.2.2.2.2.2⟩, below_grown H1.out.2.1 HR.out.2.1 (by have := H1.out.2.1.size; omega) (by omega)⟩
theorem l09Cell_t (b : Nat) (R C S : Int) (A : Option Addr) (n c k : Nat) (hs : List Int) (w : World) (h : GridAt w b R C S A n c hs) (h1 : 1 ≤ R * C) (h2 : R * C ≤ 64) (hk : (k : Int) ≤ R * C - 1) :
    Calls Try.prog 40 #[.pointer (some ⟨b, 0, none⟩), .int .i64 k] w fun e w' => e = .returned (.bool true) ∧ ∃ q, w' = w.drewN q := by
  obtain ⟨p0, p1, p2, p3, _⟩ := h
  have hw1 : IntKind.i64.wrap (R * C) = R * C := IntWalk.i64_in _ (by omega)
  have hw2 : IntKind.i64.wrap (R * C - 1) = R * C - 1 := IntWalk.i64_in _ (by omega)
  have HB := Lib.hid (inB_iff.2 (show (0 : Int) ≤ (k : Int) ∧ (k : Int) ≤ R * C - 1 from ⟨by omega, hk⟩))
  go_enter Try.func40, Try.ntmps40
  go_wp2_with fail
  go_quiet ((go_at_call 48; exact quiet_left (l00In_any _ _ _ _)))
  go_wp2_with fail
  go_ret
  exact ⟨ret_bool (by rw [HB.out]), _, rfl⟩
theorem l09Ask_t (b : Nat) (R C S : Int) (A : Option Addr) (n c k : Nat) (hs : List Int) (w : World) (h : GridAt w b R C S A n c hs) (hv : gridOk R C S hs = true) (hk : k < n) :
    Calls Try.prog 25 #[.pointer (some ⟨b, 0, none⟩), .int .i64 k] w fun e w' => e = .returned (.int .i64 0) ∧ Below w.heap.size w w' := by
  obtain ⟨⟨r1, r2⟩, ⟨c1, c2⟩, ⟨s1, s2⟩, hn, hall⟩ := gridOk_iff.1 hv
  have hm := mul64 r1 r2 c1 c2
  have hl := h.2.2.2.2.1.1
  have hkb : (k : Int) ≤ R * C - 1 := by omega
  have HH := Lib.hid (And.intro h hv)
  clear h hv hall hn
  go_enter Try.func25, Try.ntmps25
  go_wp2_with fail
  refine (l09Ok_any _ _ _ _ _ _ _ hs _ HH.out.1).mono ?_
  rintro e w1 ⟨rfl, q1, rfl⟩
  rw [HH.out.2]
  go_wp2_with fail
  refine (l09Cell_t b R C S A n c k hs _ (HH.out.1.drewN q1) (by omega) (by omega) hkb).mono ?_
  rintro e w2 ⟨rfl, q2, rfl⟩
  go_wp2_with fail
  go_ret
  exact ⟨rfl, below_drewN (Below.refl _ _) _⟩
set_option maxRecDepth 100000 in
theorem NeighboursOf_t (R C S : Int) (A : Option Addr) (n c k : Nat) (hs : List Int) (w : World) (h : GridA w R C S A n hs) (hv : gridOk R C S hs = true) (hk : k < n) :
    Calls Try.prog 13 #[.agg #[.int .i64 R, .int .i64 C, .int .i64 S, .slice A n c], .int .i64 k] w fun e w' => ∃ A' c', e = .returned (.tuple #[.slice A' (near R C k).length c', .int .i64 0]) ∧ Ints w' A' (near R C k).length (near R C k) ∧ Below w.heap.size w w' := by
  obtain ⟨⟨r1, r2⟩, ⟨c1, c2⟩, ⟨s1, s2⟩, hn, hall⟩ := gridOk_iff.1 hv
  have hm := mul64 r1 r2 c1 c2
  have hl := h.1.1
  have hnb := nearTo_bd (R := R) (C := C) (k := k) (m := 8) c1 (by omega) (by omega)
  have HN := Lib.hid hnb
  have HB := Lib.hid (And.intro (h.box (c := c) 26) (And.intro hv (boxG_of w R C S A n c 26)))
  have HB0 := Lib.hid ((Below.refl w.heap.size w).alloc (Nat.le_refl _) (.cells #[.int .i64 R, .int .i64 C, .int .i64 S, .slice A n c] 26))
  have h64 : n ≤ 64 := by omega
  clear h hv hall hnb hn hl
  go_enter Try.func13, Try.ntmps13
  go_wp2_with fail
  refine (l09Ask_t _ R C S A n c k hs _ HB.out.1 HB.out.2.1 hk).mono ?_
  rintro e w1 ⟨rfl, hb1⟩
  have H1 := Lib.hid hb1
  clear hb1
  go_wp2_with fail
  refine (l09Near_any _ R C S A n c k _ (HB.out.2.2.below H1.out) r1 r2 c1 c2 hk h64).mono ?_
  rintro e w2 ⟨A', c', rfl, hf, hb2⟩
  have H2 := Lib.hid (And.intro (hf.ints HN.out) (HB0.out.trans ((H1.out.trans (hb2.mono H1.out.size)).mono (by simp))))
  clear hf hb2
  go_wp2_with fail
  go_ret2
  exact ⟨A', c', rfl, H2.out.1, H2.out.2⟩
end Go.Proofs.Ytknppcgoooaaaaa
