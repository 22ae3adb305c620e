/-
  The contracts of the law's helpers over events: sizes, copies, comparisons.
-/
import Derived.Test.YtbakmcjngadebaaEvM
namespace Go.Proofs.Ytbakmcjngadebaa
open Go.ChangeShapes Go.WideShapes Go.ChangeAt Go.RowKit Go.Deep
set_option linter.unusedVariables false

theorem info_ev : (Try.prog.info? 68).map (fun i => (i.zero, i.size, i.bytes)) = some (some (.agg #[.int .i64 0, .slice none 0 0]), 2, 32) := by kernel_rfl
theorem szEvent_ok (y : Int) (P : Option Addr) (m d : Nat) (left : Int) (w : World) (h1 : (m : Int) ≤ left) (h2 : left ≤ 1048576) :
    Calls Try.prog 77 #[.agg #[.int .i64 y, .slice P m d], .int .i64 left] w fun e w' => e = .returned (.int .i64 (left - m)) ∧ Below w.heap.size w w' := by
  go_enter Try.func77, Try.ntmps77
  go_wp2_with (go_at_call 104; refine (szInt64S_ok _ _ _ _ _ h1 h2).mono ?_; rintro e w' ⟨rfl, rfl⟩)
  go_ret
  exact ⟨rfl, (Below.refl _ _).alloc (Nat.le_refl _) _⟩
theorem szEvent_no (y : Int) (P : Option Addr) (m d : Nat) (left : Int) (w : World) (h0 : m ≤ 9223372036854775807) (h1 : left < (m : Int)) (h2 : left ≤ 1048576) (h3 : 0 ≤ left) :
    Calls Try.prog 77 #[.agg #[.int .i64 y, .slice P m d], .int .i64 left] w fun e w' => e = .returned (.int .i64 (-1)) ∧ Below w.heap.size w w' := by
  go_enter Try.func77, Try.ntmps77
  go_wp2_with (go_at_call 104; refine (szInt64S_no _ _ _ _ _ h0 h1 h2 h3).mono ?_; rintro e w' ⟨rfl, rfl⟩)
  go_ret
  exact ⟨rfl, (Below.refl _ _).alloc (Nat.le_refl _) _⟩
set_option maxRecDepth 100000 in
theorem szEventS_ok (A : Option Addr) (n c : Nat) (left : Int) (es : List Ev) (w : World) (h : Evs w A n es) (h1 : ((n + totE es : Nat) : Int) ≤ left) (h2 : left ≤ 1048576) :
    Calls Try.prog 30 #[.slice A n c, .int .i64 left] w fun e w' => e = .returned (.int .i64 (left - ((n + totE es : Nat) : Int))) ∧ Below w.heap.size w w' := by
  have HL := Lib.hid h.1
  go_enter Try.func30, Try.ntmps30
  have hl0 : ¬ left - (n : Int) < 0 := by omega
  go_wp2_with fail
  go_loopw [1, 5] (fun l i wr => ∃ k : Nat, k ≤ n ∧ i = .int .i64 k ∧ l = .int .i64 (left - n - (totE (es.take k) : Nat)) ∧ Below w.heap.size w wr) (fun _ i _ => n - (intOf i).toNat)
  case atStart => exact ⟨0, Nat.zero_le _, rfl, by simp [totE], Below.refl _ _⟩
  case round =>
    obtain ⟨k, hk, rfl, rfl, hbl⟩ := hrel
    have ht := totE_take_le es k
    obtain ⟨t, ht0⟩ : ∃ t, t = totE (es.take k) := ⟨_, rfl⟩
    rw [← ht0] at ht ⊢
    have HT := Lib.hid ht0
    clear ht0
    by_cases hlt : k < n
    · obtain ⟨b, off, y, P, m, d, ps, rfl, HX, hc1, hc2, hy, hp⟩ := (h.below hbl).at_ hlt
      have hs := totE_snoc HX.out
      rw [← HT.out, hp.1] at hs
      have ht2 := totE_take_le es (k + 1)
      have hle : t + m ≤ totE es := by omega
      have HS := Lib.hid hs
      have HB := Lib.hid hbl
      clear hs ht2 hbl h hp
      go_wp2_with (go_at_call 77; refine (szEvent_ok _ _ _ _ _ _ (by omega) (by omega)).mono ?_; rintro e w' ⟨rfl, hb2⟩)
      have HF := Lib.hid (HB.out.trans (hb2.mono HB.out.size))
      clear hb2
      go_roundw
      case rel => exact ⟨k + 1, by omega, by go_num, by rw [HS.out]; go_num, HF.out⟩
      case measure => simp [intOf]; omega
    · obtain rfl : k = n := by omega
      clear hlt
      have HB := Lib.hid hbl
      clear hbl h
      go_wp2_with fail
      go_ret
      exact ⟨ret_int (by rw [HT.out, List.take_of_length_le (by rw [HL.out]; omega)]; omega), HB.out⟩
set_option maxRecDepth 100000 in
theorem szEventS_no (A : Option Addr) (n c : Nat) (left : Int) (es : List Ev) (w : World) (h : Evs w A n es) (h1 : left < ((n + totE es : Nat) : Int)) (h2 : left ≤ 1048576) (h3 : 0 ≤ left) :
    Calls Try.prog 30 #[.slice A n c, .int .i64 left] w fun e w' => e = .returned (.int .i64 (-1)) ∧ Below w.heap.size w w' := by
  have HL := Lib.hid h.1
  have hn63 := h.2.1
  by_cases hl0 : left - (n : Int) < 0
  · go_enter Try.func30, Try.ntmps30
    go_wp2_with fail
    go_ret
    exact ⟨rfl, Below.refl _ _⟩
  · go_enter Try.func30, Try.ntmps30
    go_wp2_with fail
    go_loopw [1, 5] (fun l i wr => ∃ k : Nat, k ≤ n ∧ i = .int .i64 k ∧ ((totE (es.take k) : Nat) : Int) ≤ left - n ∧ l = .int .i64 (left - n - (totE (es.take k) : Nat)) ∧ Below w.heap.size w wr) (fun _ i _ => n - (intOf i).toNat)
    case atStart => exact ⟨0, Nat.zero_le _, rfl, by simp [totE]; omega, by simp [totE], Below.refl _ _⟩
    case round =>
      obtain ⟨k, hk, rfl, hle, rfl, hbl⟩ := hrel
      obtain ⟨t, ht0⟩ : ∃ t, t = totE (es.take k) := ⟨_, rfl⟩
      rw [← ht0] at hle ⊢
      have HT := Lib.hid ht0
      clear ht0
      by_cases hlt : k < n
      · obtain ⟨b, off, y, P, m, d, ps, rfl, HX, hc1, hc2, hy, hp⟩ := (h.below hbl).at_ hlt
        have hs := totE_snoc HX.out
        rw [← HT.out, hp.1] at hs
        have hm63 := hp.2.1
        have HS := Lib.hid hs
        have HB := Lib.hid hbl
        clear hs hbl h hp
        by_cases hm : (m : Int) ≤ left - n - t
        · have hm2 : ¬ left - (n : Int) - (t : Int) - (m : Int) < 0 := by omega
          go_wp2_with (go_at_call 77; refine (szEvent_ok _ _ _ _ _ _ (by omega) (by omega)).mono ?_; rintro e w' ⟨rfl, hb2⟩)
          have HF := Lib.hid (HB.out.trans (hb2.mono HB.out.size))
          clear hb2
          go_roundw
          case rel => exact ⟨k + 1, by omega, by go_num, by rw [HS.out]; omega, by rw [HS.out]; go_num, HF.out⟩
          case measure => simp [intOf]; omega
        · go_wp2_with (go_at_call 77; refine (szEvent_no _ _ _ _ _ _ hm63 (by omega) (by omega) (by omega)).mono ?_; rintro e w' ⟨rfl, hb2⟩)
          have HF := Lib.hid (HB.out.trans (hb2.mono HB.out.size))
          clear hb2
          go_ret
          exact ⟨rfl, HF.out⟩
      · obtain rfl : k = n := by omega
        exfalso
        have := HT.out
        rw [List.take_of_length_le (by rw [HL.out]; omega)] at this
        omega

/-! ### Copies -/
def evCell (es : List Ev) (f : Nat → Nat) (j : Nat) : Value :=
  if j % 2 = 0 then .int .i64 (yAt es (j / 2)) else .slice (some ⟨f (j / 2), 0, none⟩) (pAt es (j / 2)).length (pAt es (j / 2)).length
/-- A copy under way: the block g of n events holds k of them, each with its own row of pressures, made one after the other. -/
def EvPre (lo g n k : Nat) (es : List Ev) (w : World) : Prop :=
  ∃ f h, lo ≤ g ∧ w.rowIs g 68 (n * 2) h ∧ (∀ j, j < k * 2 → h j = evCell es f j) ∧
    ∀ i, i < k → g < f i ∧ (∀ j, j < i → f j < f i) ∧ w.ownsRow lo 2 1 (.slice (some ⟨f i, 0, none⟩) (pAt es i).length (pAt es i).length) (pAt es i).length ((pAt es i).map (.int .i64))
theorem own_lt {w : World} {base e size n g c : Nat} {xs : List Value} (h : w.ownsRow base e size (.slice (some ⟨g, 0, none⟩) n c) n xs) : g < w.heap.size := by
  obtain ⟨A, c', e, hA⟩ := own_form h
  injection e with e1 e2 e3
  exact (hA _ e1.symm).2
theorem own_setCell {w : World} {base e size n g c : Nat} {xs : List Value} (h : w.ownsRow base e size (.slice (some ⟨g, 0, none⟩) n c) n xs) {p : Addr} (hp : p.block ≠ g) (v : Value) :
    (w.setCell p v).ownsRow base e size (.slice (some ⟨g, 0, none⟩) n c) n xs := by
  refine ⟨h.1, ?_⟩
  rcases h.2 with ⟨hv, h0⟩ | ⟨g', cap, cur, hv, hb, hg, rest⟩
  · simp at hv
  · simp only [Value.slice.injEq, Option.some.injEq, Addr.mk.injEq, and_true, true_and] at hv
    obtain ⟨rfl, rfl⟩ := hv
    exact .inr ⟨g, c, cur, rfl, hb, (Below.heap_setCell w p v g (fun e => hp e.symm)).trans hg, rest⟩
theorem EvPre.step {lo g n k : Nat} {es : List Ev} {w w2 : World} (h : EvPre lo g n k es w) (hb : Below w.heap.size w w2) (hk : k < n) {y : Int} {ps : List Int} (hx : es[k]? = some (y, ps)) {q : Nat} (hq : w.heap.size ≤ q) (hlo : lo ≤ w.heap.size)
    (ho : w2.ownsRow w.heap.size 2 1 (.slice (some ⟨q, 0, none⟩) ps.length ps.length) ps.length (ps.map (.int .i64))) :
    EvPre lo g n (k + 1) es ((w2.setCell ⟨g, k * 2, none⟩ (.int .i64 y)).setCell ⟨g, k * 2 + 1, none⟩ (.slice (some ⟨q, 0, none⟩) ps.length ps.length)) := by
  obtain ⟨f, h', hg, hrow, hj, hi⟩ := h
  have hglt := hrow.lt
  have hrow2 := hrow.of_block (hb.block _ hglt)
  have hs2 := (hrow2.set (k * 2) (.int .i64 y)).set (k * 2 + 1) (.slice (some ⟨q, 0, none⟩) ps.length ps.length)
  refine ⟨fun i => if i = k then q else f i, _, hg, hs2, fun j hjk => ?_, fun i hik => ?_⟩
  · by_cases e : j = k * 2 + 1
    · subst e
      have e1 : (k * 2 + 1) % 2 = 1 := by omega
      have e2 : (k * 2 + 1) / 2 = k := by omega
      simp only [if_true, evCell, e1, e2, pAt_eq hx]
      simp
    · by_cases e' : j = k * 2
      · subst e'
        have e1 : (k * 2) % 2 = 0 := by omega
        have e2 : (k * 2) / 2 = k := by omega
        simp only [if_true]
        rw [if_neg (by omega)]
        simp only [evCell, e1, e2, yAt_eq hx]
        simp
      · simp only [if_neg e, if_neg e']
        rw [hj j (by omega)]
        unfold evCell
        have : ¬ j / 2 = k := by omega
        simp only [this, if_false]
  · have hlast : ∀ i, i < k → f i < w.heap.size := fun i hi' => own_lt (hi i hi').2.2
    by_cases e : i = k
    · subst e
      simp only [if_true]
      refine ⟨by omega, fun j hji => ?_, ?_⟩
      · rw [if_neg (by omega)]
        have := hlast j hji
        omega
      · rw [pAt_eq hx]
        exact own_setCell (own_setCell (own_base ho hlo) (by show g ≠ q; omega) _) (by show g ≠ q; omega) _
    · have hik' : i < k := by omega
      obtain ⟨a1, a2, a3⟩ := hi i hik'
      simp only [if_neg e]
      refine ⟨a1, fun j hji => ?_, ?_⟩
      · rw [if_neg (by omega)]
        exact a2 j hji
      · exact own_setCell (own_setCell (own_below a3 hb) (by show g ≠ f i; omega) _) (by show g ≠ f i; omega) _
theorem EvPre.evs {lo g n : Nat} {es : List Ev} {w w0 : World} {A : Option Addr} (h : EvPre lo g n n es w) (h' : Evs w0 A n es) : Evs w (some ⟨g, 0, none⟩) n es := by
  refine ⟨h'.1, h'.2.1, fun h0 => ⟨g, 0, rfl, fun k hk => ?_⟩⟩
  obtain ⟨f, h1, hg, hrow, hj, hi⟩ := h
  obtain ⟨b, off, y, P, m, d, ps, hA, HX, hc1, hc2, hy, hp⟩ := h'.at_ hk
  have e0 : es.getD k (0, []) = (y, ps) := by rw [List.getD_eq_getElem?_getD, HX.out]; rfl
  rw [e0]
  obtain ⟨_, _, ho⟩ := hi k hk
  have c0 := hrow.cell (i := k * 2) (by omega)
  have c1 := hrow.cell (i := k * 2 + 1) (by omega)
  rw [hj (k * 2) (by omega)] at c0
  rw [hj (k * 2 + 1) (by omega)] at c1
  have e1 : (k * 2 + 1) % 2 = 1 := by omega
  have e2 : (k * 2 + 1) / 2 = k := by omega
  have e3 : (k * 2) % 2 = 0 := by omega
  have e4 : (k * 2) / 2 = k := by omega
  simp only [evCell, e3, e4, if_true, yAt_eq HX.out] at c0
  simp only [evCell, e1, e2, pAt_eq HX.out] at c1
  rw [pAt_eq HX.out] at ho
  exact ⟨_, _, _, by rw [Nat.zero_add]; exact c0, by rw [Nat.zero_add]; simpa using c1, hy, Ints.of_own ho hp.2.2.1⟩
theorem EvPre.below {lo g n k : Nat} {es : List Ev} {w w' : World} (h : EvPre lo g n k es w) (hb : Below w.heap.size w w') : EvPre lo g n k es w' := by
  obtain ⟨f, h', hg, hrow, hj, hi⟩ := h
  exact ⟨f, h', hg, hrow.of_block (hb.block _ hrow.lt), hj, fun i hik => ⟨(hi i hik).1, (hi i hik).2.1, own_below (hi i hik).2.2 hb⟩⟩
set_option maxRecDepth 100000 in
theorem toEvent_any (y : Int) (P : Option Addr) (m d : Nat) (ps : List Int) (w : World) (h : Ints w P m ps) (hm : m ≤ 1048576) :
    Calls Try.prog 79 #[.agg #[.int .i64 y, .slice P m d]] w fun e w' => e = .returned (.agg #[.int .i64 y, .slice (some ⟨w.heap.size + 3, 0, none⟩) m m]) ∧
      w'.ownsRow w.heap.size 2 1 (.slice (some ⟨w.heap.size + 3, 0, none⟩) m m) m (ps.map (.int .i64)) ∧ Below w.heap.size w w' := by
  have HH := Lib.hid h
  clear h
  go_enter Try.func79, Try.ntmps79
  go_wp2_with fail
  have hb0 : Below w.heap.size w _ := (((Below.refl w.heap.size w).alloc (Nat.le_refl _) (.cells #[.int .i64 y, .slice P m d] 79)).alloc (by simp) (.cells #[.int .i64 0, .slice none 0 0] 68)).alloc (by simp; omega) (.cells #[.int .i64 y, .slice none 0 0] 68)
  refine (toInt64S_any _ _ _ ps _ (HH.out.below hb0) hm).mono ?_
  rintro e w2 ⟨rfl, ho, hb2, hz⟩
  have HO := Lib.hid (And.intro ho (hb0.trans (hb2.mono hb0.size)))
  obtain ⟨hc, hf⟩ := bcell hb2
  have hz2 : w.heap.size + 3 < w2.heap.size := by simp at hz; omega
  clear ho hb2 hz hb0
  go_wp2_with fail
  have hsz : (((w.alloc (.cells #[.int .i64 y, .slice P m d] 79)).alloc (.cells #[.int .i64 0, .slice none 0 0] 68)).alloc (.cells #[.int .i64 y, .slice none 0 0] 68)).heap.size = w.heap.size + 3 := by simp
  rw [hsz] at HO
  refine bodyPost_ret (v := .agg #[.int .i64 y, .slice (some ⟨w.heap.size + 3, 0, none⟩) m m]) (by simp [results, Try.results79, go_sem, hc]) rfl ⟨rfl, ?_, ?_⟩
  · exact own_setCell (own_setCell (own_setCell (own_base HO.out.1 (by omega)) (by show w.heap.size + 1 + 1 ≠ _; omega) _) (by show w.heap.size + 1 ≠ _; omega) _) (by show w.heap.size + 1 ≠ _; omega) _
  · exact ((HO.out.2.setCell (by show w.heap.size ≤ w.heap.size + 1 + 1; omega) _).setCell (by show w.heap.size ≤ w.heap.size + 1; omega) _).setCell (by show w.heap.size ≤ w.heap.size + 1; omega) _
set_option maxRecDepth 100000 in
set_option maxHeartbeats 800000 in
theorem toEventS_any (A : Option Addr) (n c : Nat) (es : List Ev) (w : World) (h : Evs w A n es) (hn : n + totE es ≤ 1048576) :
    Calls Try.prog 32 #[.slice A n c] w fun e w' => e = .returned (.slice (some ⟨w.heap.size, 0, none⟩) n n) ∧
      EvPre w.heap.size w.heap.size n n es w' ∧ Below w.heap.size w w' ∧ w.heap.size < w'.heap.size := by
  have hmk := fun W => run_make_rowN (P := Try.prog) 42 68 (.agg #[.int .i64 0, .slice none 0 0]) 2 32 Try.underlying42 info_ev n (by omega) (by omega) W
  have HL := Lib.hid h.1
  go_enter Try.func32, Try.ntmps32
  go_wp2_with fail
  go_loopw [4] (fun i wr => ∃ k : Nat, k ≤ n ∧ i = .int .i64 k ∧ Hid (EvPre w.heap.size w.heap.size n k es wr) ∧ Below w.heap.size w wr ∧ w.heap.size < wr.heap.size) (fun i _ => n - (intOf i).toNat)
  case atStart => exact ⟨0, Nat.zero_le _, rfl, ⟨fun _ => 0, _, Nat.le_refl _, rowIs_madeN _ _ _ _, fun j hj => absurd hj (by omega), fun i hi => absurd hi (by omega)⟩, (Below.refl _ _).alloc (Nat.le_refl _) _, by simp⟩
  case round =>
    clear hmk
    obtain ⟨k, hk, rfl, HE, hbl, hsz⟩ := hrel
    by_cases hlt : k < n
    · obtain ⟨b, off, y, P, m, d, ps, rfl, HX, hc1, hc2, hy, hp⟩ := (h.below hbl).at_ hlt
      have hml := totE_len HX.out
      rw [hp.1] at hml
      have HP := Lib.hid hp
      have HR := Lib.hid (And.intro hbl hsz)
      obtain ⟨f', h', _, hrow, _⟩ := HE.out
      have HW := Lib.hid hrow
      clear hrow hbl h hsz hp
      have hki : (k : Int) < (n : Int) := by omega
      go_wp2_with fail
      refine (toEvent_any y P m d ps _ HP.out (by omega)).mono ?_
      rintro e w2 ⟨rfl, ho2, hb2⟩
      have hrow2 := HW.out.of_block (hb2.block _ HW.out.lt)
      have c0 := hrow2.cell (i := k * 2) (by omega)
      have c1 := hrow2.cell (i := k * 2 + 1) (by omega)
      have f0 := hrow2.frozen (k * 2)
      have f1 := hrow2.frozen (k * 2 + 1)
      have hst := HE.out.step hb2 hlt HX.out (q := wr.heap.size + 3) (by omega) HR.out.1.size (by rw [HP.out.1]; exact ho2)
      rw [HP.out.1] at hst
      have hz := hb2.size
      have hB := HR.out.1.trans (hb2.mono HR.out.1.size)
      have HS := Lib.hid (And.intro hst (And.intro ((hB.setCell (p := ⟨w.heap.size, k * 2, none⟩) (Nat.le_refl _) (.int .i64 y)).setCell (p := ⟨w.heap.size, k * 2 + 1, none⟩) (Nat.le_refl _) (.slice (some ⟨wr.heap.size + 3, 0, none⟩) m m)) (Nat.lt_of_lt_of_le HR.out.2 hz)))
      clear hrow2 hst hB hz hb2 ho2
      go_wp2_with fail
      go_roundw
      case rel => exact ⟨k + 1, by omega, by go_num, HS.out.1, HS.out.2.1, by simpa [World.setCell] using HS.out.2.2⟩
      case measure => simp [intOf]; omega
    · obtain rfl : k = n := by omega
      clear hlt
      have HB := Lib.hid (And.intro hbl hsz)
      clear hbl hsz h
      go_wp2_with fail
      go_ret
      exact ⟨rfl, HE.out, HB.out.1, HB.out.2⟩
theorem eqEvent_same (y : Int) (P Q : Option Addr) (m d d' : Nat) (ps : List Int) (w : World) (h : Ints w P m ps) (h' : Ints w Q m ps) :
    Calls Try.prog 80 #[.agg #[.int .i64 y, .slice P m d], .agg #[.int .i64 y, .slice Q m d']] w fun e w' => e = .returned (.bool true) ∧ Below w.heap.size w w' := by
  have HH := Lib.hid (And.intro h h')
  clear h h'
  have hb0 : Below w.heap.size w _ := ((Below.refl w.heap.size w).alloc (Nat.le_refl _) (.cells #[.int .i64 y, .slice P m d] 68)).alloc (by simp) (.cells #[.int .i64 y, .slice Q m d'] 68)
  have HB := Lib.hid hb0
  clear hb0
  go_enter Try.func80, Try.ntmps80
  go_wp2_with fail
  refine (eqInt64S_same _ _ _ _ _ ps _ (HH.out.1.below HB.out) (HH.out.2.below HB.out)).mono ?_
  rintro e w2 ⟨rfl, hb2⟩
  have HF := Lib.hid (HB.out.trans (hb2.mono HB.out.size))
  clear hb2
  go_wp2_with fail
  go_ret
  exact ⟨rfl, HF.out⟩
set_option maxRecDepth 100000 in
set_option maxHeartbeats 800000 in
theorem eqEventS_same (A B : Option Addr) (n c d : Nat) (es : List Ev) (w : World) (h : Evs w A n es) (h' : Evs w B n es) :
    Calls Try.prog 34 #[.slice A n c, .slice B n d] w fun e w' => e = .returned (.bool true) ∧ Below w.heap.size w w' := by
  have hn := h.2.1
  go_enter Try.func34, Try.ntmps34
  go_wp2_with fail
  go_loopw [5] (fun i wr => ∃ k : Nat, k ≤ n ∧ i = .int .i64 k ∧ Below w.heap.size w wr) (fun i _ => n - (intOf i).toNat)
  case atStart => exact ⟨0, Nat.zero_le _, rfl, Below.refl _ _⟩
  case round =>
    obtain ⟨k, hk, rfl, hbl⟩ := hrel
    by_cases hlt : k < n
    · obtain ⟨b, off, y, P, m, dd, ps, rfl, HX, hc1, hc2, hy, hp⟩ := (h.below hbl).at_ hlt
      obtain ⟨b', off', y', P', m', dd', ps', rfl, HX', hd1, hd2, hy', hp'⟩ := (h'.below hbl).at_ hlt
      obtain ⟨rfl, rfl⟩ : y = y' ∧ ps = ps' := by
        have := HX.out.symm.trans HX'.out
        injection this with this
        injection this with e1 e2
        exact ⟨e1, e2⟩
      obtain rfl : m = m' := hp.1.symm.trans hp'.1
      have HB := Lib.hid hbl
      have HP := Lib.hid (And.intro hp hp')
      clear h h' hbl hp hp'
      have hki : (k : Int) < (n : Int) := by omega
      go_wp2_with fail
      go_region_held3 (fun w' => w'.cell? ⟨b, off + k * 2, none⟩ = some (.int .i64 y) ∧ w'.cell? ⟨b, off + k * 2 + 1, none⟩ = some (.slice P m dd) ∧ w'.cell? ⟨b', off' + k * 2, none⟩ = some (.int .i64 y) ∧ w'.cell? ⟨b', off' + k * 2 + 1, none⟩ = some (.slice P' m dd'))
        (first | go_keep | exact ⟨cell_kept hb2 hc1, cell_kept hb2 hc2, cell_kept hb2 hd1, cell_kept hb2 hd2⟩)
        ((go_at_call 80; refine (eqEvent_same _ _ _ _ _ _ ps _ (HP.out.1.below (Below.refl _ _).drew) (HP.out.2.below (Below.refl _ _).drew)).mono ?_; rintro e w2 ⟨rfl, hb2⟩))
      have HF := Lib.hid (HB.out.drew.trans (hb2.mono HB.out.drew.size))
      clear hb2
      go_wp2_with fail
      go_roundw
      case rel => exact ⟨k + 1, by omega, by go_num, HF.out⟩
      case measure => simp [intOf]; omega
    · obtain rfl : k = n := by omega
      clear hlt
      have HB := Lib.hid hbl
      clear hbl h h'
      go_wp2_with fail
      go_ret
      exact ⟨rfl, HB.out⟩
/-! ### Marks -/
/-- Blocks from lo up to hi may have been written, no others. -/
def Win (lo hi : Nat) (w w' : World) : Prop :=
  w'.os = w.os ∧ w'.tape = w.tape ∧ w'.output = w.output ∧ w.heap.size ≤ w'.heap.size ∧ ∀ k, k < w.heap.size → k < lo ∨ hi ≤ k → w'.heap[k]? = w.heap[k]?
theorem Win.refl (lo hi : Nat) (w : World) : Win lo hi w w := ⟨rfl, rfl, rfl, Nat.le_refl _, fun _ _ _ => rfl⟩
theorem Win.trans {lo hi : Nat} {a b c : World} (h : Win lo hi a b) (k : Win lo hi b c) : Win lo hi a c :=
  ⟨k.1.trans h.1, k.2.1.trans h.2.1, k.2.2.1.trans h.2.2.1, Nat.le_trans h.2.2.2.1 k.2.2.2.1, fun i hi hr => (k.2.2.2.2 i (Nat.lt_of_lt_of_le hi h.2.2.2.1) hr).trans (h.2.2.2.2 i hi hr)⟩
theorem Win.grown {lo hi : Nat} {w w' : World} {r : Option Nat} (h : w.grownBy w' r) (hr : ∀ g, r = some g → lo ≤ g ∧ g < hi) : Win lo hi w w' :=
  ⟨h.os, h.tape, h.output, h.size, fun k hk hk2 => h.block k hk (fun e => by have := hr k e.symm; omega)⟩
theorem Win.setCell {lo hi : Nat} {a w : World} (h : Win lo hi a w) {p : Addr} (hp : lo ≤ p.block ∧ p.block < hi) (v : Value) : Win lo hi a (w.setCell p v) :=
  h.trans ⟨rfl, rfl, rfl, by simp [World.setCell], fun k hk hk2 => Below.heap_setCell _ _ _ _ (by omega)⟩
theorem Win.below {B lo hi : Nat} {a w w' : World} (h : Below B a w) (hw : Win lo hi w w') (hB : B ≤ w.heap.size) (hlo : B ≤ lo) : Below B a w' :=
  h.trans ⟨hw.1, hw.2.1, hw.2.2.1, hw.2.2.2.1, fun k hk => hw.2.2.2.2 k (by omega) (.inl (by omega))⟩
theorem own_win {lo hi : Nat} {w w' : World} {base e size n g c : Nat} {xs : List Value} (h : w.ownsRow base e size (.slice (some ⟨g, 0, none⟩) n c) n xs) (hw : Win lo hi w w') (hr : g < lo ∨ hi ≤ g) :
    w'.ownsRow base e size (.slice (some ⟨g, 0, none⟩) n c) n xs := by
  have hlt := own_lt h
  refine ⟨h.1, ?_⟩
  rcases h.2 with ⟨hv, h0⟩ | ⟨g', cap, cur, hv, hb, hg, rest⟩
  · simp at hv
  · simp only [Value.slice.injEq, Option.some.injEq, Addr.mk.injEq, and_true, true_and] at hv
    obtain ⟨rfl, rfl⟩ := hv
    exact .inr ⟨g, c, cur, rfl, hb, (hw.2.2.2.2 g hlt hr).trans hg, rest⟩
theorem Fresh.win {lo hi : Nat} {w w' : World} {base e size n c : Nat} {A : Option Addr} {xs : List Value} (h : Fresh w base e size A n c xs) (hw : Win lo hi w w') (hr : 0 < n → ∀ g, A = some ⟨g, 0, none⟩ → base ≤ g → g < lo ∨ hi ≤ g) :
    Fresh w' base e size A n c xs := by
  refine ⟨h.1, fun h0 => ?_⟩
  have ho := h.2 h0
  rcases ho.2 with ⟨hv, h00⟩ | ⟨g, cap, cur, hv, hb, hgg, rest⟩
  · omega
  · simp only [Value.slice.injEq] at hv
    obtain ⟨rfl, _, rfl⟩ := hv
    exact own_win ho hw (hr h0 g rfl hb)
/-- A copy whose numbers may have been written over. -/
def EvMk (lo hi g n : Nat) (es : List Ev) (w : World) : Prop :=
  ∃ (f : Nat → Nat) (h : Nat → Value), lo ≤ g ∧ g < hi ∧ w.rowIs g 68 (n * 2) h ∧ (∀ i, i < n → h (i * 2 + 1) = .slice (some ⟨f i, 0, none⟩) (pAt es i).length (pAt es i).length) ∧
    ∀ i, i < n → g < f i ∧ f i < hi ∧ (∀ j, j < i → f j < f i) ∧ ∃ xs, w.ownsRow lo 2 1 (.slice (some ⟨f i, 0, none⟩) (pAt es i).length (pAt es i).length) (pAt es i).length xs
theorem EvPre.mk {lo g n : Nat} {es : List Ev} {w : World} (h : EvPre lo g n n es w) : EvMk lo w.heap.size g n es w := by
  obtain ⟨f, h', hg, hrow, hj, hi⟩ := h
  refine ⟨f, h', hg, hrow.lt, hrow, fun i hin => ?_, fun i hin => ⟨(hi i hin).1, own_lt (hi i hin).2.2, (hi i hin).2.1, _, (hi i hin).2.2⟩⟩
  rw [hj _ (by omega)]
  have e1 : (i * 2 + 1) % 2 = 1 := by omega
  have e2 : (i * 2 + 1) / 2 = i := by omega
  simp [evCell, e1, e2]
theorem EvMk.below {lo hi g n : Nat} {es : List Ev} {w w' : World} (h : EvMk lo hi g n es w) (hb : Below w.heap.size w w') : EvMk lo hi g n es w' := by
  obtain ⟨f, h', hg, hg2, hrow, hj, hi⟩ := h
  refine ⟨f, h', hg, hg2, hrow.of_block (hb.block _ hrow.lt), hj, fun i hik => ?_⟩
  obtain ⟨a, b, c, xs, d⟩ := hi i hik
  exact ⟨a, b, c, xs, own_below d hb⟩
theorem EvMk.setYear {lo hi g n : Nat} {es : List Ev} {w : World} (h : EvMk lo hi g n es w) (k : Nat) (v : Value) : EvMk lo hi g n es (w.setCell ⟨g, k * 2, none⟩ v) := by
  obtain ⟨f, h', hg, hg2, hrow, hj, hi⟩ := h
  refine ⟨f, _, hg, hg2, hrow.set (k * 2) v, fun i hin => ?_, fun i hik => ?_⟩
  · rw [if_neg (by omega)]
    exact hj i hin
  · obtain ⟨a, b, c, xs, d⟩ := hi i hik
    exact ⟨a, b, c, xs, own_setCell d (by show g ≠ f i; omega) _⟩
theorem EvMk.row {lo hi g n : Nat} {es : List Ev} {w : World} (h : EvMk lo hi g n es w) {k : Nat} (hk : k < n) :
    ∃ q xs, w.cell? ⟨g, k * 2 + 1, none⟩ = some (.slice (some ⟨q, 0, none⟩) (pAt es k).length (pAt es k).length) ∧ w.ownsRow lo 2 1 (.slice (some ⟨q, 0, none⟩) (pAt es k).length (pAt es k).length) (pAt es k).length xs ∧ lo ≤ q ∧ q < hi ∧
      ∀ w', w.grownBy w' (some q) → (∃ ys, w'.ownsRow lo 2 1 (.slice (some ⟨q, 0, none⟩) (pAt es k).length (pAt es k).length) (pAt es k).length ys) → EvMk lo hi g n es w' := by
  obtain ⟨f, h', hg, hg2, hrow, hj, hi⟩ := h
  obtain ⟨a, b, c, xs, d⟩ := hi k hk
  have hcell := hrow.cell (i := k * 2 + 1) (by omega)
  rw [hj k hk] at hcell
  refine ⟨f k, xs, hcell, d, by omega, b, fun w' hgr ⟨ys, hys⟩ => ⟨f, h', hg, hg2, hrow.of_block (hgr.block g hrow.lt (by simp; omega)), hj, fun i hin => ?_⟩⟩
  obtain ⟨a', b', c', xs', d'⟩ := hi i hin
  refine ⟨a', b', c', ?_⟩
  by_cases e : i = k
  · subst e
    exact ⟨ys, hys⟩
  · refine ⟨xs', d'.kept hgr (.inr ?_)⟩
    have : f i ≠ f k := by
      rcases Nat.lt_or_gt_of_ne e with h | h
      · have := c i h; omega
      · have := c' k h; omega
    simpa [Value.ownBlock] using this
set_option maxRecDepth 100000 in
set_option maxHeartbeats 800000 in
theorem markEventS_any (g n c lo hi : Nat) (k : Int) (es : List Ev) (w : World) (h : EvMk lo hi g n es w) (hn : n + totE es ≤ 1048576) (hl : es.length = n) (hk1 : 0 ≤ k) (hk2 : k ≤ 10000000000) :
    Calls Try.prog 54 #[.slice (some ⟨g, 0, none⟩) n c, .int .i64 k] w fun e w' => e = .returned (.int .i64 (k + ((n + totE es : Nat) : Int))) ∧ EvMk lo hi g n es w' ∧ Win lo hi w w' := by
  have HL := Lib.hid hl
  have HM0 := Lib.hid h
  clear hl h
  go_enter Try.func54, Try.ntmps54
  go_wp2_with fail
  go_loopw [1, 5] (fun kv i wr => ∃ j : Nat, j ≤ n ∧ i = .int .i64 j ∧ kv = .int .i64 (k + ((j + totE (es.take j) : Nat) : Int)) ∧ Hid (EvMk lo hi g n es wr) ∧ Hid (Win lo hi w wr)) (fun _ i _ => n - (intOf i).toNat)
  case atStart => exact ⟨0, Nat.zero_le _, rfl, by simp [totE], HM0, Win.refl _ _ _⟩
  case round =>
    obtain ⟨j, hj, rfl, rfl, HM, HW⟩ := hrel
    have ht := totE_take_le es j
    obtain ⟨t, ht0⟩ : ∃ t, t = totE (es.take j) := ⟨_, rfl⟩
    rw [← ht0] at ht ⊢
    have HT := Lib.hid ht0
    clear ht0
    by_cases hlt : j < n
    · obtain ⟨f, h', hg, hg2, hrow, _⟩ := HM.out
      have c0 := hrow.cell (i := j * 2) (by omega)
      have f0 := hrow.frozen (j * 2)
      have HG := Lib.hid (And.intro hg hg2)
      obtain ⟨wy, hwy⟩ : ∃ wy, wy = wr.setCell ⟨g, j * 2, none⟩ (.int .i64 (k + ((j : Int) + (t : Int)))) := ⟨_, rfl⟩
      have hm2 := HM.out.setYear j (.int .i64 (k + ((j : Int) + (t : Int))))
      rw [← hwy] at hm2
      obtain ⟨q, xs, hcell, hown, hq1, hq2, hnext⟩ := hm2.row hlt
      have HN := Lib.hid (And.intro hown hnext)
      have HQ := Lib.hid (And.intro hq1 hq2)
      have HWY := Lib.hid (show Win lo hi wr wy from by rw [hwy]; exact (Win.refl lo hi wr).setCell (by show lo ≤ g ∧ g < hi; exact HG.out) _)
      have e0 : es[j]? = some (yAt es j, pAt es j) := by
        have hj' : j < es.length := by rw [HL.out]; exact hlt
        rw [List.getElem?_eq_getElem hj']
        simp [yAt, pAt, List.getD_eq_getElem?_getD, List.getElem?_eq_getElem hj']
      have hs := totE_snoc e0
      rw [← HT.out] at hs
      have ht2 := totE_take_le es (j + 1)
      have hml : t + (pAt es j).length ≤ totE es := by omega
      obtain ⟨m, hm⟩ : ∃ m, m = (pAt es j).length := ⟨_, rfl⟩
      have hcq : wy.cell? ⟨g, j * 2 + 1, none⟩ = wr.cell? ⟨g, j * 2 + 1, none⟩ := by
        rw [hwy]
        rw [(hrow.set (j * 2) (.int .i64 (k + ((j : Int) + (t : Int))))).cell (i := j * 2 + 1) (by omega), hrow.cell (i := j * 2 + 1) (by omega), if_neg (by omega)]
      rw [← hm] at hcell hml
      rw [hcq] at hcell
      rw [← hm] at HN hs
      have HS := Lib.hid hs
      have HWQ := Lib.hid hwy
      clear hown hnext hq1 hq2 hg hg2 hrow hs ht2 hm e0 hm2 hcq hwy
      go_wp2_with fail
      refine (markInt64S_any _ _ _ lo _ xs _ (HWQ.out ▸ HN.out.1) (by omega) (by omega) (by omega)).mono ?_
      rintro e w3 ⟨rfl, ho3, hg3⟩
      rw [← HWQ.out] at hg3
      have HF := Lib.hid (And.intro (HN.out.2 w3 hg3 ⟨_, ho3⟩) (HWY.out.trans (Win.grown hg3 (fun g' e => by injection e with e; subst e; exact HQ.out))))
      clear hg3 ho3
      go_wp2_with fail
      go_roundw
      case rel => exact ⟨j + 1, by omega, by go_num, by rw [HS.out]; go_num, HF.out.1, HW.out.trans HF.out.2⟩
      case measure => simp [intOf]; omega
    · obtain rfl : j = n := by omega
      clear hlt
      go_wp2_with fail
      go_ret
      exact ⟨ret_int (by rw [HT.out, List.take_of_length_le (by rw [HL.out]; omega)]), HM.out, HW.out⟩
end Go.Proofs.Ytbakmcjngadebaa
