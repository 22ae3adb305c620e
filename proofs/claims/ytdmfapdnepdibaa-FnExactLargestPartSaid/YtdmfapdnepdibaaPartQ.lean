/-
  The parts of cells: the reference's list of them; PartsOf, IsConnected, both sides.
-/
import Derived.Test.YtdmfapdnepdibaaPartS
namespace Go.Proofs.Ytdmfapdnepdibaa
open Go.ChangeShapes Go.WideShapes Go.ChangeAt Go.RowKit Go.Deep
set_option linter.unusedVariables false

theorem foldP {nr : Int → List Int} {xs : List Int} (l : List Int) : ∀ s : List (List Int) × List Int, (∀ c ∈ l, c ∈ xs) → (∀ r ∈ s.1, ∃ f ∈ xs, r = spread nr xs f) →
    (l.foldl (partOne nr xs) s).1.length ≤ s.1.length + l.length ∧ ∀ r ∈ (l.foldl (partOne nr xs) s).1, ∃ f ∈ xs, r = spread nr xs f := by
  induction l with
  | nil => intro s _ h; exact ⟨by simp, h⟩
  | cons c t ih =>
    intro s hl h
    have := ih (partOne nr xs s c) (fun d hd => hl d (by simp [hd])) (by
      unfold partOne
      split
      · exact h
      · intro r hr
        rcases List.mem_append.1 hr with hr | hr
        · exact h r hr
        · simp at hr
          exact ⟨c, hl c (by simp), hr⟩)
    refine ⟨Nat.le_trans this.1 ?_, this.2⟩
    have h2 : (partOne nr xs s c).1.length ≤ s.1.length + 1 := by
      unfold partOne
      split <;> simp
    simp only [List.length_cons]
    omega
theorem partsF_ok (nr : Int → List Int) (xs : List Int) : (partsF nr xs).length ≤ xs.length ∧ ∀ r ∈ partsF nr xs, ∃ f ∈ xs, r = spread nr xs f := by
  have := foldP (nr := nr) (xs := xs) xs ([], []) (fun c hc => hc) (by simp)
  simpa [partsF, partsTo] using this
theorem tot64 {rs : Rws} (h : ∀ r ∈ rs, r.length ≤ 64) (k : Nat) : totR rs k ≤ 64 * k := by
  induction k with
  | zero => simp [totR]
  | succ k ih =>
    by_cases hk : k < rs.length
    · have e : (rAt rs k).length ≤ 64 := by
        rw [rAt, List.getD_eq_getElem?_getD, List.getElem?_eq_getElem hk]
        exact h _ (List.getElem_mem hk)
      rw [totR_succ hk]
      omega
    · have : totR rs (k + 1) = totR rs k := by
        unfold totR
        rw [List.take_of_length_le (by omega), List.take_of_length_le (by omega)]
      omega
theorem cells_plain {R C S : Int} {hs xs : List Int} (h : cellsC R C S hs xs = 0) : (1 ≤ R ∧ R ≤ 8) ∧ (1 ≤ C ∧ C ≤ 8) ∧ R * C ≤ 64 ∧ (hs.length : Int) = R * C ∧ (∀ z ∈ xs, 0 ≤ z ∧ z < R * C) ∧ xs.length ≤ 64 := by
  obtain ⟨hv, hr⟩ := cellsC_ok h
  obtain ⟨⟨r1, r2⟩, ⟨c1, c2⟩, _, hn, _⟩ := gridOk_iff.1 hv
  have hm := mul64 r1 r2 c1 c2
  obtain ⟨hinc, hxall⟩ := rises_iff.1 hr
  have xbd : ∀ z ∈ xs, 0 ≤ z ∧ z < R * C := fun z hz => by
    obtain ⟨j, hj⟩ := List.mem_iff_getElem?.1 hz
    have := allB_iff.1 hxall j z hj
    omega
  have := pw_len (pw_inc hinc) xbd (by omega)
  exact ⟨⟨r1, r2⟩, ⟨c1, c2⟩, hm.2, hn, xbd, by omega⟩
theorem spread_bd {R C : Int} {xs : List Int} (hx : ∀ z ∈ xs, 0 ≤ z ∧ z < R * C) (h64 : R * C ≤ 64) {f : Int} (hf : f ∈ xs) : (spread (near R C) xs f).length ≤ 64 ∧ ∀ z ∈ spread (near R C) xs f, 0 ≤ z ∧ z < R * C := by
  obtain ⟨h1, h2⟩ := spread_ok (nr := near R C) hf
  have hb : ∀ z ∈ spread (near R C) xs f, 0 ≤ z ∧ z < R * C := fun z hz => hx z ((h2 z).1 hz).mem
  have := pw_len h1 hb (by have := hx f hf; omega)
  exact ⟨by omega, hb⟩
def partsR (K R C : Int) (xs : List Int) : Rws := if K = 0 then partsF (near R C) xs else []
theorem partsR_okr (R C S : Int) (hs xs : List Int) : (∀ r ∈ partsR (cellsC R C S hs xs) R C xs, ∀ x ∈ r, -9223372036854775808 ≤ x ∧ x ≤ 9223372036854775807) ∧ (partsR (cellsC R C S hs xs) R C xs).length ≤ 1048576 ∧ totR (partsR (cellsC R C S hs xs) R C xs) (partsR (cellsC R C S hs xs) R C xs).length ≤ 1048576 ∧ ∀ i, i < (partsR (cellsC R C S hs xs) R C xs).length → (rAt (partsR (cellsC R C S hs xs) R C xs) i).length ≤ 1000000000 := by
  unfold partsR
  split
  · rename_i h
    obtain ⟨_, _, h64, _, hx, hl⟩ := cells_plain h
    obtain ⟨h1, h2⟩ := partsF_ok (near R C) xs
    have hr : ∀ r ∈ partsF (near R C) xs, r.length ≤ 64 ∧ ∀ z ∈ r, 0 ≤ z ∧ z < R * C := fun r hr => by
      obtain ⟨f, hf, rfl⟩ := h2 r hr
      exact spread_bd hx h64 hf
    refine ⟨fun r hr' x hx' => by have := (hr r hr').2 x hx'; omega, by omega, by have := tot64 (fun r h => (hr r h).1) (partsF (near R C) xs).length; omega, fun i hi => ?_⟩
    rw [rAt, List.getD_eq_getElem?_getD, List.getElem?_eq_getElem hi]
    have := (hr _ (List.getElem_mem hi)).1
    simp only [Option.getD_some]
    omega
  · exact ⟨by simp, by simp, by simp [totR], fun i hi => absurd hi (by simp)⟩
theorem own_ne2 {w : World} {B B' e e' s s' n m : Nat} {v v' : Value} {xs ys : List Value} (h : w.ownsRow B e s v n xs) (h' : w.ownsRow B' e' s' v' m ys) (he : e ≠ e') : v.ownBlock = none ∨ v.ownBlock ≠ v'.ownBlock := by
  rcases h'.2 with ⟨hv, _⟩ | ⟨g, cap, cur, hv, _⟩
  · subst hv
    by_cases e : v.ownBlock = none
    · exact .inl e
    · exact .inr fun e2 => e e2
  · subst hv
    exact .inr (own_ne h h' he)
/-- Rows none of which lies in the block of the slice sv. -/
def RowsX (lo : Nat) (w : World) (o : Value) (j : Nat) (rs : Rws) (sv : Value) : Prop :=
  ∃ (cs : List Value) (f d : Nat → Nat), w.ownsRow lo 24 1 o j cs ∧ rs.length = j ∧
    ∀ i, i < j → cs[i]? = some (.slice (some ⟨f i, 0, none⟩) (rAt rs i).length (d i)) ∧ (∀ t, t < i → f t ≠ f i) ∧
      w.ownsRow lo 2 1 (.slice (some ⟨f i, 0, none⟩) (rAt rs i).length (d i)) (rAt rs i).length ((rAt rs i).map (.int .i64)) ∧ sv.ownBlock ≠ some (f i)
theorem RowsX.rows {lo : Nat} {w : World} {o sv : Value} {j : Nat} {rs : Rws} (h : RowsX lo w o j rs sv) : RowsB lo w o j rs := by
  obtain ⟨cs, f, d, h1, h2, h3⟩ := h
  exact ⟨cs, f, d, h1, h2, fun i hi => ⟨(h3 i hi).1, (h3 i hi).2.1, (h3 i hi).2.2.1⟩⟩
theorem RowsX.drewN {lo : Nat} {w : World} {o sv : Value} {j : Nat} {rs : Rws} (h : RowsX lo w o j rs sv) (k : Nat) : RowsX lo (w.drewN k) o j rs sv := h
theorem RowsX.step {lo : Nat} {w w1 w2 w3 : World} {o v' sv : Value} {j q c ns g cg ch : Nat} {rs : Rws} {r : List Int} {ss : List Value} {cs : List Value} {f d : Nat → Nat} (h1 : w.ownsRow lo 24 1 o j cs) (hl : rs.length = j)
    (h3 : ∀ i, i < j → cs[i]? = some (.slice (some ⟨f i, 0, none⟩) (rAt rs i).length (d i)) ∧ (∀ t, t < i → f t ≠ f i) ∧ w.ownsRow lo 2 1 (.slice (some ⟨f i, 0, none⟩) (rAt rs i).length (d i)) (rAt rs i).length ((rAt rs i).map (.int .i64)) ∧ sv.ownBlock ≠ some (f i))
    (hb : Below w.heap.size w w1) (hq : w.heap.size ≤ q) (hr : w1.ownsRow lo 2 1 (.slice (some ⟨q, 0, none⟩) r.length c) r.length (r.map (.int .i64)))
    (ho : w2.ownsRow lo 24 1 v' (j + 1) (cs ++ [.slice (some ⟨q, 0, none⟩) r.length c])) (hg : w1.grownBy w2 o.ownBlock)
    (hs : w.ownsRow lo 2 1 sv ns ss) (hg2 : w2.grownBy w3 sv.ownBlock) (hgg : sv.ownBlock = some g ∨ g = w2.heap.size) : RowsX lo w3 v' (j + 1) (rs ++ [r]) (.slice (some ⟨g, 0, none⟩) cg ch) := by
  have hcl : cs.length = j := by have := h1.1; simpa using this
  have hs2 : w2.ownsRow lo 2 1 sv ns ss := (own_below hs hb).kept hg (own_ne2 (own_below hs hb) (own_below h1 hb) (by decide))
  have hsq : sv.ownBlock ≠ some q := fun e => by have := (hs.lt q e).2; omega
  have hrow : ∀ {x n : Nat} {dd : Nat} {ys : List Value}, w1.ownsRow lo 2 1 (.slice (some ⟨x, 0, none⟩) n dd) n ys → sv.ownBlock ≠ some x →
      w3.ownsRow lo 2 1 (.slice (some ⟨x, 0, none⟩) n dd) n ys ∧ (Value.slice (some ⟨g, 0, none⟩) cg ch).ownBlock ≠ some x := fun {x n dd ys} hx hne => by
    have k2 := hx.kept hg (.inr (own_ne (own_below h1 hb) hx (by decide)).symm)
    refine ⟨k2.kept hg2 (.inr fun e => hne e.symm), fun e => ?_⟩
    simp only [Value.ownBlock, Option.some.injEq] at e
    rcases hgg with h | h
    · exact hne (by rw [h, e])
    · have := own_lt k2
      omega
  refine ⟨_, fun i => if i = j then q else f i, fun i => if i = j then c else d i, ho.kept hg2 (own_ne2 ho hs2 (by decide)), by simp [hl], fun i hi => ?_⟩
  by_cases e : i = j
  · subst e
    simp only [if_true]
    have er : rAt (rs ++ [r]) i = r := by rw [← hl]; exact rAt_last
    rw [er]
    obtain ⟨k1, k2⟩ := hrow hr hsq
    refine ⟨by rw [List.getElem?_append_right (by omega), hcl]; simp, fun t ht => ?_, k1, k2⟩
    rw [if_neg (by omega)]
    have := own_lt (h3 t ht).2.2.1
    omega
  · have hij : i < j := by omega
    obtain ⟨b1, b2, b3, b4⟩ := h3 i hij
    simp only [if_neg e]
    rw [rAt_lt (by omega)]
    obtain ⟨k1, k2⟩ := hrow (own_below b3 hb) b4
    refine ⟨by rw [List.getElem?_append_left (by omega)]; exact b1, fun t ht => ?_, k1, k2⟩
    rw [if_neg (by omega)]
    exact b2 t ht
set_option maxRecDepth 100000 in
set_option maxHeartbeats 1600000 in
theorem l11Parts_any (b : Nat) (R C S : Int) (A : Option Addr) (n c : Nat) (B : Option Addr) (m d : Nat) (xs : List Int) (w : World) (hg : BoxG w b R C S A n c) (h' : Ints w B m xs) (r1 : 1 ≤ R) (r2 : R ≤ 8) (c1 : 1 ≤ C) (c2 : C ≤ 8) (hRC : R * C = (n : Int)) (hx : ∀ z ∈ xs, 0 ≤ z ∧ z < R * C) (hm64 : m ≤ 64) :
    Calls Try.prog 65 #[.pointer (some ⟨b, 0, none⟩), .slice B m d] w fun e w' => ∃ o, e = .returned o ∧ RowsB w.heap.size w' o (partsF (near R C) xs).length (partsF (near R C) xs) ∧ Below w.heap.size w w' := by
  have hmul := mul64 r1 r2 c1 c2
  have HL := Lib.hid h'.1
  have HX := Lib.hid (And.intro hx (And.intro hRC hmul.2))
  have HGW := Lib.hid (And.intro hg h')
  have HO1 := Lib.hid (show (w.alloc (.cells #[] 24)).ownsRow w.heap.size 24 1 (.slice (some ⟨w.heap.size, 0, none⟩) 0 0) 0 [] from
    World.ownsRow_lit (base := w.heap.size) (e := 24) (size := 1) w #[] 0 (Nat.le_refl _) (by simp) rfl)
  have HB1 := Lib.hid ((Below.refl w.heap.size w).alloc (Nat.le_refl _) (.cells #[] 24))
  have HO2 := Lib.hid (show ((w.alloc (.cells #[] 24)).alloc (.cells #[] 2)).ownsRow w.heap.size 2 1 (.slice (some ⟨w.heap.size + 1, 0, none⟩) 0 0) 0 [] by
    have := World.ownsRow_lit (base := w.heap.size) (e := 2) (size := 1) (w.alloc (.cells #[] 24)) #[] 0 (by simp) (by simp) rfl
    have e : (w.alloc (.cells #[] 24)).heap.size = w.heap.size + 1 := by simp
    rw [e] at this
    exact this)
  have HB2 := Lib.hid (HB1.out.alloc HB1.out.size (.cells #[] 2))
  have HR0 := Lib.hid (show RowsX w.heap.size ((w.alloc (.cells #[] 24)).alloc (.cells #[] 2)) (.slice (some ⟨w.heap.size, 0, none⟩) 0 0) 0 [] (.slice (some ⟨w.heap.size + 1, 0, none⟩) 0 0) from ⟨[], fun _ => 0, fun _ => 0, HO1.out.alloc (.cells #[] 2), rfl, fun i hi => absurd hi (by omega)⟩)
  clear hg h' hx hmul hRC
  obtain ⟨i0, hi, hz0, hz1, hz2⟩ := info_parts info_int
  have HINF := Lib.hid (And.intro hi (And.intro hz0 (And.intro hz1 hz2)))
  clear hi hz0 hz1 hz2
  go_enter Try.func65, Try.ntmps65
  go_wp2_with fail
  go_loopw [5, 6, 7, 8] (fun o sv kv _ wr => ∃ (k j : Nat) (rs : Rws) (s : List Int), k ≤ m ∧ kv = .int .i64 k ∧ Hid (RowsX w.heap.size wr o j rs sv) ∧ Hid (wr.ownsRow w.heap.size 2 1 sv s.length (s.map (.int .i64))) ∧ Hid (Below w.heap.size w wr) ∧ Hid ((rs, s) = partsTo (near R C) xs (xs.take k)) ∧ Hid (j ≤ k ∧ s.length ≤ 64 * k)) (fun _ _ kv _ _ => m - (intOf kv).toNat)
  case atStart => exact ⟨0, 0, [], [], Nat.zero_le _, rfl, HR0.out, HO2.out, HB2.out, by show ([], []) = partsTo _ _ _; simp [partsTo], by show 0 ≤ 0 ∧ _; simp⟩
  case round =>
    obtain ⟨k, j, rs, s, hk, rfl, HRB, HSO, HBL, HE, HJ⟩ := hrel
    by_cases hlt : k < m
    · obtain ⟨bf, of, f, rfl, HF, hcf, _⟩ := (HGW.out.2.below HBL.out).at_ hlt
      have HFX := Lib.hid (List.mem_of_getElem? HF.out)
      have hki : (k : Int) < (m : Int) := by omega
      obtain ⟨A', c', rfl, _⟩ := own_form HSO.out
      have hsee := partsTo_seen (nr := near R C) (xs := xs) (xs.take k) (fun c hc => List.mem_of_mem_take hc)
      rw [← HE.out] at hsee
      have HIS := Lib.hid (Ints.of_own HSO.out fun z hz => by have := HX.out.1 z (hsee.sub z hz); have := HX.out.2.2; omega)
      clear hsee
      go_wp2_with fail
      refine (l00Has_any _ _ _ f s _ HIS.out).mono ?_
      rintro e w2 ⟨rfl, q2, rfl⟩
      cases hh : hasB s f
      · have HH := Lib.hid hh
        clear hh
        have BQ := Lib.hid (below_drewN (Below.refl wr.heap.size wr) q2)
        go_wp2_with fail
        refine (l11Spread_any _ R C S A n c _ m d f xs _ ((HGW.out.1.below HBL.out).below BQ.out) ((HGW.out.2.below HBL.out).drewN q2) r1 r2 c1 c2 HX.out.2.1 HX.out.1 HFX.out).mono ?_
        rintro e w3 ⟨A4, c4, rfl, hf4, hb4⟩
        have hsp := spread_bd HX.out.1 HX.out.2.2 HFX.out
        have hpos : 0 < (spread (near R C) xs f).length := List.length_pos_of_mem ((spread_ok (nr := near R C) HFX.out).2 f |>.2 (.base HFX.out))
        have hown4 := hf4.2 hpos
        obtain ⟨g4, hg4⟩ : ∃ g4, A4 = some ⟨g4, 0, none⟩ := by
          rcases hown4.2 with ⟨hv, h00⟩ | ⟨g, cap, cur, hv, _⟩
          · omega
          · simp only [Value.slice.injEq] at hv
            exact ⟨g, hv.1⟩
        subst hg4
        obtain ⟨L, hL⟩ : ∃ L, L = spread (near R C) xs f := ⟨_, rfl⟩
        rw [← hL] at hsp hpos hown4 ⊢
        have HLE := Lib.hid hL
        obtain ⟨cs, ff, fd, q1, q2', q3⟩ := HRB.out
        have HRR := Lib.hid (And.intro q1 (And.intro q2' q3))
        have h34 := BQ.out.trans (hb4.mono BQ.out.size)
        have hz3 : w.heap.size ≤ w3.heap.size := Nat.le_trans HBL.out.size h34.size
        have HT := Lib.hid (And.intro hown4 (And.intro h34 (And.intro (own_below HRR.out.1 h34) (And.intro (own_below HSO.out h34) (HBL.out.trans (h34.mono HBL.out.size))))))
        have hg4b := own_base_le HT.out.1
        have hjk := HJ.out
        have hLL := hsp.1
        have HSPB := Lib.hid hsp.2
        clear hL hf4 hb4 hown4 q1 q2' q3 h34 hsp
        go_wp2_with (first | (at_builtin; refine wp_app (wr := w3) rfl (.tmp 30) (.tmp 32) 44 rfl w.heap.size 24 (.slice none 0 0) 1 24 Try.underlying44 info_rows rfl (by omega) _ j cs (by rfl) HT.out.2.2.1 [.slice (some ⟨g4, 0, none⟩) L.length c4] rfl (by rfl) (by intro u hu; simp at hu; subst hu; rfl) (by unfold maxLen; omega) (by omega) hz3 ?_; intro v' w5 hown5 hgrow5 hv5; have hs5 := HT.out.2.2.2.1.kept hgrow5 (own_ne2 HT.out.2.2.2.1 HT.out.2.2.1 (by decide)); have hl5 := (own_base HT.out.1 HBL.out.size).kept hgrow5 (own_ne2 HT.out.1 HT.out.2.2.1 (by decide)); have hi5 := Ints.of_own hl5 (fun z hz => by have := HSPB.out z hz; have := HX.out.2.2; omega); have HF5 := Lib.hid (And.intro hown5 (And.intro hgrow5 (And.intro hs5 (And.intro hl5 hi5.cells)))); have hz5 := Nat.le_trans hz3 hgrow5.size; clear hown5 hgrow5 hv5 hs5 hl5 hi5) | (at_builtin; refine wpList_append_lies _ rfl (.tmp 34) (.tmp 35) 24 rfl w.heap.size 2 i0 (.int .i64 0) 1 8 Try.underlying24 HINF.out.1 HINF.out.2.1 HINF.out.2.2.1 HINF.out.2.2.2 rfl (by decide) _ s.length (s.map (.int .i64)) rfl HF5.out.2.2.1 ⟨g4, 0, none⟩ L.length c4 (L.map (.int .i64)) rfl (by simp) HF5.out.2.2.2.2 (ints_one _) hpos (by unfold maxLen; omega) (by omega) hz5 _ rfl ?_; intro g6 c6 w6 hown6 hgrow6 hg6 hlt6; have HF6 := Lib.hid (And.intro hown6 (And.intro hgrow6 hg6)); clear hown6 hgrow6 hg6 hlt6))
        go_roundw
        case rel => exact ⟨k + 1, j + 1, rs ++ [L], s ++ L, by omega, by go_num,
          RowsX.step HRR.out.1 HRR.out.2.1 HRR.out.2.2 HT.out.2.1 (show wr.heap.size ≤ g4 from hg4b) (own_base HT.out.1 HBL.out.size) HF5.out.1 HF5.out.2.1 HSO.out HF6.out.2.1 HF6.out.2.2,
          (by show World.ownsRow _ _ _ _ _ _ _; rw [List.length_append, List.map_append]; exact HF6.out.1),
          (HT.out.2.2.2.2.grown HF5.out.2.1 (by have := HT.out.2.2.2.2.size; exact this) (own_blk HT.out.2.2.1)).grown HF6.out.2.1 hz5 (own_blk HF5.out.2.2.1),
          (by
            show (_, _) = _
            rw [partsTo_snoc HF.out, ← HE.out, HLE.out]
            unfold partOne
            rw [if_neg (by simp [HH.out])]),
          (by have := hjk; show j + 1 ≤ k + 1 ∧ _; rw [List.length_append]; omega)⟩
        case measure => simp [intOf]; omega
      · have HH := Lib.hid hh
        clear hh
        go_wp2_with fail
        go_roundw
        case rel => exact ⟨k + 1, j, rs, s, by omega, by go_num, HRB.out.drewN q2, own_drewN HSO.out q2, below_drewN HBL.out q2, by
          show (rs, s) = _
          rw [partsTo_snoc HF.out, ← HE.out]
          unfold partOne
          rw [if_pos HH.out], ⟨by have := HJ.out.1; omega, by have := HJ.out.2; omega⟩⟩
        case measure => simp [intOf]; omega
    · obtain rfl : k = m := by omega
      clear hlt
      have HXX := Lib.hid (show rs = partsF (near R C) xs by
        have e := HE.out
        rw [List.take_of_length_le (by rw [HL.out]; omega), partsTo_rows] at e
        exact congrArg Prod.fst e)
      have HJR := Lib.hid (show rs.length = j by obtain ⟨cs, f, dd, q1, q2, q3⟩ := HRB.out; exact q2)
      go_wp2_with fail
      go_ret
      rw [← HXX.out, HJR.out]
      exact ⟨_, rfl, HRB.out.rows, HBL.out⟩
end Go.Proofs.Ytdmfapdnepdibaa
