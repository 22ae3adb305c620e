/-
  slices.DeleteFunc at numbers in a row of the call's own, at whatever closure.
-/
import Derived.Test.YtdmfapdnepdibaaGridH
import Derived.Lib.SliceRun
import Derived.Lib.LazyBuf
import Derived.Shelf.Abstract
namespace Go.Proofs.Ytdmfapdnepdibaa
open Go.ChangeShapes Go.WideShapes Go.ChangeAt Go.RowKit Go.Deep
set_option linter.unusedVariables false

def keptTo (p : Int → Bool) (xs : List Int) (j : Nat) : List Int := (xs.take j).filter fun x => !p x
theorem keptTo_no {p : Int → Bool} {xs : List Int} {j : Nat} {x : Int} (h : xs[j]? = some x) (hp : p x = true) : keptTo p xs (j + 1) = keptTo p xs j := by
  unfold keptTo
  rw [List.take_add_one, h, List.filter_append]
  simp [hp]
theorem keptTo_yes {p : Int → Bool} {xs : List Int} {j : Nat} {x : Int} (h : xs[j]? = some x) (hp : p x = false) : keptTo p xs (j + 1) = keptTo p xs j ++ [x] := by
  unfold keptTo
  rw [List.take_add_one, h, List.filter_append]
  simp [hp]
theorem keptTo_len (p : Int → Bool) (xs : List Int) (j : Nat) : (keptTo p xs j).length ≤ j := by
  have := List.length_filter_le (fun x => !p x) (xs.take j)
  unfold keptTo
  have h2 := List.length_take_le j xs
  omega
theorem keptTo_all {p : Int → Bool} {xs : List Int} (j : Nat) (h : ∀ (i : Nat) (a : Int), i < j → xs[i]? = some a → p a = false) : keptTo p xs j = xs.take j := by
  unfold keptTo
  rw [List.filter_eq_self]
  intro a ha
  obtain ⟨i, hi⟩ := List.mem_iff_getElem?.1 ha
  rw [List.getElem?_take] at hi
  by_cases hij : i < j
  · rw [if_pos hij] at hi
    simp [h i a hij hi]
  · rw [if_neg hij] at hi; cases hi
theorem grown_setCells {a : World} {g : Nat} : ∀ (vs : List Value) (o : Nat) (w : World), a.grownBy w (some g) → a.grownBy (w.setCells g o vs) (some g)
  | [], _, _, h => h
  | v :: r, o, w, h => grown_setCells r (o + 1) _ (grown_setCell h (p := ⟨g, o, none⟩) rfl v)
theorem grown_below {w w' : World} {r : Option Nat} (h : Below w.heap.size w w') : w.grownBy w' r := ⟨h.os, h.tape, h.output, h.size, fun i hi _ => h.block i hi⟩
theorem grown_trans {a b c : World} {r : Option Nat} (h : a.grownBy b r) (h2 : Below b.heap.size b c) : a.grownBy c r :=
  ⟨h2.os.trans h.os, h2.tape.trans h.tape, h2.output.trans h.output, Nat.le_trans h.size h2.size, fun i hi hne => (h2.block i (Nat.lt_of_lt_of_le hi h.size)).trans (h.block i hi hne)⟩
def IdxAt (p : Int → Bool) (xs : List Int) (e : Ending) : Prop := ∃ r : Int, e = .returned (.int .i64 r) ∧
  ((r = -1 ∧ ∀ (j : Nat) (a : Int), xs[j]? = some a → p a = false) ∨ ∃ i : Nat, r = (i : Int) ∧ (∀ (j : Nat) (a : Int), j < i → xs[j]? = some a → p a = false) ∧ ∃ a, xs[i]? = some a ∧ p a = true)
set_option maxRecDepth 100000 in
set_option maxHeartbeats 800000 in
theorem indexFunc_at (A : Option Addr) (l : List Int) (n c : Nat) (F : Nat) (caps : Array Value) (p : Int → Bool) (w : World) (eg : ∀ args w, (callFunc F args).run Try.prog w = .ok (.enter F args) w) (h : Ints w A n l)
    (hf : ∀ (a : Int) (W : World), a ∈ l → Below w.heap.size w W → Calls Try.prog F (#[.int .i64 a] ++ caps) W fun e W' => e = .returned (.bool (p a)) ∧ Below W.heap.size W W') :
    Calls Try.prog 76 #[.slice A n c, .func (.func F) #[] caps] w fun e w' => IdxAt p l e ∧ Below w.heap.size w w' := by
  have HF := Lib.hid hf
  have HL := Lib.hid h.1
  have hn := h.2.1
  have HS := Lib.hid h
  clear hf h
  go_enter Try.func76, Try.ntmps76
  go_wp2_with fail
  go_loopw [4, 8] (fun _ i wr => ∃ j : Nat, j ≤ n ∧ i = .int .i64 j ∧ Below w.heap.size w wr ∧ Hid (∀ (i : Nat) (a : Int), i < j → l[i]? = some a → p a = false)) (fun _ i _ => n - (intOf i).toNat)
  case atStart => exact ⟨0, Nat.zero_le _, rfl, Below.refl _ _, fun i a hi => absurd hi (by omega)⟩
  case round =>
    obtain ⟨j, hj, rfl, hbl, HK⟩ := hrel
    by_cases hlt : j < n
    · obtain ⟨b, off, a, rfl, Ha, c0, _⟩ := (HS.out.below hbl).at_ hlt
      have hji : (j : Int) < (n : Int) := by omega
      have HB := Lib.hid hbl
      clear hbl
      cases hp : p a
      · go_wp2_with fail
        refine (HF.out a _ (List.mem_of_getElem? Ha.out) HB.out).mono ?_
        rintro e w2 ⟨rfl, hb2⟩
        rw [hp]
        have HB2 := Lib.hid (HB.out.trans (hb2.mono HB.out.size))
        clear hb2 c0
        go_wp2_with fail
        go_roundw
        case rel => exact ⟨j + 1, by omega, by go_num, HB2.out, fun i b hi hb => by
          by_cases e : i = j
          · subst e
            have := Ha.out.symm.trans hb
            injection this with this
            rw [← this]; exact hp
          · exact HK.out i b (by omega) hb⟩
        case measure => simp [intOf]; omega
      · go_wp2_with fail
        refine (HF.out a _ (List.mem_of_getElem? Ha.out) HB.out).mono ?_
        rintro e w2 ⟨rfl, hb2⟩
        rw [hp]
        have HB2 := Lib.hid (HB.out.trans (hb2.mono HB.out.size))
        have HP := Lib.hid hp
        clear hb2 c0 hp
        go_wp2_with fail
        go_ret
        exact ⟨⟨_, rfl, .inr ⟨j, rfl, HK.out, a, Ha.out, HP.out⟩⟩, HB2.out⟩
    · obtain rfl : j = n := by omega
      have HB := Lib.hid hbl
      clear hlt hbl
      go_wp2_with fail
      go_ret
      exact ⟨⟨-1, rfl, .inl ⟨rfl, fun i a ha => HK.out i a (by rw [← HL.out]; exact (List.getElem?_eq_some_iff.1 ha).1) ha⟩⟩, HB.out⟩
set_option maxRecDepth 100000 in
theorem deleteFunc_zero (A : Option Addr) (cap : Nat) (F : Nat) (caps : Array Value) (w : World) (eg : ∀ args w, (callFunc F args).run Try.prog w = .ok (.enter F args) w) :
    Calls Try.prog 44 #[.slice A 0 cap, .func (.func F) #[] caps] w fun e w' => e = .returned (.slice A 0 cap) ∧ Below w.heap.size w w' := by
  go_enter Try.func44, Try.ntmps44
  go_wp2_with fail
  refine (indexFunc_at _ [] 0 _ F caps (fun _ => false) _ eg (Ints.nil _ _) (fun a W ha hW => absurd ha (by simp))).mono ?_
  rintro e w1 ⟨⟨r, rfl, hr⟩, hb1⟩
  have HB1 := Lib.hid hb1
  clear hb1
  rcases hr with ⟨rfl, hall⟩ | ⟨i0, rfl, hall, x0, hx0, hp0⟩
  · clear hall
    go_wp2_with fail
    go_ret
    exact ⟨rfl, HB1.out⟩
  · simp at hx0
set_option maxRecDepth 100000 in
set_option maxHeartbeats 1600000 in
theorem deleteFunc_any (g n cap base : Nat) (xs : List Int) (F : Nat) (caps : Array Value) (p : Int → Bool) (w : World) (eg : ∀ args w, (callFunc F args).run Try.prog w = .ok (.enter F args) w) (hn : n ≤ 64)
    (hown : w.ownsRow base 2 1 (.slice (some ⟨g, 0, none⟩) n cap) n (xs.map (.int .i64))) (hbd : ∀ x ∈ xs, -9223372036854775808 ≤ x ∧ x ≤ 9223372036854775807)
    (hf : ∀ (a : Int) (W : World), a ∈ xs → w.grownBy W (some g) → Calls Try.prog F (#[.int .i64 a] ++ caps) W fun e W' => e = .returned (.bool (p a)) ∧ Below W.heap.size W W') :
    Calls Try.prog 44 #[.slice (some ⟨g, 0, none⟩) n cap, .func (.func F) #[] caps] w fun e w' => e = .returned (.slice (some ⟨g, 0, none⟩) (keptTo p xs n).length cap) ∧
      w'.ownsRow base 2 1 (.slice (some ⟨g, 0, none⟩) (keptTo p xs n).length cap) (keptTo p xs n).length ((keptTo p xs n).map (.int .i64)) ∧ w.grownBy w' (some g) := by
  have hints := Ints.of_own hown hbd
  have HF := Lib.hid hf
  have HL := Lib.hid hints.1
  have HO := Lib.hid hown
  clear hf hown
  go_enter Try.func44, Try.ntmps44
  go_wp2_with fail
  refine (indexFunc_at _ xs n _ F caps p _ eg hints (fun a W ha hW => HF.out a W ha (grown_below hW))).mono ?_
  rintro e w1 ⟨⟨r, rfl, hr⟩, hb1⟩
  have HB1 := Lib.hid hb1
  clear hb1 hints
  rcases hr with ⟨rfl, hall⟩ | ⟨i0, rfl, hall, x0, hx0, hp0⟩
  · have HK := Lib.hid (show keptTo p xs n = xs by rw [keptTo_all n (fun i a _ h => hall i a h), List.take_of_length_le (by rw [HL.out]; exact Nat.le_refl _)])
    clear hall
    go_wp2_with fail
    go_ret
    exact ⟨by rw [HK.out, HL.out]; first | done | rfl, by rw [HK.out, HL.out]; exact own_below HO.out HB1.out, grown_below HB1.out⟩
  · have hi0 : i0 < n := by have := (List.getElem?_eq_some_iff.1 hx0).1; rw [HL.out] at this; exact this
    have HK0 := Lib.hid (show keptTo p xs (i0 + 1) = xs.take i0 by rw [keptTo_no hx0 hp0, keptTo_all i0 hall])
    have HX := Lib.hid (And.intro hall (And.intro hx0 hp0))
    clear hall hx0 hp0
    have hne : ((i0 : Int) == -1) = false := beq_eq_false_iff_ne.2 (by omega)
    go_wp2_with fail
    obtain ⟨f0, hbg, hnc, hcm, hxl, hrow0, hf0⟩ := own_to_rowIs HO.out
    have hlt0 := hrow0.lt
    have HR0 := Lib.hid (And.intro (hrow0.of_block (HB1.out.block _ hlt0)) hf0)
    clear hrow0 hf0
    go_loopw [5, 6] (fun is js wr => ∃ (i j : Nat) (f : Nat → Value), is = .int .i64 i ∧ js = .int .i64 j ∧ i = (keptTo p xs j).length ∧ i < j ∧ j ≤ n ∧ wr.rowIs g 2 (cap * 1) f ∧ Hid ((∀ (t : Nat) (y : Int), (keptTo p xs j)[t]? = some y → f t = .int .i64 y) ∧ (∀ (t : Nat) (y : Int), j ≤ t → xs[t]? = some y → f t = .int .i64 y)) ∧ w.grownBy wr (some g)) (fun _ j _ => n - (intOf j).toNat)
    case atStart =>
      have hk0 : (keptTo p xs (i0 + 1)).length = i0 := by rw [HK0.out, List.length_take, HL.out]; omega
      refine ⟨i0, i0 + 1, f0, rfl, by go_num, hk0.symm, by omega, by omega, HR0.out.1, ⟨fun t y ht => ?_, fun t y _ hy => ?_⟩, grown_below HB1.out⟩
      · rw [HK0.out, List.getElem?_take] at ht
        by_cases h : t < i0
        · rw [if_pos h] at ht
          have := HR0.out.2 t (by omega)
          rw [List.getElem?_map, ht] at this
          injection this with this
          exact this.symm
        · rw [if_neg h] at ht; cases ht
      · have hlx := (List.getElem?_eq_some_iff.1 hy).1
        rw [HL.out] at hlx
        have := HR0.out.2 t (by omega)
        rw [List.getElem?_map, hy] at this
        injection this with this
        exact this.symm
    case round =>
      obtain ⟨i, j, f, rfl, rfl, hi, hij, hj, hrow, HI, hgr⟩ := hrel
      by_cases hlt : j < n
      · obtain ⟨x, HXJ⟩ : ∃ x, Hid (xs[j]? = some x) := ⟨_, List.getElem?_eq_getElem (by rw [HL.out]; exact hlt)⟩
        have hcj := hrow.cell (i := j) (by omega)
        rw [HI.out.2 j x (Nat.le_refl _) HXJ.out] at hcj
        have hxb := hbd x (List.mem_of_getElem? HXJ.out)
        have hji : (j : Int) < (n : Int) := by omega
        have HG := Lib.hid (And.intro hgr (And.intro hrow hi))
        have hgl := hrow.lt
        clear hgr hrow hi
        cases hp : p x
        · have HK := Lib.hid (keptTo_yes HXJ.out hp)
          go_wp2_with fail
          refine (HF.out x _ (List.mem_of_getElem? HXJ.out) HG.out.1).mono ?_
          rintro e w2 ⟨rfl, hb2⟩
          rw [hp]
          have hrow2 := HG.out.2.1.of_block (hb2.block _ hgl)
          have hci := hrow2.cell (i := i) (by omega)
          have hfi := hrow2.frozen i
          have hii : (i : Int) < (n : Int) := by omega
          have HS := Lib.hid (And.intro (hrow2.set i (.int .i64 x)) (grown_setCell (grown_trans HG.out.1 hb2) (p := ⟨g, i, none⟩) rfl (.int .i64 x)))
          clear hrow2 hb2 hcj
          go_wp2_with fail
          go_roundw
          case rel =>
            have hle := keptTo_len p xs j
            refine ⟨i + 1, j + 1, _, by go_num, by go_num, by rw [HK.out, List.length_append, ← HG.out.2.2]; rfl, by omega, by omega, HS.out.1, ⟨fun t y ht => ?_, fun t y h1 hy => ?_⟩, HS.out.2⟩
            · rw [HK.out] at ht
              by_cases e : t = i
              · subst e
                rw [List.getElem?_append_right (by rw [← HG.out.2.2]; exact Nat.le_refl _), ← HG.out.2.2, Nat.sub_self] at ht
                simp at ht
                simp [ht]
              · have htl := (List.getElem?_eq_some_iff.1 ht).1
                rw [List.length_append, ← HG.out.2.2] at htl
                simp at htl
                rw [List.getElem?_append_left (by rw [← HG.out.2.2]; omega)] at ht
                rw [if_neg e]
                exact HI.out.1 t y ht
            · rw [if_neg (by omega)]
              exact HI.out.2 t y (by omega) hy
          case measure => simp [intOf]; omega
        · have HK := Lib.hid (keptTo_no HXJ.out hp)
          go_wp2_with fail
          refine (HF.out x _ (List.mem_of_getElem? HXJ.out) HG.out.1).mono ?_
          rintro e w2 ⟨rfl, hb2⟩
          rw [hp]
          have HS := Lib.hid (And.intro (HG.out.2.1.of_block (hb2.block _ hgl)) (grown_trans HG.out.1 hb2))
          clear hb2 hcj
          go_wp2_with fail
          go_roundw
          case rel => exact ⟨i, j + 1, f, rfl, by go_num, by rw [HK.out]; exact HG.out.2.2, by omega, by omega, HS.out.1, ⟨by rw [HK.out]; exact HI.out.1, fun t y h1 hy => HI.out.2 t y (by omega) hy⟩, HS.out.2⟩
          case measure => simp [intOf]; omega
      · obtain rfl : j = n := by omega
        have hcl : ∀ ty, (Builtin.clear_ #[24] ty #[.slice (some ⟨g, i, none⟩) (j - i) (cap - i)]).run Try.prog wr = .ok (.tuple #[]) (wr.setCells g i (List.replicate (j - i) (.int .i64 0))) :=
          fun ty => Lib.run_clear_slice wr 24 2 ty (.int .i64 0) Try.underlying24 (fun _ => by first | rfl | simp [go_sem]) rfl rfl g i (j - i) (cap - i) (by omega) (fun t ht => by rw [hrow.cell (by omega)]; rfl) (fun t ht => hrow.frozen (i + t))
        have hii : (i : Int) ≤ (j : Int) := by omega
        have hic : (i : Int) ≤ (cap : Int) := by omega
        have hne2 : ¬ cap = i := by omega
        have HG := Lib.hid (And.intro hgr (And.intro hrow hi))
        clear hgr hrow hi hlt
        go_wp2_with fail
        go_ret
        refine ⟨by rw [← HG.out.2.2]; first | done | rfl, ?_, grown_setCells _ _ _ HG.out.1⟩
        have hle := HG.out.2.2
        refine rowIs_to_own (n := (keptTo p xs j).length) (cap := cap) (size := 1) (xs := (keptTo p xs j).map (.int .i64)) (rowIs_setCells (List.replicate (j - i) (.int .i64 0)) i _ _ HG.out.2.1) hbg (by omega) hcm (by simp) (fun t ht => ?_)
        have ht' : t < (keptTo p xs j).length := by omega
        rw [List.getElem?_map, List.getElem?_eq_getElem ht', if_neg (by omega)]
        rw [HI.out.1 t _ (List.getElem?_eq_getElem ht')]
        rfl
end Go.Proofs.Ytdmfapdnepdibaa
