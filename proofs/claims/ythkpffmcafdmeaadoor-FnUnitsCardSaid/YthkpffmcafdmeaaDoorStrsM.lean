/-
  Slices of texts in memory; a text cut at a byte: the reference's.
-/
import Derived.Test.YthkpffmcafdmeaaDoorTxtB
namespace Go.Proofs.YthkpffmcafdmeaaDoor
open Go.ChangeShapes Go.WideShapes Go.ChangeAt Go.RowKit Go.Deep
set_option linter.unusedVariables false

/-- A slice that reads as these texts; its block is one of texts. -/
def Strs (w : World) (A : Option Addr) (n : Nat) (xs : List ByteArray) : Prop :=
  xs.length = n ∧ n ≤ 1000000000000 ∧ (0 < n → ∃ b off cs, A = some ⟨b, off, none⟩ ∧ w.heap[b]? = some (.cells cs 9 (0, 0)) ∧ ∀ j x, xs[j]? = some x → w.cell? ⟨b, off + j, none⟩ = some (.string x))
theorem Strs.at_ {w : World} {A : Option Addr} {n : Nat} {xs : List ByteArray} (h : Strs w A n xs) {k : Nat} (hk : k < n) :
    ∃ b off x, A = some ⟨b, off, none⟩ ∧ Hid (xs[k]? = some x) ∧ w.cell? ⟨b, off + k, none⟩ = some (.string x) := by
  obtain ⟨hl, _, hc⟩ := h
  obtain ⟨b, off, _, hA, _, hcell⟩ := hc (by omega)
  have e : xs[k]? = some xs[k] := List.getElem?_eq_getElem (by omega)
  exact ⟨b, off, xs[k], hA, e, hcell k _ e⟩
theorem Strs.below {w w' : World} {A : Option Addr} {n : Nat} {xs : List ByteArray} (h : Strs w A n xs) (hb : Below w.heap.size w w') : Strs w' A n xs := by
  obtain ⟨hl, hm, hc⟩ := h
  refine ⟨hl, hm, fun h0 => ?_⟩
  obtain ⟨b, off, cs, hA, hh, hcell⟩ := hc h0
  exact ⟨b, off, cs, hA, by rw [hb.block b (Array.getElem?_eq_some_iff.1 hh).1]; exact hh, fun j x hx => cell_kept hb (hcell j x hx)⟩
theorem Strs.keep {w w' : World} {A : Option Addr} {n B e s m : Nat} {xs : List ByteArray} {v : Value} {ys : List Value} (h : Strs w A n xs) (ho : w.ownsRow B e s v m ys) (hg : w.grownBy w' v.ownBlock) (he : e ≠ 9) : Strs w' A n xs := by
  obtain ⟨hl, hm, hc⟩ := h
  refine ⟨hl, hm, fun h0 => ?_⟩
  obtain ⟨b, off, cs, hA, hh, hcell⟩ := hc h0
  have hne : v.ownBlock ≠ some b := by
    rcases ho.2 with ⟨hv, _⟩ | ⟨g1, cap, cur, hv, hb, hg1, _⟩
    · rw [hv]; simp [Value.ownBlock]
    · rw [hv]
      intro e1
      simp only [Value.ownBlock, Option.some.injEq] at e1
      subst e1
      rw [hh] at hg1
      injection hg1 with hg1
      injection hg1 with _ h2 _
      exact he h2.symm
  exact ⟨b, off, cs, hA, by rw [hg.block b (Array.getElem?_eq_some_iff.1 hh).1 (fun e => hne e.symm)]; exact hh, fun j x hx => hg.cell (hcell j x hx) (fun e => hne e.symm)⟩
theorem Strs.of_own {w : World} {base n c : Nat} {A : Option Addr} {xs : List ByteArray} (h : w.ownsRow base 9 1 (.slice A n c) n (xs.map .string)) (hl : xs.length = n) (hm : n ≤ 1000000000000) : Strs w A n xs := by
  refine ⟨hl, hm, fun h0 => ?_⟩
  obtain ⟨g, cap, cur, hv, hh⟩ : ∃ g cap cur, Value.slice A n c = .slice (some ⟨g, 0, none⟩) n cap ∧ w.heap[g]? = some (.cells cur 9 (0, 0)) := by
    rcases h.2 with ⟨_, h1⟩ | ⟨g, cap, cur, hv, _, hh, _⟩
    · omega
    · exact ⟨g, cap, cur, hv, hh⟩
  injection hv with hv1 _ hv2
  subst hv1 hv2
  refine ⟨g, 0, cur, rfl, hh, fun j x hx => ?_⟩
  have hj : j < n := by rw [← hl]; exact (List.getElem?_eq_some_iff.1 hx).1
  rw [Nat.zero_add, h.cellAt j (by omega), List.getElem?_map, hx]; rfl
theorem ext_data (s : ByteArray) (a b : Nat) : (s.extract a b).data.toList = (s.data.toList.drop a).take (b - a) := Lib.extract_data s a b
/-- The pieces that are cut so far. -/
theorem spl_hit {c : UInt8} {l : List UInt8} {P : List (List UInt8)} {f k : Nat} (h : spl c l = P ++ spl c (l.drop f)) (hf : f ≤ k) (hk : l[k]? = some c) (hn : c ∉ (l.drop f).take (k - f)) :
    spl c l = (P ++ [(l.drop f).take (k - f)]) ++ spl c (l.drop (k + 1)) := by
  have hkl : k < l.length := (List.getElem?_eq_some_iff.1 hk).1
  have e : l.drop f = (l.drop f).take (k - f) ++ c :: l.drop (k + 1) := by
    have h1 : (l.drop f).drop (k - f) = c :: l.drop (k + 1) := by
      rw [List.drop_drop, show f + (k - f) = k by omega, List.drop_eq_getElem_cons hkl]
      have := (List.getElem?_eq_some_iff.1 hk).2
      rw [this]
    conv => lhs; rw [← List.take_append_drop (k - f) (l.drop f), h1]
  rw [h, List.append_assoc]
  congr 1
  conv => lhs; rw [e]
  rw [spl_app hn]; rfl
theorem spl_miss {c d : UInt8} {l : List UInt8} {f k : Nat} (hf : f ≤ k) (hk : l[k]? = some d) (hd : d ≠ c) (hn : c ∉ (l.drop f).take (k - f)) : c ∉ (l.drop f).take (k + 1 - f) := by
  have e : k + 1 - f = (k - f) + 1 := by omega
  rw [e, List.take_add_one, List.getElem?_drop, show f + (k - f) = k by omega, hk]
  intro h
  rcases List.mem_append.1 h with h | h
  · exact hn h
  · simp at h; exact hd h.symm
theorem spl_end {c : UInt8} {l : List UInt8} {P : List (List UInt8)} {f : Nat} (h : spl c l = P ++ spl c (l.drop f)) (hn : c ∉ (l.drop f).take (l.length - f)) : spl c l = P ++ [l.drop f] := by
  rw [List.take_of_length_le (by simp)] at hn
  rw [h, spl_free hn]
def SplR (c : UInt8) (s : ByteArray) (w : World) (e : Ending) (w' : World) : Prop :=
  ∃ A cc PB, e = .returned (.slice A (spl c s.data.toList).length cc) ∧ Hid (PB.map (·.data.toList) = spl c s.data.toList) ∧ Strs w' A (spl c s.data.toList).length PB ∧ Below w.heap.size w w'
set_option maxRecDepth 100000 in
set_option maxHeartbeats 3200000 in
theorem l01Split_s (s : ByteArray) (c : UInt8) (ci : Int) (w : World) (hs : s.size ≤ 1000000000) (hci : ci = (c.toNat : Int)) :
    Calls Tryd.prog 76 #[.string s, .int .u8 ci] w (SplR c s w) := by
  subst hci
  have hown0 := World.ownsRow_lit (base := w.heap.size) (e := 9) (size := 1) w #[] 0 (Nat.le_refl _) (by simp) rfl
  have hba : Below w.heap.size w (w.alloc (.cells #[] 9)) := (Below.refl _ _).alloc (Nat.le_refl _) _
  have H0 := Lib.hid (And.intro hown0 hba)
  have hcl := c.toNat_lt
  clear hown0 hba
  go_enter Tryd.func76, Tryd.ntmps76
  go_wp2_with fail
  go_loopw [5, 6, 7] (fun v fv iv wr => ∃ (k f : Nat) (PB : List ByteArray), k ≤ s.size ∧ f ≤ k ∧ PB.length ≤ f ∧ iv = .int .i64 k ∧ fv = .int .i64 f ∧ (∃ A cc, v = .slice A PB.length cc) ∧ Hid (spl c s.data.toList = PB.map (·.data.toList) ++ spl c (s.data.toList.drop f)) ∧ Hid (c ∉ (s.data.toList.drop f).take (k - f)) ∧
    Hid (wr.ownsRow w.heap.size 9 1 v PB.length (PB.map .string) ∧ Below w.heap.size w wr)) (fun _ _ iv _ => s.size - (intOf iv).toNat)
  case atStart => exact ⟨0, 0, [], Nat.zero_le _, Nat.le_refl _, Nat.le_refl _, rfl, rfl, ⟨_, _, rfl⟩, rfl, (by simp [Hid]), H0.out⟩
  case round =>
    clear H0
    obtain ⟨k, f, PB, hk, hf, hpl, rfl, rfl, ⟨A, cc, rfl⟩, HP, HN, HO⟩ := hrel
    have hfi : (f : Int) ≤ (k : Int) := by omega
    have hf0 : (0 : Int) ≤ (f : Int) := by omega
    have hwz := HO.out.2.size
    by_cases hlt : k < s.size
    · have hki : (k : Int) < (s.size : Int) := by omega
      have hkj : (k : Int) ≤ (s.size : Int) := by omega
      have hget : s.data.toList[k]? = some s[k] := by rw [List.getElem?_eq_getElem (by simpa using hlt)]; rfl
      have hbk := (s[k]).toNat_lt
      by_cases hc : (s[k]).toNat = c.toNat
      · have hcc : s[k] = c := UInt8.toNat_inj.1 hc
        rw [hcc] at hget
        have HP2 := Lib.hid (show spl c s.data.toList = (PB ++ [s.extract f k]).map (·.data.toList) ++ spl c (s.data.toList.drop (k + 1)) by
          rw [List.map_append, List.map_singleton, ext_data]
          exact spl_hit HP.out hf hget HN.out)
        have hci : ((s[k]).toNat : Int) = (c.toNat : Int) := by omega
        have hcb : (((s[k]).toNat : Int) == (c.toNat : Int)) = true := by simpa using hci
        have hcn : ((s[k]).toNat == c.toNat) = true := by simpa using hc
        clear hget hcc hc hci
        go_wp2_with (refine wp_app_str rfl (.tmp 20) (.tmp 25) 74 rfl w.heap.size 9 Tryd.underlying74 info_str _ PB.length PB _ rfl HO.out.1 rfl (by omega) hwz ?_; intro v' w3 hown3 hgrow3 hv3)
        have HO4 := Lib.hid (show w3.ownsRow w.heap.size 9 1 v' (PB ++ [s.extract f k]).length ((PB ++ [s.extract f k]).map .string) ∧ Below w.heap.size w w3 from ⟨by rw [List.length_append]; exact hown3, below_app HO.out.2 HO.out.1 hgrow3 hwz (Nat.le_refl _)⟩)
        have HV := Lib.hid (show ∃ A cc, v' = .slice A (PB ++ [s.extract f k]).length cc by obtain ⟨g, c, h⟩ := hv3; exact ⟨_, c, by rw [h, List.length_append]; rfl⟩)
        have HLN := Lib.hid (show (PB ++ [s.extract f k]).length ≤ k + 1 by rw [List.length_append, List.length_singleton]; omega)
        obtain ⟨g3, c3, rfl⟩ := hv3
        clear hown3 hgrow3 HO
        go_wp2_with fail
        go_roundw
        case rel => exact ⟨k + 1, k + 1, PB ++ [s.extract f k], by omega, Nat.le_refl _, HLN.out, by go_num, by go_num, HV.out, HP2.out, (by simp [Hid]), HO4.out⟩
        case measure => simp [intOf]; omega
      · have hcc : s[k] ≠ c := fun e => hc (by rw [e])
        have HN2 := Lib.hid (spl_miss hf hget hcc HN.out)
        have hcb : (((s[k]).toNat : Int) == (c.toNat : Int)) = false := by rw [beq_eq_false_iff_ne]; omega
        have hcn : ((s[k]).toNat == c.toNat) = false := by rw [beq_eq_false_iff_ne]; exact hc
        have hcd : decide ((s[k]).toNat = c.toNat) = false := by simpa using hc
        clear hget hcc
        go_wp2_with fail
        go_roundw
        case rel => exact ⟨k + 1, f, PB, by omega, by omega, hpl, by go_num, rfl, ⟨_, _, rfl⟩, HP.out, HN2.out, HO.out⟩
        case measure => simp [intOf]; omega
    · obtain rfl : k = s.size := by omega
      have hfs : f ≤ s.size := hf
      have HE := Lib.hid (show (PB ++ [s.extract f s.size]).map (·.data.toList) = spl c s.data.toList by
        have h1 : s.data.toList.length = s.size := by rw [Lib.size_eq]
        rw [List.map_append, List.map_singleton, ext_data, spl_end HP.out (by rw [h1]; exact HN.out), List.take_of_length_le (by rw [List.length_drop, h1]; exact Nat.le_refl _)])
      clear hlt
      go_wp2_with (refine wp_app_str rfl (.tmp 29) (.tmp 33) 74 rfl w.heap.size 9 Tryd.underlying74 info_str _ PB.length PB _ rfl HO.out.1 rfl (by omega) hwz ?_; intro v' w3 hown3 hgrow3 hv3)
      have HB4 := Lib.hid (below_app HO.out.2 HO.out.1 hgrow3 hwz (Nat.le_refl _))
      obtain ⟨g3, c3, rfl⟩ := hv3
      have HL := Lib.hid (show (spl c s.data.toList).length = PB.length + 1 by rw [← HE.out, List.length_map, List.length_append]; rfl)
      have HS := Lib.hid (show Strs w3 (some ⟨g3, 0, none⟩) (PB.length + 1) (PB ++ [s.extract f s.size]) from Strs.of_own hown3 (by simp) (by omega))
      clear hown3 hgrow3 HO
      go_wp2_with fail
      go_ret
      exact ⟨some ⟨g3, 0, none⟩, c3, PB ++ [s.extract f s.size], by rw [HL.out]; rfl, HE.out, by rw [HL.out]; exact HS.out, HB4.out⟩
end Go.Proofs.YthkpffmcafdmeaaDoor
