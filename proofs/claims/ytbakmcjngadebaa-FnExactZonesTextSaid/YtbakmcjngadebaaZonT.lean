/-
  Zones as text: the names with blanks between; the reference's side.
-/
import Derived.Test.YtbakmcjngadebaaZoneW
import Derived.Test.YtbakmcjngadebaaZoneNm
import Derived.Test.YtbakmcjngadebaaZoneX
import Derived.Lib.Join
namespace Go.Proofs.Ytbakmcjngadebaa
open Go.ChangeShapes Go.WideShapes Go.ChangeAt Go.RowKit Go.Deep
set_option linter.unusedVariables false

theorem join_snoc (l : List (List UInt8)) (a sep : List UInt8) : Lib.join (l ++ [a]) sep = if l = [] then a else Lib.join l sep ++ (sep ++ a) := by
  cases l with
  | nil => simp [Lib.join_one]
  | cons x r =>
    rw [if_neg (by simp), List.cons_append, Lib.join_cons, Lib.join_cons]
    simp [Lib.joinTail]
theorem ret_str {a b : ByteArray} (h : a = b) : Ending.returned (.string a) = .returned (.string b) := by rw [h]
def nmL (x : Int) : List UInt8 := (zoneName x).data.toList
def zoneT (xs : List Int) : ByteArray := ⟨(Lib.join (xs.map nmL) [32]).toArray⟩
theorem nmL_len (x : Int) : (nmL x).length ≤ 6 := by
  unfold nmL zoneName
  (repeat' split) <;> decide
theorem zoneT_nil : zoneT [] = { data := #[] } := rfl
theorem zoneT_one {xs : List Int} {x : Int} {k : Nat} (h : xs[k]? = some x) (hk : k = 0) : zoneT (xs.take (k + 1)) = zoneName x := by
  subst hk
  rw [take_snoc h]
  simp [zoneT, Lib.join_one, nmL]
theorem zoneT_snoc {xs : List Int} {x : Int} {k : Nat} (h : xs[k]? = some x) (hk : 0 < k) : zoneT (xs.take (k + 1)) = zoneT (xs.take k) ++ { data := #[32] } ++ zoneName x := by
  have hk2 : k < xs.length := (List.getElem?_eq_some_iff.1 h).1
  have hne : (xs.take k).map nmL ≠ [] := by
    intro e
    have := congrArg List.length e
    rw [List.length_map, List.length_take, List.length_nil] at this
    omega
  rw [take_snoc h]
  unfold zoneT
  rw [List.map_append, List.map_cons, List.map_nil, join_snoc, if_neg hne]
  apply ByteArray.ext
  rw [ByteArray.data_append, ByteArray.data_append]
  apply Array.toList_inj.1
  simp [nmL]
theorem zoneT_len (xs : List Int) : (zoneT xs).size ≤ 7 * xs.length := by
  unfold zoneT
  have : ∀ l : List Int, (Lib.join (l.map nmL) [32]).length ≤ 7 * l.length := by
    intro l
    cases l with
    | nil => simp [Lib.join_nil]
    | cons a r =>
      rw [List.map_cons, Lib.join_cons]
      have h1 : ∀ r : List Int, (Lib.joinTail [32] (r.map nmL)).length ≤ 7 * r.length := by
        intro r
        induction r with
        | nil => simp [Lib.joinTail]
        | cons b t ih =>
          have hb := nmL_len b
          simp only [Lib.joinTail, List.map_cons, List.flatten_cons, List.length_append, List.length_cons] at ih ⊢
          simp at ih ⊢
          omega
      have h2 := h1 r
      have ha := nmL_len a
      rw [List.length_append, List.length_cons]
      omega
  have h := this xs
  simp only [ByteArray.size, List.size_toArray]
  exact h
def zonesS (xs : List Int) : ByteArray := if lineB xs = true then zoneT xs else { data := #[] }
set_option maxRecDepth 100000 in
theorem l16Text_any (A : Option Addr) (n c : Nat) (xs : List Int) (w : World) (h : Ints w A n xs) (hn : n ≤ 64) :
    Calls Try.prog 83 #[.slice A n c] w fun e w' => e = .returned (.string (zoneT xs)) ∧ Below w.heap.size w w' := by
  have HL := Lib.hid h.1
  go_enter Try.func83, Try.ntmps83
  go_wp2_with fail
  go_loopw [3, 4] (fun o i wr => ∃ k : Nat, k ≤ n ∧ i = .int .i64 k ∧ o = .string (zoneT (xs.take k)) ∧ Below w.heap.size w wr) (fun _ i _ => n - (intOf i).toNat)
  case atStart => exact ⟨0, Nat.zero_le _, rfl, rfl, Below.refl _ _⟩
  case round =>
    obtain ⟨k, hk, rfl, rfl, hbl⟩ := hrel
    have hlen := zoneT_len (xs.take k)
    have htl := List.length_take_le k xs
    obtain ⟨T, hT⟩ : ∃ T, T = zoneT (xs.take k) := ⟨_, rfl⟩
    rw [← hT] at hlen ⊢
    have HT := Lib.hid hT
    clear hT
    by_cases hlt : k < n
    · obtain ⟨b, off, x, rfl, HX, hc, hx1, hx2⟩ := (h.below hbl).at_ hlt
      have HB := Lib.hid hbl
      clear hbl h
      have hnm : (zoneName x).size ≤ 6 := nmL_len x
      have hsz : T.size ≤ 448 := by omega
      by_cases hk0 : k = 0
      · have HS := Lib.hid (zoneT_one HX.out hk0)
        have HE := Lib.hid (show T = { data := #[] } by rw [HT.out, hk0]; rfl)
        have HC := Lib.hid (show T ++ zoneName x = zoneName x by
          rw [HE.out]
          apply ByteArray.ext
          rw [ByteArray.data_append]
          simp)
        have hk1 : ¬ 0 < k := by omega
        clear hk0
        go_wp2_with (go_at_call 106; refine (l16Name_any _ _).mono ?_; rintro e w2 ⟨rfl, hb2⟩)
        have HF := Lib.hid (HB.out.trans (hb2.mono HB.out.size))
        clear hb2
        go_roundw
        case rel => exact ⟨k + 1, by omega, by go_num, by rw [HC.out, HS.out], HF.out⟩
        case measure => simp [intOf]; omega
      · have HS := Lib.hid (zoneT_snoc HX.out (by omega))
        rw [← HT.out] at HS
        have hk1 : 0 < k := by omega
        go_wp2_with (go_at_call 106; refine (l16Name_any _ _).mono ?_; rintro e w2 ⟨rfl, hb2⟩)
        have HF := Lib.hid (HB.out.trans (hb2.mono HB.out.size))
        clear hb2
        go_roundw
        case rel => exact ⟨k + 1, by omega, by go_num, by rw [HS.out], HF.out⟩
        case measure => simp [intOf]; omega
    · obtain rfl : k = n := by omega
      clear hlt
      have HB := Lib.hid hbl
      clear hbl h
      go_wp2_with fail
      go_ret
      exact ⟨ret_str (by rw [HT.out, List.take_of_length_le (by rw [HL.out]; omega)]), HB.out⟩
theorem ZonesText_s (A : Option Addr) (n c : Nat) (xs : List Int) (w : World) (h : Ints w A n xs) :
    Calls Try.prog 39 #[.slice A n c] w fun e w' => e = .returned (.string (zonesS xs)) ∧ Below w.heap.size w w' := by
  have HL := Lib.hid h.1
  cases h1 : lineB xs
  · have HA := Lib.hid (show zonesS xs = { data := #[] } by simp [zonesS, h1])
    go_enter Try.func39, Try.ntmps39
    go_wp2_with fail
    refine (l16Line_any _ _ _ xs _ h).mono ?_
    rintro e w1 ⟨rfl, q1, rfl⟩
    rw [h1]
    go_wp2_with fail
    go_ret
    exact ⟨ret_str HA.out.symm, below_drewN (Below.refl _ _) _⟩
  · have HA := Lib.hid (show zonesS xs = zoneT xs by simp [zonesS, h1])
    have h64 : n ≤ 64 := by
      have := h1
      unfold lineB at this
      simp only [Bool.and_eq_true, decide_eq_true_eq] at this
      rw [HL.out] at this
      exact this.2
    go_enter Try.func39, Try.ntmps39
    go_wp2_with fail
    refine (l16Line_any _ _ _ xs _ h).mono ?_
    rintro e w1 ⟨rfl, q1, rfl⟩
    rw [h1]
    go_wp2_with fail
    refine (l16Text_any _ _ _ xs _ (h.drewN q1) h64).mono ?_
    rintro e w2 ⟨rfl, hb2⟩
    go_wp2_with fail
    go_ret
    exact ⟨ret_str HA.out.symm, (below_drewN (Below.refl _ _) q1).trans hb2⟩
end Go.Proofs.Ytbakmcjngadebaa
