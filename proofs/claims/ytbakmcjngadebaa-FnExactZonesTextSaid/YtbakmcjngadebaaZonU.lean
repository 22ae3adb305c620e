/-
  Zones as text: the program's side.
-/
import Derived.Test.YtbakmcjngadebaaZonT
import Derived.Test.YtbakmcjngadebaaShJ
namespace Go.Proofs.Ytbakmcjngadebaa
open Go.ChangeShapes Go.WideShapes Go.ChangeAt Go.RowKit Go.Deep
set_option linter.unusedVariables false

theorem info_str : (Try.prog.info? 9).map (fun i => (i.zero, i.size, i.bytes)) = some (some (.string ByteArray.empty), 1, 16) := by kernel_rfl
def nmV (x : Int) : Value := .string (zoneName x)
theorem join_zones (xs : List Int) : (⟨(Lib.join ((xs.map zoneName).map (·.data.toList)) ({ data := #[32] } : ByteArray).data.toList).toArray⟩ : ByteArray) = zoneT xs := by
  unfold zoneT
  rw [List.map_map]
  rfl
theorem zonesS_len {xs : List Int} (h : xs.length ≤ 64) : (Lib.join ((xs.map zoneName).map (·.data.toList)) ({ data := #[32] } : ByteArray).data.toList).length ≤ 140737488355328 := by
  have h1 := zoneT_len xs
  rw [← join_zones] at h1
  simp only [ByteArray.size, List.size_toArray] at h1
  show (Lib.join ((xs.map zoneName).map (·.data.toList)) [32]).length ≤ _
  omega
/-- Names in memory of the call's own, joined. -/
theorem join_own (B : Nat) (o : Value) (n : Nat) (xs : List Int) (w : World) (hl : xs.length = n) (hn : n ≤ 64) (h : w.ownsRow B 9 1 o n (xs.map nmV)) :
    ∃ A c, o = .slice A n c ∧ Calls Try.prog 85 #[.slice A n c, .string { data := #[32] }] w fun e w' => e = .returned (.string (zoneT xs)) ∧ Below w.heap.size w w' := by
  rcases h.2 with ⟨hv, h0⟩ | ⟨g, cap, cur, hv, hg, hh, hnc, hcm, hs, ht⟩
  · refine ⟨none, 0, by rw [hv, h0], ?_⟩
    have : xs = [] := List.length_eq_zero_iff.1 (by omega)
    subst this
    rw [h0]
    exact (Try.strings_Join_none none 0 { data := #[32] } w).mono fun e w' ⟨he, hw⟩ => ⟨he, hw ▸ Below.refl _ _⟩
  · refine ⟨some ⟨g, 0, none⟩, cap, hv, ?_⟩
    have hgl : g < w.heap.size := (Array.getElem?_eq_some_iff.1 hh).1
    have key := Try.strings_Join g 0 cap (xs.map zoneName) { data := #[32] } w (fun j x hx => by
      rw [List.getElem?_map] at hx
      cases hz : xs[j]? with
      | none => rw [hz] at hx; simp at hx
      | some z =>
        rw [hz] at hx
        simp only [Option.map_some, Option.some.injEq] at hx
        have hj : j < n := by have := (List.getElem?_eq_some_iff.1 hz).1; omega
        rw [cell_of_row w g (0 + j) cur 9 (0, 0) hh, Nat.zero_add]
        have h1 : (cur.toList.take (n * 1))[j]? = some (.string x) := by rw [ht, List.getElem?_map, hz, ← hx]; rfl
        rw [List.getElem?_take, if_pos (by omega)] at h1
        simpa using h1) hgl (by rw [List.length_map]; omega) (by rw [List.length_map]; omega) (zonesS_len (by omega))
    rw [List.length_map, hl, join_zones] at key
    exact key
set_option maxRecDepth 100000 in
set_option maxHeartbeats 800000 in
theorem ZonesText_i (A : Option Addr) (n c : Nat) (xs : List Int) (w : World) (h : Ints w A n xs) :
    Calls Try.prog 40 #[.slice A n c] w fun e w' => e = .returned (.string (zonesS xs)) ∧ Below w.heap.size w w' := by
  have HL := Lib.hid h.1
  cases h1 : lineB xs
  · have HA := Lib.hid (show zonesS xs = { data := #[] } by simp [zonesS, h1])
    go_enter Try.func40, Try.ntmps40
    go_wp2_with fail
    refine (zonesOk_any _ _ _ xs _ h).mono ?_
    rintro e w1 ⟨rfl, hb1⟩
    rw [h1]
    go_wp2_with fail
    go_ret
    exact ⟨ret_str HA.out.symm, hb1⟩
  · have HA := Lib.hid (show zonesS xs = zoneT xs by simp [zonesS, h1])
    have h64 : n ≤ 64 := by
      have := h1
      unfold lineB at this
      simp only [Bool.and_eq_true, decide_eq_true_eq] at this
      rw [HL.out] at this
      exact this.2
    go_enter Try.func40, Try.ntmps40
    go_wp2_with fail
    refine (zonesOk_any _ _ _ xs _ h).mono ?_
    rintro e w1 ⟨rfl, hb1⟩
    rw [h1]
    replace h := h.below hb1
    have HB1 := Lib.hid hb1
    clear h1 hb1
    go_wp2_with fail
    go_loopw [3, 11] (fun o i wr => ∃ k : Nat, k ≤ n ∧ i = .int .i64 k ∧ Below w1.heap.size w1 wr ∧ wr.ownsRow w1.heap.size 9 1 o k ((xs.take k).map nmV)) (fun _ i _ => n - (intOf i).toNat)
    case atStart => exact ⟨0, Nat.zero_le _, rfl, Below.refl _ _, ⟨by simp, .inl ⟨rfl, rfl⟩⟩⟩
    case round =>
      obtain ⟨k, hk, rfl, hbl, hown⟩ := hrel
      have HB := Lib.hid (And.intro hbl hown)
      by_cases hlt : k < n
      · obtain ⟨b, off, x, rfl, HX, hc, hx1, hx2⟩ := (h.below hbl).at_ hlt
        have HS := Lib.hid (take_snoc HX.out)
        clear hbl hown h
        have hz := HB.out.1.size
        go_wp2_with (first | (go_at_call 84; refine (ZoneName_any _ _).mono ?_; rintro e w2 ⟨rfl, rfl⟩) | (at_builtin; refine wp_app rfl (.tmp 15) (.tmp 18) 82 rfl w1.heap.size 9 (.string ByteArray.empty) 1 16 Try.underlying82 info_str rfl (by omega) _ k _ (by rfl) HB.out.2 [nmV x] rfl (by rfl) (by intro u hu; simp at hu; subst hu; rfl) (by unfold maxLen; omega) (by omega) hz ?_; intro v' w4 hown4 hgrow4 hv4))
        have HF := Lib.hid (And.intro (HB.out.1.grown hgrow4 HB.out.1.size (own_blk HB.out.2)) hown4)
        clear hown4 hgrow4
        go_roundw
        case rel => exact ⟨k + 1, by omega, by go_num, HF.out.1, by rw [HS.out, List.map_append]; exact HF.out.2⟩
        case measure => simp [intOf]; omega
      · obtain rfl : k = n := by omega
        clear hlt
        have hfull : xs.take k = xs := List.take_of_length_le (by rw [HL.out]; omega)
        rw [hfull] at hown
        obtain ⟨A', c', rfl, HJ⟩ := join_own w1.heap.size _ k xs wr HL.out h64 hown
        have HJ := Lib.hid HJ
        clear hfull hbl hown h
        go_wp2_with fail
        refine HJ.out.mono ?_
        rintro e w3 ⟨rfl, hb3⟩
        have HF := Lib.hid (HB1.out.trans ((HB.out.1.trans (hb3.mono HB.out.1.size)).mono HB1.out.size))
        clear hb3
        go_wp2_with fail
        go_ret
        exact ⟨ret_str HA.out.symm, HF.out⟩
end Go.Proofs.Ytbakmcjngadebaa
