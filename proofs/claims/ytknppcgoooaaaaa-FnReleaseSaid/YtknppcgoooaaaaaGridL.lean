/-
  A number put to its place among rising ones, and the cells around a cell, the reference's.
-/
import Derived.Test.YtknppcgoooaaaaaGridU
import Derived.Test.YtknppcgoooaaaaaGridS
namespace Go.Proofs.Ytknppcgoooaaaaa
open Go.ChangeShapes Go.WideShapes Go.ChangeAt Go.RowKit Go.Deep
set_option linter.unusedVariables false

def putL : List Int → Int → List Int
  | [], n => [n]
  | x :: t, n => if n ≤ x then (if n < x then n :: x :: t else x :: t) else x :: putL t n
def putD (l : List Int) (n : Int) : Bool := l.any fun x => decide (n ≤ x)
/-- What stands out after some numbers: those alone, or with the new one among them. -/
def putO (l : List Int) (n : Int) : List Int := if putD l n = true then putL l n else l
theorem putD_snoc (l : List Int) (n x : Int) : putD (l ++ [x]) n = (putD l n || decide (n ≤ x)) := by simp [putD]
theorem putL_yes {l : List Int} {n x : Int} (h : putD l n = true) : putL (l ++ [x]) n = putL l n ++ [x] := by
  induction l with
  | nil => simp [putD] at h
  | cons y t ih =>
    rw [List.cons_append]
    unfold putL
    by_cases hy : n ≤ y
    · rw [if_pos hy, if_pos hy]
      split <;> simp
    · rw [if_neg hy, if_neg hy, ih (by simp [putD] at h ⊢; rcases h with h | h; exact absurd h hy; exact h)]
      simp
theorem putL_no {l : List Int} {n : Int} (h : putD l n = false) (t : List Int) : putL (l ++ t) n = l ++ putL t n := by
  induction l with
  | nil => rfl
  | cons y u ih =>
    have hy : ¬ n ≤ y := by
      intro hc
      simp [putD] at h
      omega
    rw [List.cons_append, List.cons_append]
    conv => lhs; unfold putL
    rw [if_neg hy, ih (by simp [putD] at h ⊢; exact h.2)]
theorem putL_len (l : List Int) (n : Int) : 1 ≤ (putL l n).length ∧ (putL l n).length ≤ l.length + 1 := by
  induction l with
  | nil => simp [putL]
  | cons y t ih =>
    unfold putL
    split
    · split <;> simp
    · simp only [List.length_cons]; omega
theorem mem_putL {l : List Int} {n z : Int} : z ∈ putL l n ↔ z = n ∨ z ∈ l := by
  induction l with
  | nil => simp [putL]
  | cons y t ih =>
    unfold putL
    by_cases hy : n ≤ y
    · rw [if_pos hy]
      by_cases hn : n < y
      · rw [if_pos hn]; simp
      · rw [if_neg hn]
        have : n = y := by omega
        subst this
        simp
    · rw [if_neg hy, List.mem_cons, ih, List.mem_cons]
      constructor
      · rintro (h | h | h)
        · exact .inr (.inl h)
        · exact .inl h
        · exact .inr (.inr h)
      · rintro (h | h | h)
        · exact .inr (.inl h)
        · exact .inl h
        · exact .inr (.inr h)
theorem putO_len (l : List Int) (n : Int) : (putO l n).length ≤ l.length + 1 := by
  unfold putO
  split
  · exact (putL_len l n).2
  · omega
set_option maxRecDepth 100000 in
set_option maxHeartbeats 1600000 in
theorem l00Put_any (A : Option Addr) (n c : Nat) (v : Int) (xs : List Int) (w : World) (h : Ints w A n xs) (hn : n ≤ 1000) :
    Calls Try.prog 41 #[.slice A n c, .int .i64 v] w fun e w' => SlI 2 w (putL xs v) e w' := by
  have HL := Lib.hid h.1
  have HW := Lib.hid h
  have hown0 := World.ownsRow_lit (base := w.heap.size) (e := 2) (size := 1) w #[] 0 (Nat.le_refl _) (by simp) rfl
  have hb0 := (Below.refl w.heap.size w).alloc (Nat.le_refl _) (.cells #[] 2)
  clear h
  go_enter Try.func41, Try.ntmps41
  go_wp2_with fail
  go_loopw [5, 6, 7] (fun o dn i wr => ∃ k : Nat, k ≤ n ∧ i = .int .i64 k ∧ dn = .bool (putD (xs.take k) v) ∧ Below w.heap.size w wr ∧ wr.ownsRow w.heap.size 2 1 o (putO (xs.take k) v).length ((putO (xs.take k) v).map (.int .i64))) (fun _ _ i _ => n - (intOf i).toNat)
  case atStart => exact ⟨0, Nat.zero_le _, rfl, by simp [putD], hb0, by simpa [putO, putD] using hown0⟩
  case round =>
    clear hb0 hown0
    obtain ⟨k, hk, rfl, rfl, hbl, hown⟩ := hrel
    have hlen := putO_len (xs.take k) v
    have hlt0 : (xs.take k).length ≤ 1000 := by rw [List.length_take]; omega
    obtain ⟨A', c', rfl, _⟩ := own_form hown
    have HO := Lib.hid (And.intro hbl hown)
    obtain ⟨O, hO⟩ : ∃ O, O = putO (xs.take k) v := ⟨_, rfl⟩
    rw [← hO] at hlen
    by_cases hlt : k < n
    · obtain ⟨b, off, x, rfl, HX, hc, hx1, hx2⟩ := (HW.out.below hbl).at_ hlt
      have HS : xs.take (k + 1) = xs.take k ++ [x] := by
        rw [List.take_add_one, HX.out]; rfl
      have HSh := Lib.hid HS
      have hki : (k : Int) < (n : Int) := by omega
      rw [← hO] at HO ⊢
      have HOO := Lib.hid hO
      clear hown hbl HS hO
      cases hD : putD (xs.take k) v
      · by_cases hvx : v ≤ x
        · by_cases hvx2 : v < x
          · have HN := Lib.hid (show putD (xs.take (k + 1)) v = true ∧ putO (xs.take (k + 1)) v = (O ++ [v]) ++ [x] by
              have hd : putD (xs.take (k + 1)) v = true := by rw [HSh.out, putD_snoc]; simp [hvx]
              refine ⟨hd, ?_⟩
              unfold putO
              rw [if_pos hd, HSh.out, putL_no hD, HOO.out]
              unfold putO
              rw [if_neg (by simp [hD])]
              simp [putL, hvx, hvx2])
            clear hD
            have hbw : b < w.heap.size := by
              obtain ⟨b2, off2, eA, cA⟩ := HW.out.2.2.2 (by omega)
              injection eA with eA
              injection eA with eb _ _
              rw [eb]
              exact cell_lt (cA 0 (by omega))
            go_wp2_with (first | (at_builtin; refine wp_app_int rfl (.tmp 31) (.tmp 33) 24 rfl w.heap.size 2 Try.underlying24 info_int _ _ (O) (v) (by rfl) HO.out.2 (by rfl) (by omega) HO.out.1.size ?_; intro v' w3 hown3 hgrow3 hv3; obtain ⟨g, cc, rfl⟩ := hv3; have hc2 := hgrow3.cell (a := ⟨b, off + k, none⟩) hc (fun e => by have := own_blk HO.out.2 b e.symm; omega); have HF := Lib.hid (And.intro (HO.out.1.grown hgrow3 HO.out.1.size (own_blk HO.out.2)) hown3); clear hown3 hgrow3 hc) | (at_builtin; refine wp_app_int rfl (.tmp 35) (.tmp 40) 24 rfl w.heap.size 2 Try.underlying24 info_int _ (O.length + 1) (O ++ [v]) (x) (by rfl) HF.out.2 (by rfl) (by omega) HF.out.1.size ?_; intro v' w4 hown3 hgrow3 hv3))
            obtain ⟨g4, cc4, rfl⟩ := hv3
            have HF4 := Lib.hid (And.intro (HF.out.1.grown hgrow3 HF.out.1.size (own_blk HF.out.2)) hown3)
            clear hown3 hgrow3
            go_wp2_with fail
            go_roundw
            case rel => exact ⟨k + 1, by omega, by go_num, by rw [HN.out.1], HF4.out.1, by rw [HN.out.2]; simpa using HF4.out.2⟩
            case measure => simp [intOf]; omega
          · have HN := Lib.hid (show putD (xs.take (k + 1)) v = true ∧ putO (xs.take (k + 1)) v = O ++ [x] by
              have hd : putD (xs.take (k + 1)) v = true := by rw [HSh.out, putD_snoc]; simp [hvx]
              refine ⟨hd, ?_⟩
              unfold putO
              rw [if_pos hd, HSh.out, putL_no hD, HOO.out]
              unfold putO
              rw [if_neg (by simp [hD])]
              simp [putL, hvx, hvx2])
            clear hD
            go_wp2_with (at_builtin; refine wp_app_int rfl (.tmp 35) (.tmp 40) 24 rfl w.heap.size 2 Try.underlying24 info_int _ _ (O) (x) (by rfl) HO.out.2 (by rfl) (by omega) HO.out.1.size ?_; intro v' w3 hown3 hgrow3 hv3)
            obtain ⟨g, cc, rfl⟩ := hv3
            have HF := Lib.hid (And.intro (HO.out.1.grown hgrow3 HO.out.1.size (own_blk HO.out.2)) hown3)
            clear hown3 hgrow3
            go_wp2_with fail
            go_roundw
            case rel => exact ⟨k + 1, by omega, by go_num, by rw [HN.out.1], HF.out.1, by rw [HN.out.2]; simpa using HF.out.2⟩
            case measure => simp [intOf]; omega
        · have HN := Lib.hid (show putD (xs.take (k + 1)) v = false ∧ putO (xs.take (k + 1)) v = O ++ [x] by
            have hd : putD (xs.take (k + 1)) v = false := by rw [HSh.out, putD_snoc, hD]; simp; omega
            refine ⟨hd, ?_⟩
            unfold putO
            rw [if_neg (by simp [hd]), HSh.out, HOO.out]
            unfold putO
            rw [if_neg (by simp [hD])])
          clear hD
          go_wp2_with (at_builtin; refine wp_app_int rfl (.tmp 35) (.tmp 40) 24 rfl w.heap.size 2 Try.underlying24 info_int _ _ (O) (x) (by rfl) HO.out.2 (by rfl) (by omega) HO.out.1.size ?_; intro v' w3 hown3 hgrow3 hv3)
          obtain ⟨g, cc, rfl⟩ := hv3
          have HF := Lib.hid (And.intro (HO.out.1.grown hgrow3 HO.out.1.size (own_blk HO.out.2)) hown3)
          clear hown3 hgrow3
          go_wp2_with fail
          go_roundw
          case rel => exact ⟨k + 1, by omega, by go_num, by rw [HN.out.1], HF.out.1, by rw [HN.out.2]; simpa using HF.out.2⟩
          case measure => simp [intOf]; omega
      · have HN := Lib.hid (show putD (xs.take (k + 1)) v = true ∧ putO (xs.take (k + 1)) v = O ++ [x] by
          have hd : putD (xs.take (k + 1)) v = true := by rw [HSh.out, putD_snoc, hD]; rfl
          refine ⟨hd, ?_⟩
          unfold putO
          rw [if_pos hd, HSh.out, putL_yes hD, HOO.out]
          unfold putO
          rw [if_pos hD])
        clear hD
        go_wp2_with (at_builtin; refine wp_app_int rfl (.tmp 35) (.tmp 40) 24 rfl w.heap.size 2 Try.underlying24 info_int _ _ (O) (x) (by rfl) HO.out.2 (by rfl) (by omega) HO.out.1.size ?_; intro v' w3 hown3 hgrow3 hv3)
        obtain ⟨g, cc, rfl⟩ := hv3
        have HF := Lib.hid (And.intro (HO.out.1.grown hgrow3 HO.out.1.size (own_blk HO.out.2)) hown3)
        clear hown3 hgrow3
        go_wp2_with fail
        go_roundw
        case rel => exact ⟨k + 1, by omega, by go_num, by rw [HN.out.1], HF.out.1, by rw [HN.out.2]; simpa using HF.out.2⟩
        case measure => simp [intOf]; omega
    · obtain rfl : k = n := by omega
      have ht : xs.take k = xs := List.take_of_length_le (by rw [HL.out]; omega)
      have HT := Lib.hid ht
      have hlx : xs.length ≤ 1000 := by rw [HL.out]; exact hn
      clear hlt hown hbl
      rw [ht] at hO HO ⊢
      cases hD : putD xs v
      · have HN := Lib.hid (show putL xs v = O ++ [v] by
          have := putL_no hD []
          rw [List.append_nil] at this
          rw [this, hO]
          unfold putO
          rw [if_neg (by simp [hD])]
          rfl)
        rw [← hO] at HO ⊢
        have HOO := Lib.hid hO
        clear hD ht hO
        go_wp2_with (at_builtin; refine wp_app_int rfl (.tmp 44) (.tmp 46) 24 rfl w.heap.size 2 Try.underlying24 info_int _ _ (O) (v) (by rfl) HO.out.2 (by rfl) (by omega) HO.out.1.size ?_; intro v' w3 hown3 hgrow3 hv3)
        obtain ⟨g, cc, rfl⟩ := hv3
        have HF := Lib.hid (And.intro (HO.out.1.grown hgrow3 HO.out.1.size (own_blk HO.out.2)) hown3)
        clear hown3 hgrow3
        go_wp2_with fail
        go_ret
        exact ⟨some ⟨g, 0, none⟩, cc, by rw [HN.out, List.length_append]; rfl, by rw [HN.out, List.length_append]; exact Fresh.of_own HF.out.2, HF.out.1⟩
      · have HN := Lib.hid (show putL xs v = O by rw [hO]; unfold putO; rw [if_pos hD])
        rw [← hO] at HO ⊢
        have HOO := Lib.hid hO
        clear hD ht hO
        go_wp2_with fail
        go_ret
        exact ⟨A', c', by rw [HN.out]; rfl, by rw [HN.out]; exact Fresh.of_own HO.out.2, HO.out.1⟩
end Go.Proofs.Ytknppcgoooaaaaa
