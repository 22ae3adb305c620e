/-
  LargestPart, both sides.
-/
import Derived.Test.YtknppcgoooaaaaaPartP
import Derived.Lib.SliceRun
namespace Go.Proofs.Ytknppcgoooaaaaa
open Go.ChangeShapes Go.WideShapes Go.ChangeAt Go.RowKit Go.Deep
set_option linter.unusedVariables false

def bigOne (l p : List Int) : List Int := if l.length < p.length then p else l
def bigF (rs : Rws) : List Int := rs.foldl bigOne []
theorem bigF_snoc {rs : Rws} {k : Nat} (h : k < rs.length) : bigF (rs.take (k + 1)) = bigOne (bigF (rs.take k)) (rAt rs k) := by
  unfold bigF
  rw [List.take_add_one, List.getElem?_eq_getElem h, List.foldl_append]
  simp [rAt, List.getD_eq_getElem?_getD, List.getElem?_eq_getElem h]
def bigR (K R C : Int) (xs : List Int) : List Int := if K = 0 then bigF (partsF (near R C) xs) else []
def bigC (K R C : Int) (xs : List Int) : Int := if K = 0 then (if (partsF (near R C) xs).length = 0 then 3 else 0) else K
theorem bigF_mem (rs : Rws) : bigF rs = [] ∨ bigF rs ∈ rs := by
  have : ∀ (l : Rws) (a : List Int), (∀ r ∈ l, r ∈ rs) → (a = [] ∨ a ∈ rs) → (l.foldl bigOne a = [] ∨ l.foldl bigOne a ∈ rs) := by
    intro l
    induction l with
    | nil => intro a _ h; exact h
    | cons p t ih =>
      intro a hl h
      refine ih _ (fun r hr => hl r (by simp [hr])) ?_
      unfold bigOne
      split
      · exact .inr (hl p (by simp))
      · exact h
  exact this rs [] (fun r hr => hr) (.inl rfl)
theorem bigR_ok (R C S : Int) (hs xs : List Int) : (∀ y ∈ bigR (cellsC R C S hs xs) R C xs, -9223372036854775808 ≤ y ∧ y ≤ 9223372036854775807) ∧ (bigR (cellsC R C S hs xs) R C xs).length ≤ 1048576 := by
  unfold bigR
  split
  · rename_i h
    obtain ⟨_, _, h64, _, hx, hl⟩ := cells_plain h
    rcases bigF_mem (partsF (near R C) xs) with e | e
    · rw [e]; simp
    · obtain ⟨f, hf, e2⟩ := (partsF_ok (near R C) xs).2 _ e
      have := spread_bd hx h64 hf
      rw [e2]
      exact ⟨fun y hy => by have := this.2 y hy; omega, by omega⟩
  · simp
/-- Every part holds a cell. -/
theorem parts_pos {R C : Int} {xs : List Int} {k : Nat} (h : k < (partsF (near R C) xs).length) : 0 < (rAt (partsF (near R C) xs) k).length := by
  have e : rAt (partsF (near R C) xs) k = (partsF (near R C) xs)[k] := by simp [rAt, List.getD_eq_getElem?_getD, List.getElem?_eq_getElem h]
  obtain ⟨f, hf, e2⟩ := (partsF_ok (near R C) xs).2 _ (List.getElem_mem h)
  rw [e, e2]
  exact List.length_pos_of_mem ((spread_ok (nr := near R C) hf).2 f |>.2 (.base hf))
set_option maxRecDepth 100000 in
set_option maxHeartbeats 800000 in
theorem LargestPart_i (R C S : Int) (A : Option Addr) (n c : Nat) (B : Option Addr) (m d : Nat) (hs xs : List Int) (w : World) (h : GridA w R C S A n hs) (h' : Ints w B m xs) :
    Calls Try.prog 8 #[.agg #[.int .i64 R, .int .i64 C, .int .i64 S, .slice A n c], .slice B m d] w fun e w' => ResI 2 w (bigR (cellsC R C S hs xs) R C xs) (bigC (cellsC R C S hs xs) R C xs) e w' := by
  have B0 := (Below.refl w.heap.size w).alloc (Nat.le_refl _) (.cells #[.int .i64 R, .int .i64 C, .int .i64 S, .slice A n c] 26)
  have HI := Lib.hid (And.intro (h.below B0) (And.intro (h'.below B0) (And.intro B0 (boxG_of w R C S A n c 26))))
  clear h h' B0
  have hcb := cellsC_bd R C S hs xs
  obtain ⟨K, hK⟩ : ∃ K, K = cellsC R C S hs xs := ⟨_, rfl⟩
  rw [← hK] at hcb ⊢
  by_cases h0 : K = 0
  · have hc0 := cellsC_ok (hK.symm.trans h0)
    obtain ⟨_, _, _, _, hx, hl64⟩ := cells_plain (hK.symm.trans h0)
    have HC0 := Lib.hid hc0
    obtain ⟨rs, hrs⟩ : ∃ rs, rs = partsF (near R C) xs := ⟨_, rfl⟩
    have hr64 : rs.length ≤ 64 := by rw [hrs]; exact Nat.le_trans (partsF_ok _ _).1 hl64
    have HE := Lib.hid (show bigR K R C xs = bigF rs ∧ bigC K R C xs = if rs.length = 0 then 3 else 0 by rw [bigR, bigC, if_pos h0, if_pos h0, hrs]; exact ⟨rfl, rfl⟩)
    have HPOS := Lib.hid (show ∀ k, k < rs.length → 0 < (rAt rs k).length from fun k hk => by rw [hrs] at hk ⊢; exact parts_pos hk)
    have HRS := Lib.hid hrs
    have HK := Lib.hid hK
    subst h0
    clear hK hc0 hcb hx hl64 hrs
    go_enter Try.func8, Try.ntmps8
    go_wp2_with fail
    refine (cellsCode_any _ _ _ _ _ _ _ _ _ hs xs _ HI.out.1 HI.out.2.1).mono ?_
    rintro e w1 ⟨rfl, hb1⟩
    have HB := Lib.hid (And.intro hb1 (HI.out.2.2.1.trans (hb1.mono HI.out.2.2.1.size)))
    clear hb1
    rw [← HK.out]
    obtain ⟨p0, p1, p2, p3⟩ := HI.out.2.2.2.below HB.out.1
    go_wp2_with fail
    refine (parts_i R C S A n c B m d hs xs _ (HI.out.1.below HB.out.1) (HI.out.2.1.below HB.out.1) HC0.out.1 HC0.out.2).mono ?_
    rintro e w2 ⟨o, rfl, hr2, hb2⟩
    rw [← HRS.out] at hr2
    obtain ⟨cs, f, dd, q1, q2, q3⟩ := hr2.base HB.out.2.size
    obtain ⟨A', c', rfl, _⟩ := own_form q1
    have HF := Lib.hid (HB.out.2.trans (hb2.mono HB.out.2.size))
    have HRO := Lib.hid (And.intro q1 q3)
    clear hr2 hb2 q1 q2 q3 p0 p1 p2 p3
    go_wp2_with fail
    go_loopw [7, 9, 20] (fun lv _ kv wr => ∃ k : Nat, k ≤ rs.length ∧ kv = .int .i64 k ∧ wr = w2 ∧ ((k = 0 ∧ lv = .slice none 0 0) ∨ ∃ i, i < rs.length ∧ lv = .slice (some ⟨f i, 0, none⟩) (rAt rs i).length (dd i) ∧ Hid (rAt rs i = bigF (rs.take k)) ∧ 0 < k)) (fun _ _ kv _ => rs.length - (intOf kv).toNat)
    case atStart => exact ⟨0, Nat.zero_le _, rfl, rfl, .inl ⟨rfl, rfl⟩⟩
    case round =>
      obtain ⟨k, hk, rfl, rfl, hlv⟩ := hrel
      by_cases hlt : k < rs.length
      · obtain ⟨g, hg⟩ : ∃ g, A' = some ⟨g, 0, none⟩ := by
          rcases HRO.out.1.2 with ⟨hv, h00⟩ | ⟨g, cap, cur, hv, _⟩
          · omega
          · simp only [Value.slice.injEq] at hv
            exact ⟨g, hv.1⟩
        subst hg
        obtain ⟨fr, k1, k2, k3, k4, hrow, hcells⟩ := own_to_rowIs HRO.out.1
        rw [Nat.mul_one] at hrow
        have hck := hrow.cell (i := k) (by omega)
        have hc2 := hcells k (by omega)
        rw [(HRO.out.2 k hlt).1] at hc2
        injection hc2 with hc2
        rw [← hc2] at hck
        have hkk : (k : Int) < (rs.length : Int) := by omega
        have hpos := HPOS.out k hlt
        have HSN := Lib.hid (bigF_snoc hlt)
        clear hrow hcells hc2
        rcases hlv with ⟨rfl, rfl⟩ | ⟨i, hi, rfl, HB7, hk0⟩
        · have hp2 : (0 : Int) < ((rAt rs 0).length : Int) := by omega
          go_wp2_with fail
          go_roundw
          case rel => exact ⟨0 + 1, by omega, by go_num, (by first | rfl | trivial), .inr ⟨0, hlt, rfl, by
            show rAt rs 0 = bigF (rs.take (0 + 1))
            rw [HSN.out]
            unfold bigOne
            rw [if_pos (by simpa [bigF] using hpos)], by omega⟩⟩
          case measure => simp [intOf]; omega
        · by_cases hcmp : (rAt rs i).length < (rAt rs k).length
          · have hci : ((rAt rs i).length : Int) < ((rAt rs k).length : Int) := by omega
            go_wp2_with fail
            go_roundw
            case rel => exact ⟨k + 1, by omega, by go_num, (by first | rfl | trivial), .inr ⟨k, hlt, rfl, by
              show rAt rs k = bigF (rs.take (k + 1))
              rw [HSN.out, ← HB7.out]
              unfold bigOne
              rw [if_pos hcmp], by omega⟩⟩
            case measure => simp [intOf]; omega
          · have hci : ¬ ((rAt rs i).length : Int) < ((rAt rs k).length : Int) := by omega
            go_wp2_with fail
            go_roundw
            case rel => exact ⟨k + 1, by omega, by go_num, (by first | rfl | trivial), .inr ⟨i, hi, rfl, by
              show rAt rs i = bigF (rs.take (k + 1))
              rw [HSN.out, ← HB7.out]
              unfold bigOne
              rw [if_neg hcmp], by omega⟩⟩
            case measure => simp [intOf]; omega
      · obtain rfl : k = rs.length := by omega
        clear hlt
        rcases hlv with ⟨hz, rfl⟩ | ⟨i, hi, rfl, HB7, hk0⟩
        · have e0 : rs = [] := List.length_eq_zero_iff.1 hz
          have hnil := fun W => Lib.run_eql_slice_nil (P := Try.prog) W 24 2 none 0 0 0 0 Try.underlying24
          go_wp2_with fail
          go_ret2
          rw [HE.out.1, HE.out.2, if_pos hz, e0]
          exact ⟨none, 0, rfl, Fresh.empty _ _ _ _ _ _, HF.out⟩
        · have hl0 : ¬ rs.length = 0 := by omega
          have HL2 := Lib.hid (show bigF rs = rAt rs i by rw [HB7.out, List.take_of_length_le (Nat.le_refl _)])
          have hnil := fun W => Lib.run_eql_slice_nil (P := Try.prog) W 24 2 (some ⟨f i, 0, none⟩) (rAt rs i).length (dd i) 0 0 Try.underlying24
          go_wp2_with fail
          go_ret2
          rw [HE.out.1, HE.out.2, if_neg hl0, HL2.out]
          exact ⟨_, _, rfl, Fresh.of_own (HRO.out.2 i hi).2.2, HF.out⟩
  · have HE := Lib.hid (show bigR K R C xs = [] ∧ bigC K R C xs = K by rw [bigR, bigC, if_neg h0, if_neg h0]; exact ⟨rfl, rfl⟩)
    have hd : (K != 0) = true := by simp [h0]
    have hd2 : (K == 0) = false := by simp [h0]
    have HK := Lib.hid hK
    clear hK
    go_enter Try.func8, Try.ntmps8
    go_wp2_with fail
    refine (cellsCode_any _ _ _ _ _ _ _ _ _ hs xs _ HI.out.1 HI.out.2.1).mono ?_
    rintro e w1 ⟨rfl, hb1⟩
    have HB := Lib.hid hb1
    clear hb1
    rw [← HK.out]
    go_wp2_with fail
    go_ret2
    rw [HE.out.1, HE.out.2]
    exact ResI.nil (HI.out.2.2.1.trans (HB.out.mono HI.out.2.2.1.size))
end Go.Proofs.Ytknppcgoooaaaaa
