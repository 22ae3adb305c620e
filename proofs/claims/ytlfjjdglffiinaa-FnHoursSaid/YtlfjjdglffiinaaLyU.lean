/-
  Layers: the load above a layer, a layer and a profile an hour later.
-/
import Derived.Test.YtlfjjdglffiinaaLyT
import Derived.Deep.DeepCutAuto
namespace Go.Proofs.Ytlfjjdglffiinaa
open Go.ChangeShapes Go.WideShapes Go.ChangeAt Go.RowKit Go.Deep
set_option linter.unusedVariables false

theorem Lys.drop {w : World} {b off n : Nat} {ls : List Ly} (H : Lys w (some ⟨b, off, none⟩) n ls) (j : Nat) : Lys w (some ⟨b, off + j * 7, none⟩) (n - j) (ls.drop j) := by
  obtain ⟨h1, h2, h3, h4⟩ := H
  refine ⟨by simp [h1], by omega, fun x hx => h3 x (List.mem_of_mem_drop hx), fun h0 => ⟨b, off + j * 7, rfl, fun k x hk => ?_⟩⟩
  obtain ⟨b', off', e, hc⟩ := h4 (by omega)
  injection e with e
  injection e with e1 e2 _
  subst e1 e2
  rw [List.getElem?_drop] at hk
  have := hc (j + k) x hk
  rw [show off + j * 7 + k * 7 = off + (j + k) * 7 by omega]
  exact this
theorem wet_take {ls : List Ly} {k : Nat} {x : Ly} (h : ls[k]? = some x) : sumF wetL (ls.take (k + 1)) = sumF wetL (ls.take k) + (x.ice + x.water) := sumF_take wetL h
theorem wetS_bd {ls : List Ly} (h : ∀ x ∈ ls, LyOk x) (hl : ls.length ≤ 16) (k : Nat) : 0 ≤ sumF wetL (ls.take k) ∧ sumF wetL (ls.take k) ≤ 32000000 :=
  wet_bd (fun x hx => h x (List.mem_of_mem_take hx)) (by simp; omega)
set_option maxRecDepth 100000 in
set_option maxHeartbeats 1600000 in
theorem loadAbove_t (A : Option Addr) (n c : Nat) (ls : List Ly) (k : Nat) (w : World) (H : Lys w A n ls) (hk : k < n) (hnc : n ≤ c) (hcm : c ≤ maxLen) :
    Calls Try.prog 55 #[.slice A n c, .int .i64 (k : Int)] w fun e w' => e = .returned (.int .i64 (loadF ls k)) ∧ Below w.heap.size w w' := by
  unfold maxLen at hcm
  have hn := H.2.1
  obtain ⟨b, off, rfl, _⟩ := H.2.2.2 (by omega)
  have HD := Lib.hid (H.drop (k + 1))
  have hki : (k : Int) + 1 ≤ (n : Int) := by omega
  have hkn : ((k : Int) + 1).toNat = k + 1 := by omega
  have HS := Lib.hid (show ∀ j, 0 ≤ sumF wetL ((ls.drop (k + 1)).take j) ∧ sumF wetL ((ls.drop (k + 1)).take j) ≤ 32000000 from fun j => wetS_bd HD.out.2.2.1 (by have := HD.out.1; have := HD.out.2.1; omega) j)
  have HE := Lib.hid (show loadF ls k = sumF wetL ((ls.drop (k + 1)).take (n - (k + 1))) by unfold loadF; rw [List.take_of_length_le (by rw [HD.out.1]; omega)])
  clear H
  go_enter Try.func55, Try.ntmps55
  by_cases hcap : c = k + 1
  · go_wp2_with fail
    go_loopw [5, 7, 13] (fun pv _ iv wr => ∃ j : Nat, j ≤ n - (k + 1) ∧ iv = .int .i64 j ∧ pv = .int .i64 (sumF wetL ((ls.drop (k + 1)).take j)) ∧ Below w.heap.size w wr) (fun _ _ iv _ => (n - (k + 1)) - (intOf iv).toNat)
    case atStart => exact ⟨0, Nat.zero_le _, rfl, rfl, Below.refl _ _⟩
    case round =>
      obtain ⟨j, hj, rfl, rfl, hbl⟩ := hrel
      have hs := HS.out j
      obtain ⟨p, hp⟩ : ∃ p, p = sumF wetL ((ls.drop (k + 1)).take j) := ⟨_, rfl⟩
      rw [← hp] at hs ⊢
      have HP := Lib.hid hp
      clear hp
      obtain rfl : j = n - (k + 1) := by omega
      have HB := Lib.hid hbl
      clear hbl
      go_wp2_with fail
      go_ret
      exact ⟨ret_int (by rw [HE.out, HP.out]), HB.out⟩
  · go_wp2_with fail
    go_loopw [5, 7, 13] (fun pv _ iv wr => ∃ j : Nat, j ≤ n - (k + 1) ∧ iv = .int .i64 j ∧ pv = .int .i64 (sumF wetL ((ls.drop (k + 1)).take j)) ∧ Below w.heap.size w wr) (fun _ _ iv _ => (n - (k + 1)) - (intOf iv).toNat)
    case atStart => exact ⟨0, Nat.zero_le _, rfl, rfl, Below.refl _ _⟩
    case round =>
      obtain ⟨j, hj, rfl, rfl, hbl⟩ := hrel
      have hs := HS.out j
      obtain ⟨p, hp⟩ : ∃ p, p = sumF wetL ((ls.drop (k + 1)).take j) := ⟨_, rfl⟩
      rw [← hp] at hs ⊢
      have HP := Lib.hid hp
      clear hp
      by_cases hlt : j < n - (k + 1)
      · obtain ⟨b', off', f, i, v, d, g, h, a, hA, HX, hc, hb⟩ := (HD.out.below hbl).at_ hlt
        injection hA with hA
        injection hA with hA1 hA2 _
        subst hA1 hA2
        have hji : (j : Int) < ((n - (k + 1) : Nat) : Int) := by omega
        have HC := Lib.hid hbl
        obtain ⟨-, ⟨b1, b1'⟩, ⟨b2, b2'⟩, -⟩ := hb
        have HSN := Lib.hid (wet_take HX.out)
        obtain ⟨c0, c1, c2, c3, c4, c5, c6⟩ := hc
        clear hbl
        go_wp2_with fail
        go_roundw
        case rel => exact ⟨j + 1, by omega, by go_num, by rw [HSN.out, ← HP.out], HC.out.alloc HC.out.size _⟩
        case measure => simp [intOf]; omega
      · obtain rfl : j = n - (k + 1) := by omega
        have HB := Lib.hid hbl
        clear hbl
        go_wp2_with fail
        go_ret
        exact ⟨ret_int (by rw [HE.out, HP.out]), HB.out⟩
set_option maxRecDepth 100000 in
set_option maxHeartbeats 1600000 in
theorem settled1_t (f i v d t h a l : Int) (w : World) (B : Lb f i v d t h a) (hl : 0 ≤ l) (hl2 : l ≤ 32000000) :
    Calls Try.prog 42 #[Lyv f i v d t h a, .int .i64 l] w fun e w' => e = .returned (Lyv f i v (settleD d l) t h (min (a + 1) 10000)) ∧ Below w.heap.size w w' := by
  obtain ⟨_, _, _, b3, _, _, b6⟩ := B
  have hm : d < 550 → 0 ≤ (550 - d) * l ∧ (550 - d) * l ≤ 520 * 32000000 := fun hd => ⟨Int.mul_nonneg (by omega) hl, Int.mul_le_mul (by omega) hl2 hl (by omega)⟩
  have HB := Lib.hid (((Below.refl w.heap.size w).alloc (Nat.le_refl _) (.cells #[.int .i64 f, .int .i64 i, .int .i64 v, .int .i64 (settleD d l), .int .i64 t, .int .i64 h, .int .i64 (min (a + 1) 10000)] 35)).alloc (by simp) (.cells #[.int .i64 f, .int .i64 i, .int .i64 v, .int .i64 (settleD d l), .int .i64 t, .int .i64 h, .int .i64 (min (a + 1) 10000)] 35))
  have hcs : (d < 550 ∧ 550 < d + (550 - d) * l / 10000000) ∨ (d < 550 ∧ ¬ 550 < d + (550 - d) * l / 10000000) ∨ ¬ d < 550 := by omega
  rcases hcs with ⟨hd, hp⟩ | ⟨hd, hp⟩ | hd <;> by_cases ha : 10000 < a + 1
  · have HM := hm hd
    have HD := Lib.hid (show settleD d l = 550 ∧ min (a + 1) 10000 = 10000 from ⟨by unfold settleD; rw [if_pos hd]; omega, by omega⟩)
    clear hm
    go_enter Try.func42, Try.ntmps42
    go_wp2_with fail
    rw [HD.out.1, HD.out.2] at HB ⊢
    exact bodyPost_ret (v := Lyv f i v 550 t h 10000) (by simp [results, Try.results42, go_sem]) rfl ⟨rfl, HB.out⟩
  · have HM := hm hd
    have HD := Lib.hid (show settleD d l = 550 ∧ min (a + 1) 10000 = (a + 1) from ⟨by unfold settleD; rw [if_pos hd]; omega, by omega⟩)
    clear hm
    go_enter Try.func42, Try.ntmps42
    go_wp2_with fail
    rw [HD.out.1, HD.out.2] at HB ⊢
    exact bodyPost_ret (v := Lyv f i v 550 t h (a + 1)) (by simp [results, Try.results42, go_sem]) rfl ⟨rfl, HB.out⟩
  · have HM := hm hd
    have HD := Lib.hid (show settleD d l = (d + (550 - d) * l / 10000000) ∧ min (a + 1) 10000 = 10000 from ⟨by unfold settleD; rw [if_pos hd]; omega, by omega⟩)
    clear hm
    go_enter Try.func42, Try.ntmps42
    go_wp2_with fail
    rw [HD.out.1, HD.out.2] at HB ⊢
    exact bodyPost_ret (v := Lyv f i v (d + (550 - d) * l / 10000000) t h 10000) (by simp [results, Try.results42, go_sem]) rfl ⟨rfl, HB.out⟩
  · have HM := hm hd
    have HD := Lib.hid (show settleD d l = (d + (550 - d) * l / 10000000) ∧ min (a + 1) 10000 = (a + 1) from ⟨by unfold settleD; rw [if_pos hd]; omega, by omega⟩)
    clear hm
    go_enter Try.func42, Try.ntmps42
    go_wp2_with fail
    rw [HD.out.1, HD.out.2] at HB ⊢
    exact bodyPost_ret (v := Lyv f i v (d + (550 - d) * l / 10000000) t h (a + 1)) (by simp [results, Try.results42, go_sem]) rfl ⟨rfl, HB.out⟩
  · have HD := Lib.hid (show settleD d l = d ∧ min (a + 1) 10000 = 10000 from ⟨by unfold settleD; rw [if_neg hd], by omega⟩)
    clear hm
    go_enter Try.func42, Try.ntmps42
    go_wp2_with fail
    rw [HD.out.1, HD.out.2] at HB ⊢
    exact bodyPost_ret (v := Lyv f i v d t h 10000) (by simp [results, Try.results42, go_sem]) rfl ⟨rfl, HB.out⟩
  · have HD := Lib.hid (show settleD d l = d ∧ min (a + 1) 10000 = (a + 1) from ⟨by unfold settleD; rw [if_neg hd], by omega⟩)
    clear hm
    go_enter Try.func42, Try.ntmps42
    go_wp2_with fail
    rw [HD.out.1, HD.out.2] at HB ⊢
    exact bodyPost_ret (v := Lyv f i v d t h (a + 1)) (by simp [results, Try.results42, go_sem]) rfl ⟨rfl, HB.out⟩
end Go.Proofs.Ytlfjjdglffiinaa
