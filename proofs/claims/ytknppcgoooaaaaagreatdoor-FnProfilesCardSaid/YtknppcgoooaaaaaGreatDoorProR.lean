/-
  A profile read back from its text.
-/
import Derived.Test.YtknppcgoooaaaaaGreatDoorProT
import Derived.Test.YtknppcgoooaaaaaGreatDoorProD
import Derived.Test.YtknppcgoooaaaaaGreatDoorRlI
import Derived.Test.YtknppcgoooaaaaaGreatDoorSplN
import Derived.Test.YtknppcgoooaaaaaGreatDoorQuietT
import Derived.Test.YtknppcgoooaaaaaGreatDoorQuietB
import Derived.Deep.DeepCutAuto
namespace Go.Proofs.YtknppcgoooaaaaaGreatDoor
open Go.ChangeShapes Go.WideShapes Go.ChangeAt Go.RowKit Go.Deep
set_option linter.unusedVariables false

theorem lst_free {xs : List Int} {c : UInt8} (h1 : c ≠ 45) (h2 : c.toNat < 48 ∨ 57 < c.toNat) (h3 : c ≠ 44) : c ∉ lstT xs := by
  intro h
  unfold lstT at h
  split at h
  · simp at h; exact h1 h
  · have hj : ∀ l : List (List UInt8), (∀ x ∈ l, c ∉ x) → c ∉ Lib.join l [44] := by
      intro l
      induction l with
      | nil => intro _ h; simp [Lib.join] at h
      | cons a r ih =>
        intro ha h
        cases r with
        | nil => simp [Lib.join] at h; exact ha a (by simp) h
        | cons b t =>
          rw [join_cons2] at h
          simp only [List.mem_append, List.mem_cons, List.not_mem_nil, or_false] at h
          rcases h with h | h | h
          · exact ha a (by simp) h
          · exact h3 h
          · exact ih (fun x hx => ha x (by simp [hx])) h
    refine hj _ (fun x hx => ?_) h
    simp only [List.mem_map] at hx
    obtain ⟨z, _, rfl⟩ := hx
    exact itoa_free h1 h2
theorem free59 (ls : List Ly) : ∀ x ∈ ls.map fun x => lstT (numsL x), (59 : UInt8) ∉ x := by
  intro x hx
  simp only [List.mem_map] at hx
  obtain ⟨z, _, rfl⟩ := hx
  exact lst_free (by decide) (by decide) (by decide)
theorem nums_read {x : Ly} (h : LyOk x) : rl (lstT (numsL x)) = some (numsL x) := rl_text (nums_fit h)
theorem pieces_pro {ls : List Ly} (hne : ls ≠ []) (h16 : ls.length ≤ 16) : Lib.splitK [59] 0 (min 17 ((proT ls).length + 1) - 1) (proT ls) = ls.map fun x => lstT (numsL x) := by
  have hm : (ls.map fun x => lstT (numsL x)) ≠ [] := by simpa using hne
  have h1 := spl_le 59 (proT ls)
  rw [proT, if_neg hne] at h1 ⊢
  rw [join_spl hm (free59 ls)] at h1
  refine splitK_join hm (free59 ls) _ ?_
  rw [List.length_map] at h1 ⊢
  omega
theorem pro_ne45 {ls : List Ly} (hne : ls ≠ []) (hok : ∀ x ∈ ls, LyOk x) : proT ls ≠ [45] := by
  intro e
  rw [proT, if_neg hne] at e
  have hm : (ls.map fun x => lstT (numsL x)) ≠ [] := by simpa using hne
  have h1 := join_spl hm (free59 ls)
  rw [e] at h1
  have h2 : spl 59 [45] = [[45]] := spl_free (by decide)
  rw [h2] at h1
  cases ls with
  | nil => exact hne rfl
  | cons x r =>
    simp only [List.map_cons, List.cons.injEq] at h1
    have h3 := nums_read (hok x (by simp))
    rw [← h1.1] at h3
    simp [rl, numsL] at h3
theorem pro_size {ls : List Ly} (h16 : ls.length ≤ 16) (hok : ∀ x ∈ ls, LyOk x) : (proT ls).length ≤ 1048576 := by
  unfold proT
  split
  · simp
  · have h1 := join_le (sep := [59]) (B := 1000) (xs := ls.map fun x => lstT (numsL x)) (fun y hy => by
      simp only [List.mem_map] at hy
      obtain ⟨x, hx, rfl⟩ := hy
      exact nums_len (hok x hx))
    rw [List.length_map] at h1
    have h2 : ls.length * (1000 + [(59 : UInt8)].length) ≤ 16 * 1001 := Nat.mul_le_mul h16 (by simp)
    omega
set_option maxRecDepth 100000 in
set_option maxHeartbeats 1600000 in
theorem readNumbers_i (s : ByteArray) (x : Ly) (w : World) (hE : Env w) (hs : s.size ≤ 1048576) (hx : LyOk x) (hd : s.data.toList = lstT (numsL x)) :
    Calls Tryz.prog 56 #[.string s, .int .i64 7] w fun e w' => ∃ A c, e = .returned (.tuple #[.slice A 7 c, .bool true]) ∧ Ints w' A 7 (numsL x) ∧ Below w.heap.size w w' := by
  have hr := nums_read hx
  rw [← hd] at hr
  have HR := Lib.hid hr
  have HX := Lib.hid hx
  clear hr hd hx
  go_enter Tryz.func56, Tryz.ntmps56
  go_wp2_with fail
  refine (ReadList_i s _ hE hs).mono ?_
  rintro e w1 ⟨A1, c1, xs, rfl, hxs, ho, hb⟩
  have hxs' := hxs.out
  rw [HR.out] at hxs' ⊢
  obtain rfl : xs = numsL x := hxs'
  have h7 : (numsL x).length = 7 := by simp [numsL]
  rw [h7] at ho ⊢
  have HF := Lib.hid (And.intro (show Ints w1 A1 7 (numsL x) from Ints.of_own ho.out (fun y hy => by have := (fits_iff.1 (nums_fit HX.out)).2 y hy; omega)) hb)
  clear ho hb h7
  go_wp2_with fail
  go_ret2
  exact ⟨A1, c1, rfl, HF.out.1, HF.out.2⟩
theorem seven_at {w : World} {A : Option Addr} {f i v d t h a : Int} (H : Ints w A 7 [f, i, v, d, t, h, a]) :
    ∃ b off, A = some ⟨b, off, none⟩ ∧ w.cell? ⟨b, off, none⟩ = some (.int .i64 f) ∧ w.cell? ⟨b, off + 1, none⟩ = some (.int .i64 i) ∧ w.cell? ⟨b, off + 2, none⟩ = some (.int .i64 v) ∧ w.cell? ⟨b, off + 3, none⟩ = some (.int .i64 d) ∧
      w.cell? ⟨b, off + 4, none⟩ = some (.int .i64 t) ∧ w.cell? ⟨b, off + 5, none⟩ = some (.int .i64 h) ∧ w.cell? ⟨b, off + 6, none⟩ = some (.int .i64 a) := by
  obtain ⟨b, off, x0, rfl, HX0, h0, _, _⟩ := H.at_ (k := 0) (by omega)
  have key : ∀ (k : Nat) (y : Int), k < 7 → [f, i, v, d, t, h, a][k]? = some y → w.cell? ⟨b, off + k, none⟩ = some (.int .i64 y) := by
    intro k y hk hy
    obtain ⟨b', off', x', hA, HX, hc, _, _⟩ := H.at_ hk
    injection hA with hA
    injection hA with e1 e2
    subst e1 e2
    have := HX.out
    rw [hy] at this
    injection this with this
    subst this
    exact hc
  exact ⟨b, off, rfl, by have := key 0 f (by omega) rfl; simpa using this, key 1 i (by omega) rfl, key 2 v (by omega) rfl, key 3 d (by omega) rfl, key 4 t (by omega) rfl, key 5 h (by omega) rfl, key 6 a (by omega) rfl⟩
set_option maxRecDepth 100000 in
set_option maxHeartbeats 6400000 in
theorem ReadProfile_i (ls : List Ly) (w : World) (hE : Env w) (h16 : ls.length ≤ 16) (hok : ∀ x ∈ ls, LyOk x) :
    Calls Tryz.prog 22 #[.string ⟨(proT ls).toArray⟩] w fun e w' => ∃ A n c, e = .returned (.tuple #[.slice A n c, .bool true]) ∧ Lys w' A n ls ∧ Below w.heap.size w w' := by
  have HE := Lib.hid hE
  clear hE
  by_cases hne : ls = []
  · subst hne
    have he2 : (⟨(proT []).toArray⟩ : ByteArray) = { data := #[45] } := by kernel_rfl
    rw [he2]
    clear he2
    go_enter Tryz.func22, Tryz.ntmps22
    go_wp2_with fail
    go_ret2
    exact ⟨none, 0, 0, rfl, Lys.nil _ _, Below.refl _ _⟩
  have HNE := Lib.hid hne
  have HOK := Lib.hid hok
  have HPC := Lib.hid (pieces_pro hne h16)
  obtain ⟨S, hS⟩ : ∃ S : ByteArray, S = ⟨(proT ls).toArray⟩ := ⟨_, rfl⟩
  have hSd : S.data.toList = proT ls := by rw [hS]
  have hSz : S.size ≤ 1048576 := by rw [hS]; show (proT ls).toArray.size ≤ _; rw [List.size_toArray]; exact pro_size h16 hok
  have he2 : ¬ S = { data := #[45] } := fun e => by rw [e] at hSd; exact pro_ne45 hne hok hSd.symm
  have he : (S.toList == [45]) = false := by
    have h1 := (Lib.bytes_beq_false_iff S _).2 he2
    rwa [show ({ data := #[45] } : ByteArray).toList = [45] by kernel_rfl] at h1
  clear he2
  rw [← hS]
  have HS := Lib.hid (And.intro hS hSd)
  obtain ⟨n, hn⟩ : ∃ n, n = ls.length := ⟨_, rfl⟩
  rw [← hn] at h16
  have hn0 : 0 < n := by
    rcases Nat.eq_zero_or_pos n with h | h
    · exact absurd (List.length_eq_zero_iff.1 (by omega)) hne
    · exact h
  have HN := Lib.hid hn
  clear hne hok hS hSd hn
  go_enter Tryz.func22, Tryz.ntmps22
  go_wp2_with fail
  refine (split_n S 59 17 17 _ HE.out hSz rfl (by omega) (by omega)).mono ?_
  rintro e w1 ⟨A1, c1, PB, rfl, HPB, HPL, hstr, hb1⟩
  have HPB2 := Lib.hid (show PB.map (·.data.toList) = ls.map fun x => lstT (numsL x) by rw [HPB.out, HS.out.2]; exact HPC.out)
  have hpl : PB.length = n := by have := congrArg List.length HPB2.out; simpa [HN.out] using this
  rw [hpl] at hstr ⊢
  have H1 := Lib.hid (And.intro hstr hb1)
  clear hstr hb1 hpl HPB HPC HPL
  go_wp2_with fail
  go_loopw [4, 6, 7, 8, 14] (fun lv _ _ _ iv wr => ∃ k : Nat, k ≤ n ∧ iv = .int .i64 k ∧ (∃ A c, lv = .slice A k c) ∧ Hid (wr.ownsRow w.heap.size 44 7 lv k (lyCells (ls.take k))) ∧ Hid (Below w.heap.size w wr) ∧ Hid (Strs wr A1 n PB)) (fun _ _ _ _ iv _ => n - (intOf iv).toNat)
  case atStart => exact ⟨0, Nat.zero_le _, rfl, ⟨none, 0, rfl⟩, World.ownsRow_nil _ _ _ _, H1.out.2, H1.out.1⟩
  case round =>
    clear H1
    obtain ⟨k, hk, rfl, ⟨A, c, rfl⟩, HO, HB, HST⟩ := hrel
    by_cases hlt : k < n
    · obtain ⟨b, off, s, rfl, HX, hx⟩ := HST.out.at_ hlt
      have hki : (k : Int) < (n : Int) := by omega
      obtain ⟨x, hxl⟩ : ∃ x, ls[k]? = some x := ⟨_, List.getElem?_eq_getElem (by rw [← HN.out]; exact hlt)⟩
      have HXO := Lib.hid (HOK.out x (List.mem_of_getElem? hxl))
      have hsd : s.data.toList = lstT (numsL x) := by
        have h1 := map_get HPB2.out HX.out
        rw [List.getElem?_map, hxl] at h1
        injection h1 with h1
        exact h1.symm
      have HSD := Lib.hid hsd
      have hss : s.size ≤ 1048576 := by
        have h1 := nums_len HXO.out
        rw [← hsd, ← Lib.size_eq] at h1
        omega
      have HXL := Lib.hid hxl
      clear hsd hxl
      go_wp2_with fail
      refine (readNumbers_i s x _ (HE.out.below HB.out) hss HXO.out HSD.out).mono ?_
      rintro e w2 ⟨A2, c2, rfl, hi2, hb2⟩
      obtain ⟨f, i, v, d, t, h, a⟩ := x
      obtain ⟨bn, on, rfl, q0, q1, q2, q3, q4, q5, q6⟩ := seven_at (show Ints w2 A2 7 [f, i, v, d, t, h, a] from hi2)
      have hz2 : w.heap.size ≤ w2.heap.size := Nat.le_trans HB.out.size hb2.size
      have H2 := Lib.hid (And.intro (own_below HO.out hb2) (And.intro (HB.out.trans (hb2.mono HB.out.size)) (HST.out.below hb2)))
      have hbn := cell_lt q0
      clear hi2 hb2 hx HO HB HST
      go_upto_region 10 with (fail)
      have r0 := BW.cell q0
      have r1 := BW.cell q1
      have r2 := BW.cell q2
      have r3 := BW.cell q3
      have r4 := BW.cell q4
      have r5 := BW.cell q5
      have r6 := BW.cell q6
      clear q0 q1 q2 q3 q4 q5 q6 hbn
      refine region_moveB (.slice A k c) w2 23 (Below.refl _ _) (by kernel_rfl) (by kernel_rfl) (fun _ _ _ h => h) (Or.inl ⟨by rfl, fun _ => rfl⟩) ?_
      simp only [Act.put, List.take_succ_cons, List.take_zero, List.drop_succ_cons, List.drop_zero, List.setIfInBounds_toArray, List.set_cons_succ, List.set_cons_zero]
      repeat (go_big_quiet_step (fail))
      refine wpQuiet_nil ?_
      rintro w3 ⟨z, rfl⟩
      have H3 := Lib.hid (And.intro (own_below H2.out.1 z.h) (And.intro (H2.out.2.1.trans (z.h.mono H2.out.2.1.size)) (H2.out.2.2.below z.h)))
      have hz3 : w.heap.size ≤ z.W.heap.size := Nat.le_trans hz2 z.h.size
      clear r0 r1 r2 r3 r4 r5 r6 H2
      generalize z.W = wz at H3 hz3 ⊢
      go_wp2_with (at_builtin; refine wp_app rfl (.tmp 25) (.tmp 48) 41 rfl w.heap.size 44 (.agg #[.int .i64 0, .int .i64 0, .int .i64 0, .int .i64 0, .int .i64 0, .int .i64 0, .int .i64 0]) 7 56 Tryz.underlying41 info_ly rfl (by omega) _ k (lyCells (ls.take k)) rfl H3.out.1 [.int .i64 f, .int .i64 i, .int .i64 v, .int .i64 d, .int .i64 t, .int .i64 h, .int .i64 a] rfl (by rfl) (by intro u hu; simp at hu; rcases hu with rfl | rfl | rfl | rfl | rfl | rfl | rfl <;> rfl) (by unfold maxLen; omega) (by omega) (by omega) ?_; intro v' w5 hown5 hgrow5 hv5)
      have e1 : lyCells (ls.take k) ++ [.int .i64 f, .int .i64 i, .int .i64 v, .int .i64 d, .int .i64 t, .int .i64 h, .int .i64 a] = lyCells (ls.take (k + 1)) := by
        rw [List.take_add_one, HXL.out, Option.toList_some, lyCells_snoc]
      have HO5 := Lib.hid (show w5.ownsRow w.heap.size 44 7 v' (k + 1) (lyCells (ls.take (k + 1))) by rw [← e1]; exact hown5)
      have HB5 := Lib.hid (below_app H3.out.2.1 H3.out.1 hgrow5 hz3 (Nat.le_refl _))
      have HS5 := Lib.hid (H3.out.2.2.keep H3.out.1 hgrow5 (by decide))
      obtain ⟨A5, c5, rfl, _⟩ := own_form hown5
      clear hown5 hgrow5 e1 H3
      go_wp2_with fail
      go_roundw
      case rel => exact ⟨k + 1, by omega, by go_num, ⟨_, _, rfl⟩, HO5.out, HB5.out, HS5.out⟩
      case measure => simp [intOf]; omega
    · obtain rfl : k = n := by omega
      have HOO := Lib.hid (show wr.ownsRow w.heap.size 44 7 (.slice A k c) k (lyCells ls) by have := HO.out; rwa [List.take_of_length_le (by rw [← HN.out]; exact Nat.le_refl _)] at this)
      have HLY := Lib.hid ((LBag.of_own HOO.out HN.out.symm h16 HOK.out).lys)
      clear hlt
      go_wp2_with fail
      refine (ProfileText_i A k c ls _ HLY.out (HE.out.below HB.out).tab).mono ?_
      rintro e w2 ⟨rfl, hb2⟩
      rw [← HS.out.1]
      have HF := Lib.hid (And.intro (HLY.out.below hb2) (HB.out.trans (hb2.mono HB.out.size)))
      clear hb2
      go_wp2_with fail
      go_ret2
      exact ⟨A, k, c, rfl, HF.out.1, HF.out.2⟩
end Go.Proofs.YtknppcgoooaaaaaGreatDoor
