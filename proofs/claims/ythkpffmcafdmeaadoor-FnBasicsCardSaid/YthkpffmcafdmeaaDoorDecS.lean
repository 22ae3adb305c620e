/-
  A number in decimal: the reference's, at a number that is not negative.
-/
import Derived.Test.YthkpffmcafdmeaaDoorDecM
import Derived.Test.YthkpffmcafdmeaaDoorMem
import Derived.Test.YthkpffmcafdmeaaDoorArith
import Derived.Laws.IdiomStrings
namespace Go.Proofs.YthkpffmcafdmeaaDoor
open Go.ChangeShapes Go.WideShapes Go.ChangeAt Go.RowKit Go.Deep
set_option linter.unusedVariables false

theorem info_u8 : (Tryd.prog.info? 5).map (fun i => (i.zero, i.size, i.bytes)) = some (some (.int .u8 0), 1, 1) := by kernel_rfl
theorem ret_str' {a b : ByteArray} (h : a = b) : Ending.returned (.string a) = .returned (.string b) := by rw [h]
def bV (b : UInt8) : Value := .int .u8 (b.toNat : Int)
theorem bV_dig (m : Nat) : bV (UInt8.ofNat (48 + m % 10)) = .int .u8 (48 + ((m % 10 : Nat) : Int)) := by rw [bV, byte_ten]
/-- Bytes in memory of the call's own, as a text. -/
theorem own_back (B g n c : Nat) (l : List UInt8) (w : World) (h : w.ownsRow B 5 1 (.slice (some ⟨g, 0, none⟩) n c) n (l.map bV)) (hl : l.length = n) :
    (convert 45 9 (.slice (some ⟨g, 0, none⟩) n c)).run Tryd.prog w = .ok (.string ⟨l.toArray⟩) w := by
  subst hl
  refine run_convert_bytes_back w 45 9 5 ⟨g, 0, none⟩ c l Tryd.underlying45 Tryd.underlying5 Tryd.underlying9 ?_
  intro j hj
  have h1 := h.cellAt j (by omega)
  rw [Go.Addr.add_lit, Nat.zero_add, h1, List.getElem?_map, List.getElem?_eq_getElem hj]
  rfl
theorem rev_drop {D : List UInt8} {j : Nat} (h : j < D.length) : (D.drop (j + 1)).reverse ++ [D[j]] = (D.drop j).reverse := by
  rw [List.drop_eq_getElem_cons h, List.reverse_cons]
set_option maxRecDepth 100000 in
set_option maxHeartbeats 3200000 in
theorem l01Dec_s (n : Nat) (w : World) (h1 : n < 1000000000000000000) :
    Calls Tryd.prog 109 #[.int .i64 n] w fun e w' => e = .returned (.string (decB n)) ∧ Below w.heap.size w w' := by
  by_cases hz : n = 0
  · subst hz
    go_enter Tryd.func109, Tryd.ntmps109
    go_wp2
    go_ret
    exact ⟨ret_str' (by rw [decB, show ((0 : Nat) : Int) = 0 from rfl, itoa_zero]), Below.refl _ _⟩
  have hnz : ¬ (n : Int) = 0 := by omega
  have hnb : ((n : Int) == 0) = false := by rw [beq_eq_false_iff_ne]; omega
  have hnn : ¬ (n : Int) < 0 := by omega
  have hown0 := World.ownsRow_lit (base := w.heap.size) (e := 5) (size := 1) w #[] 0 (Nat.le_refl _) (by simp) rfl
  have hba : Below w.heap.size w (w.alloc (.cells #[] 5)) := (Below.refl _ _).alloc (Nat.le_refl _) _
  have HR := Lib.hid (show decB n = ⟨(revD n).reverse.toArray⟩ by rw [decB, itoa_pos rfl (by omega)])
  have HL := Lib.hid (show (revD n).length ≤ 18 from revD_len (by have h3 : (10 : Nat) ^ 18 = 1000000000000000000 := by decide
                                                                  omega))
  have H0 := Lib.hid (And.intro hown0 hba)
  clear hown0 hba hz
  go_enter Tryd.func109, Tryd.ntmps109
  go_wp2_with fail
  go_loopw [3, 4] (fun v mv wr => ∃ (m : Nat) (D : List UInt8), mv = .int .i64 (m : Int) ∧ m < 1000000000000000000 ∧ Hid (revD n = D ++ revD m) ∧ (∃ g c, v = .slice (some ⟨g, 0, none⟩) D.length c) ∧ Hid (wr.ownsRow w.heap.size 5 1 v D.length (D.map bV) ∧ Below w.heap.size w wr)) (fun _ mv _ => (intOf mv).toNat)
  case atStart => exact ⟨n, [], rfl, h1, rfl, ⟨_, _, rfl⟩, H0.out⟩
  case round =>
    clear H0
    obtain ⟨m, D, rfl, hm, HD, ⟨g, c, rfl⟩, HO⟩ := hrel
    by_cases hm0 : m = 0
    · subst hm0
      have hlen : D.length ≤ 18 := by
        have h2 := HL.out
        rw [HD.out, List.length_append] at h2
        omega
      have HD2 := Lib.hid (show D = revD n by rw [HD.out, revD_zero, List.append_nil])
      have hne : D.length ≠ 0 := fun h0 => by
        have h2 := HD2.out
        rw [List.length_eq_zero_iff.1 h0, revD_pos (by omega)] at h2
        cases h2
      have hpos : 0 < D.length := by omega
      clear hne
      have hown2 := World.ownsRow_lit (base := wr.heap.size) (e := 5) (size := 1) wr #[] 0 (Nat.le_refl _) (by simp) rfl
      have hbb : Below wr.heap.size wr (wr.alloc (.cells #[] 5)) := (Below.refl _ _).alloc (Nat.le_refl _) _
      have H2 := Lib.hid (And.intro hown2 hbb)
      clear hown2 hbb
      go_wp2_with fail
      go_loopw [6, 7] (fun v iv wq => ∃ (j : Nat) (E : List UInt8), iv = .int .i64 ((j : Int) - 1) ∧ j ≤ D.length ∧ Hid (E = (D.drop j).reverse) ∧ (∃ g c, v = .slice (some ⟨g, 0, none⟩) E.length c) ∧ Hid (wq.ownsRow wr.heap.size 5 1 v E.length (E.map bV) ∧ Below wr.heap.size wr wq)) (fun _ iv _ => ((intOf iv) + 1).toNat)
      case atStart => exact ⟨D.length, [], rfl, Nat.le_refl _, by simp [Hid], ⟨_, _, rfl⟩, H2.out⟩
      case round =>
        clear H2
        obtain ⟨j, E, rfl, hj, HE, ⟨g2, c2, rfl⟩, HO2⟩ := hrel
        have hel : E.length ≤ 18 := by rw [HE.out, List.length_reverse, List.length_drop]; omega
        by_cases hj0 : j = 0
        · subst hj0
          have hneg : ¬ (0 : Int) ≤ ((0 : Nat) : Int) - 1 := by omega
          have hbk := own_back _ g2 E.length c2 E _ HO2.out.1 rfl
          go_wp2_with fail
          go_ret
          exact ⟨ret_str' (by rw [HR.out, HE.out, List.drop_zero, HD2.out]), HO.out.2.trans (HO2.out.2.mono HO.out.2.size)⟩
        · obtain ⟨i, rfl⟩ : ∃ i, j = i + 1 := ⟨j - 1, by omega⟩
          have hid : i < D.length := by omega
          have hig : (0 : Int) ≤ ((i + 1 : Nat) : Int) - 1 := by omega
          have hnat : (((i + 1 : Nat) : Int) - 1) = (i : Int) := by omega
          rw [hnat]
          have hi0 : (0 : Int) ≤ (i : Int) := by omega
          have hii : (i : Int) < (D.length : Int) := by omega
          have hcd := cell_kept HO2.out.2 (show _ = some (bV D[i]) by rw [HO.out.1.cellAt i (by omega), List.getElem?_map, List.getElem?_eq_getElem hid]; rfl)
          obtain ⟨y, hy⟩ : ∃ y, y = D[i] := ⟨_, rfl⟩
          rw [← hy] at hcd
          have hyb := y.toNat_lt
          have HE2 := Lib.hid (show E ++ [y] = (D.drop i).reverse by rw [HE.out, hy]; exact rev_drop hid)
          have hwz2 := HO2.out.2.size
          unfold bV at hcd
          clear hy hnat hig
          go_wp2_with (refine wp_app rfl (.tmp 41) (.tmp 46) 45 rfl _ 5 (.int .u8 0) 1 1 Tryd.underlying45 info_u8 rfl (by omega) _ E.length (E.map bV) rfl HO2.out.1 [.int .u8 (y.toNat : Int)] rfl rfl (by intro u hu; simp at hu; subst hu; rfl) (by unfold maxLen; omega) (by omega) hwz2 ?_; intro v' w1 hown1 hgrow1 hv1)
          have e1 : E.map bV ++ [Value.int .u8 (y.toNat : Int)] = (E ++ [y]).map bV := by rw [List.map_append]; rfl
          have H3 := Lib.hid (And.intro (by rw [← e1, List.length_append]; exact hown1 : w1.ownsRow _ 5 1 v' (E ++ [y]).length ((E ++ [y]).map bV)) (below_app HO2.out.2 HO2.out.1 hgrow1 hwz2 (Nat.le_refl _)))
          have HV := Lib.hid (show ∃ g c, v' = .slice (some ⟨g, 0, none⟩) (E ++ [y]).length c by rw [List.length_append]; exact hv1)
          obtain ⟨g3, c3, rfl⟩ := hv1
          clear hown1 hgrow1 e1 HO2
          go_wp2_with fail
          go_roundw
          case rel => exact ⟨i, E ++ [y], by rfl, by omega, HE2.out, HV.out, H3.out⟩
          case measure => first | (simp [intOf]; done) | (simp [intOf]; omega)
    · have hmi : ¬ (m : Int) = 0 := by omega
      have hmb : ((m : Int) == 0) = false := by rw [beq_eq_false_iff_ne]; omega
      have hmn : ¬ (m : Int) % 10 < 0 := by omega
      have hlen : D.length ≤ 18 := by
        have h2 := HL.out
        rw [HD.out, List.length_append] at h2
        omega
      have HN := Lib.hid (show revD n = (D ++ [UInt8.ofNat (48 + m % 10)]) ++ revD (m / 10) by rw [HD.out, revD_pos (by omega), List.append_assoc]; rfl)
      have hwz := HO.out.2.size
      go_wp2_with (refine wp_app rfl (.tmp 22) (.tmp 26) 45 rfl w.heap.size 5 (.int .u8 0) 1 1 Tryd.underlying45 info_u8 rfl (by omega) _ D.length (D.map bV) rfl HO.out.1 [.int .u8 (48 + (m : Int) % 10)] rfl rfl (by intro u hu; simp at hu; subst hu; rfl) (by unfold maxLen; omega) (by omega) hwz ?_; intro v' w1 hown1 hgrow1 hv1)
      have e1 : D.map bV ++ [Value.int .u8 (48 + (m : Int) % 10)] = (D ++ [UInt8.ofNat (48 + m % 10)]).map bV := by
        rw [List.map_append, List.map_singleton, bV_dig]; simp
      have H3 := Lib.hid (show w1.ownsRow w.heap.size 5 1 v' (D ++ [UInt8.ofNat (48 + m % 10)]).length ((D ++ [UInt8.ofNat (48 + m % 10)]).map bV) ∧ Below w.heap.size w w1 from
        ⟨by rw [← e1, List.length_append]; exact hown1, below_app HO.out.2 HO.out.1 hgrow1 hwz (Nat.le_refl _)⟩)
      have HV := Lib.hid (show ∃ g c, v' = .slice (some ⟨g, 0, none⟩) (D ++ [UInt8.ofNat (48 + m % 10)]).length c by rw [List.length_append]; exact hv1)
      obtain ⟨g3, c3, rfl⟩ := hv1
      clear hown1 hgrow1 e1 HO
      go_wp2_with fail
      go_roundw
      case rel => exact ⟨m / 10, D ++ [UInt8.ofNat (48 + m % 10)], by first | (congr 1; done) | (congr 1; omega), by omega, HN.out, HV.out, H3.out⟩
      case measure => first | (simp [intOf]; done) | (simp [intOf]; omega)
end Go.Proofs.YthkpffmcafdmeaaDoor
