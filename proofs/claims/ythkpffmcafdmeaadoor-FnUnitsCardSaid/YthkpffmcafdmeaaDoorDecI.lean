/-
  Numbers as texts: the program's Decimal and two digits.
-/
import Derived.Test.YthkpffmcafdmeaaDoorDecN
import Derived.Test.YthkpffmcafdmeaaDoorMem
import Derived.Test.YthkpffmcafdmeaaDoorArith
import Derived.Test.YthkpffmcafdmeaaDoorShD
import Derived.Laws.IdiomStrings
import Derived.Lib.AppendIntMem
import Derived.Lib.ItoaLen
namespace Go.Proofs.YthkpffmcafdmeaaDoor
open Go.ChangeShapes Go.WideShapes Go.ChangeAt Go.RowKit Go.Deep
set_option linter.unusedVariables false

/-- The library's table of powers of ten lies as its initialiser lays it. -/
def Tab (w : World) : Prop := Lib.TabIs Tryd.prog w "internal/strconv.uint64pow10" .u64 Lib.pow10Tab
theorem Tab.below {w w' : World} (h : Tab w) (hb : Below w.heap.size w w') : Tab w' := Lib.tabBelow_of_tabIs h w' hb
theorem ret_str {a b : ByteArray} (h : a = b) : Ending.returned (.string a) = .returned (.string b) := by rw [h]
theorem Decimal_i (n : Int) (w : World) (h : Tab w) (h0 : -9223372036854775808 ≤ n) (h1 : n ≤ 9223372036854775807) :
    Calls Tryd.prog 38 #[.int .i64 n] w fun e w' => e = .returned (.string (decB n)) ∧ Below w.heap.size w w' := by
  have HT := Lib.hid h
  clear h
  go_enter Tryd.func38, Tryd.ntmps38
  go_wp2_with fail
  refine (Tryd.strconv_FormatInt_10 n h0 h1 _ HT.out).mono ?_
  rintro e w' ⟨rfl, k, os, hw⟩
  have HB := Lib.hid (show Below w.heap.size w w' by rw [hw]; exact Lib.below_grow _ _ (Nat.le_refl _) k os)
  clear hw
  go_wp2_with fail
  go_ret
  exact ⟨rfl, HB.out⟩
theorem ba_app (a b : List UInt8) : (⟨a.toArray⟩ : ByteArray) ++ ⟨b.toArray⟩ = ⟨(a ++ b).toArray⟩ := by
  apply ByteArray.ext; simp
theorem decB_size (n : Int) (h0 : -9223372036854775808 ≤ n) (h1 : n ≤ 9223372036854775807) : (decB n).size ≤ 21 := by
  have h2 := Lib.itoa_length_le n h0 h1
  simpa [decB, ByteArray.size] using h2
/-- Two digits. -/
def twoL (n : Nat) : List UInt8 := [UInt8.ofNat (48 + n / 10), UInt8.ofNat (48 + n % 10)]
theorem two_back (w : World) (g n c : Nat) (hn : n < 100) (x y : Int) (hx : x = 48 + ((n / 10 : Nat) : Int)) (hy : y = 48 + ((n % 10 : Nat) : Int)) (h0 : w.cell? ⟨g, 0, none⟩ = some (.int .u8 x)) (h1 : w.cell? ⟨g, 1, none⟩ = some (.int .u8 y)) :
    (convert 45 9 (.slice (some ⟨g, 0, none⟩) 2 c)).run Tryd.prog w = .ok (.string ⟨(twoL n).toArray⟩) w := by
  refine run_convert_bytes_back w 45 9 5 ⟨g, 0, none⟩ c (twoL n) Tryd.underlying45 Tryd.underlying5 Tryd.underlying9 ?_
  intro j hj
  have e1 : (UInt8.ofNat (48 + n / 10)).toNat = 48 + n / 10 := by rw [UInt8.toNat_ofNat']; omega
  have e2 : (UInt8.ofNat (48 + n % 10)).toNat = 48 + n % 10 := by rw [UInt8.toNat_ofNat']; omega
  have hj2 : j < 2 := by simpa [twoL] using hj
  have : j = 0 ∨ j = 1 := by omega
  rcases this with rfl | rfl
  · show w.cell? ⟨g, 0 + 0, none⟩ = _
    rw [Nat.zero_add, h0, hx]
    show _ = some (Value.int .u8 (((UInt8.ofNat (48 + n / 10)).toNat : Nat) : Int))
    rw [e1]; simp
  · show w.cell? ⟨g, 0 + 1, none⟩ = _
    rw [Nat.zero_add, h1, hy]
    show _ = some (Value.int .u8 (((UInt8.ofNat (48 + n % 10)).toNat : Nat) : Int))
    rw [e2]; simp
set_option maxRecDepth 100000 in
theorem twoDigits_i (n : Nat) (w : World) (hn : n < 100) :
    Calls Tryd.prog 94 #[.int .i64 n] w fun e w' => e = .returned (.string ⟨(twoL n).toArray⟩) ∧ Below w.heap.size w w' := by
  have hb : Below w.heap.size w (w.alloc (.cells #[.int .u8 (48 + (n : Int) / 10), .int .u8 (48 + (n : Int) % 10)] 5)) := (Below.refl _ _).alloc (Nat.le_refl _) _
  have HB := Lib.hid hb
  clear hb
  have hbk := fun x y : Int => fun (hx : x = 48 + ((n / 10 : Nat) : Int)) (hy : y = 48 + ((n % 10 : Nat) : Int)) => two_back (w.alloc (.cells #[.int .u8 x, .int .u8 y] 5)) w.heap.size n 2 hn x y hx hy (by rw [World.cell?_alloc_mark]; rfl) (by rw [World.cell?_alloc_mark]; rfl)
  have hbk1 := hbk (48 + (n : Int) / 10) (48 + (n : Int) % 10) (by omega) (by omega)
  clear hbk
  go_enter Tryd.func94, Tryd.ntmps94
  go_wp2_with fail
  go_ret
  exact ⟨rfl, HB.out⟩
theorem two_dig {n : Nat} (h : n < 100) : digP (twoL n) := by
  have e1 : (UInt8.ofNat (48 + n / 10)).toNat = 48 + n / 10 := by rw [UInt8.toNat_ofNat']; omega
  have e2 : (UInt8.ofNat (48 + n % 10)).toNat = 48 + n % 10 := by rw [UInt8.toNat_ofNat']; omega
  intro c hc
  rcases List.mem_cons.1 hc with rfl | hc
  · omega
  · rcases List.mem_cons.1 hc with rfl | hc
    · omega
    · cases hc
theorem two_val {n : Nat} (h : n < 100) : vlF 0 (twoL n) = n := by
  have e1 : (UInt8.ofNat (48 + n / 10)).toNat = 48 + n / 10 := by rw [UInt8.toNat_ofNat']; omega
  have e2 : (UInt8.ofNat (48 + n % 10)).toNat = 48 + n % 10 := by rw [UInt8.toNat_ofNat']; omega
  rw [twoL, vlF_cons, vlF_cons, vlF_nil, e1, e2]
  omega
theorem take_snoc (s : ByteArray) (k : Nat) (h : k < s.size) : s.data.toList.take (k + 1) = s.data.toList.take k ++ [s[k]] := by
  rw [List.take_succ_eq_append_getElem (by simpa using h)]; rfl
theorem digP_take {l : List UInt8} (h : digP l) (k : Nat) : digP (l.take k) := fun c hc => h c (List.mem_of_mem_take hc)
set_option maxRecDepth 100000 in
set_option maxHeartbeats 1600000 in
theorem digitsOf_i (s : ByteArray) (w : World) (hs : s.size ≤ 9) (hd : digP s.data.toList) :
    Calls Tryd.prog 95 #[.string s] w fun e w' => e = .returned (.int .i64 (vlF 0 s.data.toList : Nat)) ∧ w = w' := by
  have HD := Lib.hid hd
  have hs0 : 0 ≤ s.size := Nat.zero_le _
  clear hd
  go_enter Tryd.func95, Tryd.ntmps95
  go_wp2
  go_loop [3, 7] (fun n i => ∃ k : Nat, k ≤ s.size ∧ i = .int .i64 k ∧ n = .int .i64 (vlF 0 (s.data.toList.take k) : Nat)) (fun _ i => s.size - (intOf i).toNat)
  case atStart => exact ⟨0, Nat.zero_le _, rfl, rfl⟩
  case round =>
    obtain ⟨k, hk, rfl, rfl⟩ := hrel
    have hb : vlF 0 (s.data.toList.take k) < 10 ^ 9 := by
      have h1 := vlF_lt _ (digP_take HD.out k) 0 0 (by omega)
      have h2 : (10 : Nat) ^ (0 + (s.data.toList.take k).length) ≤ 10 ^ 9 := Nat.pow_le_pow_right (by omega) (by have := List.length_take_le k s.data.toList; omega)
      omega
    have hb2 : vlF 0 (s.data.toList.take k) < 1000000000 := by simpa using hb
    clear hb
    by_cases hlt : k < s.size
    · have hc : 48 ≤ (s[k]).toNat ∧ (s[k]).toNat ≤ 57 := HD.out _ (by
        have : s[k] = s.data.toList[k]'(by simpa using hlt) := rfl
        rw [this]; exact List.getElem_mem _)
      have HS := Lib.hid (show vlF 0 (s.data.toList.take (k + 1)) = vlF 0 (s.data.toList.take k) * 10 + ((s[k]).toNat - 48) by rw [take_snoc s k hlt, vlF_snoc])
      have hc1 : 48 ≤ ((s[k]).toNat : Int) := by omega
      have hc2 : ((s[k]).toNat : Int) ≤ 57 := by omega
      have hc3 : 48 ≤ (s[k]).toNat := by omega
      have hc4 : (s[k]).toNat ≤ 57 := by omega
      clear hc
      go_wp2
      go_round
      case rel => exact ⟨k + 1, by omega, by go_num, by rw [HS.out]; congr 1; omega⟩
      case measure => simp [intOf]; omega
    · go_wp2
      go_ret
      exact ⟨ret_int (by rw [List.take_of_length_le (by rw [← Lib.size_eq]; omega)]), rfl⟩
end Go.Proofs.YthkpffmcafdmeaaDoor
