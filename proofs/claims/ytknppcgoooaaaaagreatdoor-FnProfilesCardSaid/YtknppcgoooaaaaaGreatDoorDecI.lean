/-
  Numbers as texts: the program's Decimal and two digits.
-/
import Derived.Test.YtknppcgoooaaaaaGreatDoorDecN
import Derived.Test.YtknppcgoooaaaaaGreatDoorMem
import Derived.Test.YtknppcgoooaaaaaGreatDoorArith
import Derived.Test.YtknppcgoooaaaaaGreatDoorShD
import Derived.Laws.IdiomStrings
import Derived.Lib.AppendIntMem
import Derived.Lib.ItoaLen
namespace Go.Proofs.YtknppcgoooaaaaaGreatDoor
open Go.ChangeShapes Go.WideShapes Go.ChangeAt Go.RowKit Go.Deep
set_option linter.unusedVariables false

/-- The library's table of powers of ten lies as its initialiser lays it. -/
def Tab (w : World) : Prop := Lib.TabIs Tryz.prog w "internal/strconv.uint64pow10" .u64 Lib.pow10Tab
theorem Tab.below {w w' : World} (h : Tab w) (hb : Below w.heap.size w w') : Tab w' := Lib.tabBelow_of_tabIs h w' hb
theorem ret_str {a b : ByteArray} (h : a = b) : Ending.returned (.string a) = .returned (.string b) := by rw [h]
theorem Decimal_i (n : Int) (w : World) (h : Tab w) (h0 : -9223372036854775808 ≤ n) (h1 : n ≤ 9223372036854775807) :
    Calls Tryz.prog 47 #[.int .i64 n] w fun e w' => e = .returned (.string (decB n)) ∧ Below w.heap.size w w' := by
  have HT := Lib.hid h
  clear h
  go_enter Tryz.func47, Tryz.ntmps47
  go_wp2_with fail
  refine (Tryz.strconv_FormatInt_10 n h0 h1 _ HT.out).mono ?_
  rintro e w' ⟨rfl, k, os, hw⟩
  have HB := Lib.hid (show Below w.heap.size w w' by rw [hw]; exact Lib.below_grow _ _ (Nat.le_refl _) k os)
  clear hw
  go_wp2_with fail
  go_ret
  exact ⟨rfl, HB.out⟩
theorem ba_app (a b : List UInt8) : (⟨a.toArray⟩ : ByteArray) ++ ⟨b.toArray⟩ = ⟨(a ++ b).toArray⟩ := by
  apply ByteArray.ext; simp
theorem decB_size (n : Int) (h0 : -9223372036854775808 ≤ n) (h1 : n ≤ 9223372036854775807) : (decB n).size ≤ 21 := by
  have h2 := Lib.itoa_length_le n h0 h1
  simpa [decB, ByteArray.size] using h2
/-- Two digits. -/
def twoL (n : Nat) : List UInt8 := [UInt8.ofNat (48 + n / 10), UInt8.ofNat (48 + n % 10)]
theorem two_back (w : World) (g n c : Nat) (hn : n < 100) (x y : Int) (hx : x = 48 + ((n / 10 : Nat) : Int)) (hy : y = 48 + ((n % 10 : Nat) : Int)) (h0 : w.cell? ⟨g, 0, none⟩ = some (.int .u8 x)) (h1 : w.cell? ⟨g, 1, none⟩ = some (.int .u8 y)) :
    (convert 22 9 (.slice (some ⟨g, 0, none⟩) 2 c)).run Tryz.prog w = .ok (.string ⟨(twoL n).toArray⟩) w := by
  refine run_convert_bytes_back w 22 9 5 ⟨g, 0, none⟩ c (twoL n) Tryz.underlying22 Tryz.underlying5 Tryz.underlying9 ?_
  intro j hj
  have e1 : (UInt8.ofNat (48 + n / 10)).toNat = 48 + n / 10 := by rw [UInt8.toNat_ofNat']; omega
  have e2 : (UInt8.ofNat (48 + n % 10)).toNat = 48 + n % 10 := by rw [UInt8.toNat_ofNat']; omega
  have hj2 : j < 2 := by simpa [twoL] using hj
  have : j = 0 ∨ j = 1 := by omega
  rcases this with rfl | rfl
  · show w.cell? ⟨g, 0 + 0, none⟩ = _
    rw [Nat.zero_add, h0, hx]
    show _ = some (Value.int .u8 (((UInt8.ofNat (48 + n / 10)).toNat : Nat) : Int))
    rw [e1]; simp
  · show w.cell? ⟨g, 0 + 1, none⟩ = _
    rw [Nat.zero_add, h1, hy]
    show _ = some (Value.int .u8 (((UInt8.ofNat (48 + n % 10)).toNat : Nat) : Int))
    rw [e2]; simp
theorem two_dig {n : Nat} (h : n < 100) : digP (twoL n) := by
  have e1 : (UInt8.ofNat (48 + n / 10)).toNat = 48 + n / 10 := by rw [UInt8.toNat_ofNat']; omega
  have e2 : (UInt8.ofNat (48 + n % 10)).toNat = 48 + n % 10 := by rw [UInt8.toNat_ofNat']; omega
  intro c hc
  rcases List.mem_cons.1 hc with rfl | hc
  · omega
  · rcases List.mem_cons.1 hc with rfl | hc
    · omega
    · cases hc
theorem two_val {n : Nat} (h : n < 100) : vlF 0 (twoL n) = n := by
  have e1 : (UInt8.ofNat (48 + n / 10)).toNat = 48 + n / 10 := by rw [UInt8.toNat_ofNat']; omega
  have e2 : (UInt8.ofNat (48 + n % 10)).toNat = 48 + n % 10 := by rw [UInt8.toNat_ofNat']; omega
  rw [twoL, vlF_cons, vlF_cons, vlF_nil, e1, e2]
  omega
theorem take_snoc (s : ByteArray) (k : Nat) (h : k < s.size) : s.data.toList.take (k + 1) = s.data.toList.take k ++ [s[k]] := by
  rw [List.take_succ_eq_append_getElem (by simpa using h)]; rfl
theorem digP_take {l : List UInt8} (h : digP l) (k : Nat) : digP (l.take k) := fun c hc => h c (List.mem_of_mem_take hc)
end Go.Proofs.YtknppcgoooaaaaaGreatDoor
