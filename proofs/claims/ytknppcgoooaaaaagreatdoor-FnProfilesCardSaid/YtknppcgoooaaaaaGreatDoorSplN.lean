/-
  The library's SplitN and Cut at one byte, in the words of these texts.
-/
import Derived.Test.YtknppcgoooaaaaaGreatDoorRdI
import Derived.Test.YtknppcgoooaaaaaGreatDoorStrsM
namespace Go.Proofs.YtknppcgoooaaaaaGreatDoor
open Go.ChangeShapes Go.WideShapes Go.ChangeAt Go.RowKit Go.Deep
set_option linter.unusedVariables false

theorem split_n (s : ByteArray) (c : UInt8) (N : Nat) (Ni : Int) (w : World) (hE : Env w) (hs : s.size ≤ 1048576) (hN : Ni = (N : Int)) (h1 : 1 ≤ N) (h2 : N ≤ 1000) :
    Calls Tryz.prog 43 #[.string s, .string { data := #[c] }, .int .i64 Ni] w fun e w' => ∃ A cc PB, e = .returned (.slice A PB.length cc) ∧ Hid (PB.map (·.data.toList) = Lib.splitK [c] 0 (min N (s.data.toList.length + 1) - 1) s.data.toList) ∧ Hid (PB.length ≤ N) ∧ Strs w' A PB.length PB ∧ Below w.heap.size w w' := by
  subst hN
  obtain ⟨m, hm⟩ := hE.mx
  refine (Tryz.strings_SplitN s { data := #[c] } N m w (by omega) hm (Nat.le_refl _) h1 (by omega)).mono ?_
  rintro e w' ⟨rfl, rfl⟩
  have hlen := Lib.splitB_length_le { data := #[c] } 0 (min N (s.size + 1) - 1) s
  refine ⟨_, _, Lib.splitB { data := #[c] } 0 (min N (s.size + 1) - 1) s, rfl, ?_, ?_, ?_, (Below.refl _ _).alloc (Nat.le_refl _) _⟩
  · rw [← Lib.size_eq]
    exact Lib.splitB_data _ 0 _ s
  · show _ ≤ N
    omega
  · refine ⟨rfl, by omega, fun h0 => ⟨w.heap.size, 0, _, rfl, heap_alloc_new w _, fun j x hx => ?_⟩⟩
    rw [Nat.zero_add, World.cell?_alloc_mark, Lib.cellsOf, List.getElem?_toArray, List.getElem?_append_left (by rw [List.length_map]; exact (List.getElem?_eq_some_iff.1 hx).1), List.getElem?_map, hx]
    rfl
theorem splitK_mem_le (sep : List UInt8) (n : Nat) : ∀ (l x : List UInt8), x ∈ Lib.splitK sep 0 n l → x.length ≤ l.length := by
  induction n with
  | zero => intro l x hx; simp [Lib.splitK] at hx; simp [hx]
  | succ n ih =>
    intro l x hx
    rw [Lib.splitK] at hx
    split at hx
    · simp at hx; simp [hx]
    · rcases List.mem_cons.1 hx with h | h
      · rw [h, List.length_take]; omega
      · have := ih _ _ h
        rw [List.length_drop] at this; omega
theorem cut_le (l : List UInt8) (c : UInt8) : (Lib.cut l [c]).1.length ≤ l.length ∧ (Lib.cut l [c]).2.1.length ≤ l.length := by
  unfold Lib.cut
  split
  · refine ⟨by show (l.take _).length ≤ _; rw [List.length_take]; omega, ?_⟩
    show (l.drop _).length ≤ _
    rw [List.length_drop]; omega
  · exact ⟨Nat.le_refl _, by simp⟩
theorem cut_n (s : ByteArray) (c : UInt8) (w : World) (hE : Env w) (hs : s.size ≤ 1048576) :
    Calls Tryz.prog 44 #[.string s, .string { data := #[c] }] w fun e w' => ∃ z1 z2 b, e = .returned (.tuple #[.string z1, .string z2, .bool b]) ∧ Hid (z1.data.toList = (Lib.cut s.data.toList [c]).1 ∧ z2.data.toList = (Lib.cut s.data.toList [c]).2.1) ∧ (z1.size ≤ 1048576 ∧ z2.size ≤ 1048576) ∧ Below w.heap.size w w' := by
  obtain ⟨m, hm⟩ := hE.mx
  refine (Tryz.strings_Cut s { data := #[c] } m w (by omega) hm).mono ?_
  rintro e w' ⟨rfl, q, rfl⟩
  have h1 := cut_le s.data.toList c
  rw [← Lib.size_eq] at h1
  exact ⟨_, _, _, rfl, ⟨rfl, rfl⟩, ⟨by show (List.toArray _).size ≤ _; rw [List.size_toArray]; exact Nat.le_trans h1.1 hs, by show (List.toArray _).size ≤ _; rw [List.size_toArray]; exact Nat.le_trans h1.2 hs⟩, below_drewN (Below.refl _ _) q⟩
end Go.Proofs.YtknppcgoooaaaaaGreatDoor
