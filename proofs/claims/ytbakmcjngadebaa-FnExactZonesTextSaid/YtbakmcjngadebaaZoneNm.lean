/-
  The names of zones: what ZoneName and the reference's l16Name return.
-/
import Derived.Test.YtbakmcjngadebaaArith
import Derived.Test.YtbakmcjngadebaaScal
namespace Go.Proofs.Ytbakmcjngadebaa
open Go.RowKit

/-- The name of a zone. -/
def zoneName (n : Int) : ByteArray :=
  if n = 0 then { data := #[119, 104, 105, 116, 101] } else
  if n = 1 then { data := #[121, 101, 108, 108, 111, 119] } else
  if n = 2 then { data := #[98, 108, 117, 101] } else
  if n = 3 then { data := #[114, 101, 100] } else
  ByteArray.empty

theorem l16Name_out (n : Int) (w : World) (h : inB n 0 3 = false) : Calls Try.prog 106 #[.int .i64 n] w fun e w' => e = .returned (.string ByteArray.empty) ∧ Below w.heap.size w w' := by
  go_enter Try.func106, Try.ntmps106
  go_wp2_with ((go_at_call 71; refine (l00In_any _ _ _ _).mono ?_; rintro e w' ⟨rfl, rfl⟩))
  go_ret
  exact ⟨rfl, (Below.refl _ _).alloc (Nat.le_refl _) _⟩
theorem zoneOk_any (n : Int) (w : World) : Calls Try.prog 107 #[.int .i64 n] w fun e w' => e = .returned (.bool (inB n 0 3)) ∧ w = w' := by
  go_enter Try.func107, Try.ntmps107
  go_wp2_with ((go_at_call 74; refine (within_any _ _ _ _).mono ?_; rintro e w' ⟨rfl, rfl⟩))
  go_ret
  exact ⟨rfl, rfl⟩
theorem ZoneName_out (n : Int) (w : World) (h : inB n 0 3 = false) : Calls Try.prog 84 #[.int .i64 n] w fun e w' => e = .returned (.string ByteArray.empty) ∧ w = w' := by
  go_enter Try.func84, Try.ntmps84
  go_wp2_with ((go_at_call 107; refine (zoneOk_any _ _).mono ?_; rintro e w' ⟨rfl, rfl⟩))
  go_ret
  exact ⟨rfl, rfl⟩
theorem l16Name_0 (w : World) : Calls Try.prog 106 #[.int .i64 0] w fun e w' => e = .returned (.string { data := #[119, 104, 105, 116, 101] }) ∧ Below w.heap.size w w' := by
  have h : inB 0 0 3 = true := rfl
  go_enter Try.func106, Try.ntmps106
  go_wp2_with ((go_at_call 71; refine (l00In_any _ _ _ _).mono ?_; rintro e w' ⟨rfl, rfl⟩))
  go_ret
  exact ⟨rfl, (Below.refl _ _).alloc (Nat.le_refl _) _⟩
theorem ZoneName_0 (w : World) : Calls Try.prog 84 #[.int .i64 0] w fun e w' => e = .returned (.string { data := #[119, 104, 105, 116, 101] }) ∧ w = w' := by
  have h : inB 0 0 3 = true := rfl
  have ik : ∀ w, (Instr.index 93 (.agg #[.string { data := #[119, 104, 105, 116, 101] }, .string { data := #[121, 101, 108, 108, 111, 119] }, .string { data := #[98, 108, 117, 101] }, .string { data := #[114, 101, 100] }]) (.int .i64 0)).run Try.prog w = .ok (.string { data := #[119, 104, 105, 116, 101] }) w := fun _ => by kernel_rfl
  go_enter Try.func84, Try.ntmps84
  go_wp2_with ((go_at_call 107; refine (zoneOk_any _ _).mono ?_; rintro e w' ⟨rfl, rfl⟩))
  go_ret
  exact ⟨rfl, rfl⟩
theorem l16Name_1 (w : World) : Calls Try.prog 106 #[.int .i64 1] w fun e w' => e = .returned (.string { data := #[121, 101, 108, 108, 111, 119] }) ∧ Below w.heap.size w w' := by
  have h : inB 1 0 3 = true := rfl
  go_enter Try.func106, Try.ntmps106
  go_wp2_with ((go_at_call 71; refine (l00In_any _ _ _ _).mono ?_; rintro e w' ⟨rfl, rfl⟩))
  go_ret
  exact ⟨rfl, (Below.refl _ _).alloc (Nat.le_refl _) _⟩
theorem ZoneName_1 (w : World) : Calls Try.prog 84 #[.int .i64 1] w fun e w' => e = .returned (.string { data := #[121, 101, 108, 108, 111, 119] }) ∧ w = w' := by
  have h : inB 1 0 3 = true := rfl
  have ik : ∀ w, (Instr.index 93 (.agg #[.string { data := #[119, 104, 105, 116, 101] }, .string { data := #[121, 101, 108, 108, 111, 119] }, .string { data := #[98, 108, 117, 101] }, .string { data := #[114, 101, 100] }]) (.int .i64 1)).run Try.prog w = .ok (.string { data := #[121, 101, 108, 108, 111, 119] }) w := fun _ => by kernel_rfl
  go_enter Try.func84, Try.ntmps84
  go_wp2_with ((go_at_call 107; refine (zoneOk_any _ _).mono ?_; rintro e w' ⟨rfl, rfl⟩))
  go_ret
  exact ⟨rfl, rfl⟩
theorem l16Name_2 (w : World) : Calls Try.prog 106 #[.int .i64 2] w fun e w' => e = .returned (.string { data := #[98, 108, 117, 101] }) ∧ Below w.heap.size w w' := by
  have h : inB 2 0 3 = true := rfl
  go_enter Try.func106, Try.ntmps106
  go_wp2_with ((go_at_call 71; refine (l00In_any _ _ _ _).mono ?_; rintro e w' ⟨rfl, rfl⟩))
  go_ret
  exact ⟨rfl, (Below.refl _ _).alloc (Nat.le_refl _) _⟩
theorem ZoneName_2 (w : World) : Calls Try.prog 84 #[.int .i64 2] w fun e w' => e = .returned (.string { data := #[98, 108, 117, 101] }) ∧ w = w' := by
  have h : inB 2 0 3 = true := rfl
  have ik : ∀ w, (Instr.index 93 (.agg #[.string { data := #[119, 104, 105, 116, 101] }, .string { data := #[121, 101, 108, 108, 111, 119] }, .string { data := #[98, 108, 117, 101] }, .string { data := #[114, 101, 100] }]) (.int .i64 2)).run Try.prog w = .ok (.string { data := #[98, 108, 117, 101] }) w := fun _ => by kernel_rfl
  go_enter Try.func84, Try.ntmps84
  go_wp2_with ((go_at_call 107; refine (zoneOk_any _ _).mono ?_; rintro e w' ⟨rfl, rfl⟩))
  go_ret
  exact ⟨rfl, rfl⟩
theorem l16Name_3 (w : World) : Calls Try.prog 106 #[.int .i64 3] w fun e w' => e = .returned (.string { data := #[114, 101, 100] }) ∧ Below w.heap.size w w' := by
  have h : inB 3 0 3 = true := rfl
  go_enter Try.func106, Try.ntmps106
  go_wp2_with ((go_at_call 71; refine (l00In_any _ _ _ _).mono ?_; rintro e w' ⟨rfl, rfl⟩))
  go_ret
  exact ⟨rfl, (Below.refl _ _).alloc (Nat.le_refl _) _⟩
theorem ZoneName_3 (w : World) : Calls Try.prog 84 #[.int .i64 3] w fun e w' => e = .returned (.string { data := #[114, 101, 100] }) ∧ w = w' := by
  have h : inB 3 0 3 = true := rfl
  have ik : ∀ w, (Instr.index 93 (.agg #[.string { data := #[119, 104, 105, 116, 101] }, .string { data := #[121, 101, 108, 108, 111, 119] }, .string { data := #[98, 108, 117, 101] }, .string { data := #[114, 101, 100] }]) (.int .i64 3)).run Try.prog w = .ok (.string { data := #[114, 101, 100] }) w := fun _ => by kernel_rfl
  go_enter Try.func84, Try.ntmps84
  go_wp2_with ((go_at_call 107; refine (zoneOk_any _ _).mono ?_; rintro e w' ⟨rfl, rfl⟩))
  go_ret
  exact ⟨rfl, rfl⟩

theorem zoneName_out {n : Int} (h : inB n 0 3 = false) : zoneName n = ByteArray.empty := by
  rcases inB_not.1 h with h | h
  · unfold zoneName
    rw [if_neg (by omega), if_neg (by omega), if_neg (by omega), if_neg (by omega)]
  · unfold zoneName
    rw [if_neg (by omega), if_neg (by omega), if_neg (by omega), if_neg (by omega)]
theorem l16Name_any (n : Int) (w : World) : Calls Try.prog 106 #[.int .i64 n] w fun e w' => e = .returned (.string (zoneName n)) ∧ Below w.heap.size w w' := by
  cases h : inB n 0 3
  · rw [zoneName_out h]
    exact l16Name_out n w h
  · have hb := inB_iff.1 h
    have hk : n = 0 ∨ n = 1 ∨ n = 2 ∨ n = 3 := by omega
    rcases hk with rfl | rfl | rfl | rfl
    · exact l16Name_0 w
    · exact l16Name_1 w
    · exact l16Name_2 w
    · exact l16Name_3 w
theorem ZoneName_any (n : Int) (w : World) : Calls Try.prog 84 #[.int .i64 n] w fun e w' => e = .returned (.string (zoneName n)) ∧ w = w' := by
  cases h : inB n 0 3
  · rw [zoneName_out h]
    exact ZoneName_out n w h
  · have hb := inB_iff.1 h
    have hk : n = 0 ∨ n = 1 ∨ n = 2 ∨ n = 3 := by omega
    rcases hk with rfl | rfl | rfl | rfl
    · exact ZoneName_0 w
    · exact ZoneName_1 w
    · exact ZoneName_2 w
    · exact ZoneName_3 w
end Go.Proofs.Ytbakmcjngadebaa
