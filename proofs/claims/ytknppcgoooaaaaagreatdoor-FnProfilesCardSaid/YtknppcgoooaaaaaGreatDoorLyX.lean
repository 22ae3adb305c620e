/-
  Layers: hours one after another.
-/
import Derived.Test.YtknppcgoooaaaaaGreatDoorLyB
import Derived.Test.YtknppcgoooaaaaaGreatDoorLyA
namespace Go.Proofs.YtknppcgoooaaaaaGreatDoor
open Go.ChangeShapes Go.WideShapes Go.ChangeAt Go.RowKit Go.Deep
set_option linter.unusedVariables false

theorem info_intL : (Tryz.prog.info? 2).map (fun i => (i.zero, i.size, i.bytes)) = some (some (.int .i64 0), 1, 8) := by kernel_rfl
/-- Heats of hours: not too great, not too many. -/
def Heats (js : List Int) : Prop := ∀ j ∈ js, -100000000 ≤ j ∧ j ≤ 100000000
/-- A slice's own room is enough, if the slice is a bag's. -/
theorem LBag.room {w : World} {E base : Nat} {A : Option Addr} {n c : Nat} {ls : List Ly} (H : LBag w E base A n c ls) (h0 : 0 < n) : n ≤ c ∧ c ≤ maxLen := by
  obtain ⟨h1, h2, h3, h4⟩ := H
  obtain ⟨g, hA, hg, hr⟩ := h4 h0
  exact ⟨by have := hr.1; omega, hr.2.1⟩
theorem mass_le {ls : List Ly} (h : ∀ x ∈ ls, LyOk x) (hl : ls.length ≤ 16) : 0 ≤ sumF Ly.ice ls ∧ 0 ≤ sumF Ly.water ls ∧ sumF Ly.ice ls + sumF Ly.water ls ≤ 32000000 := by
  have a := sumF_bd Ly.ice 0 1000000 ls fun x hx => by have := (h x hx).i; omega
  have b := sumF_bd Ly.water 0 1000000 ls fun x hx => by have := (h x hx).v; omega
  omega
theorem neq_ly (f i v d t h a : Int) (W : World) : (binOp .neq 44 (Lyv f i v d t h a) (Lyv f i v d t h a)).run Tryz.prog W = .ok (.bool false) W := by
  simp [go_sem]
set_option maxRecDepth 100000 in
set_option maxHeartbeats 1600000 in
theorem l03Same_t (A B : Option Addr) (n c d : Nat) (ls : List Ly) (w : World) (H : Lys w A n ls) (H' : Lys w B n ls) :
    Calls Tryz.prog 61 #[.slice A n c, .slice B n d] w fun e w' => e = .returned (.bool true) ∧ Below w.heap.size w w' := by
  have hn := H.2.1
  have HH := Lib.hid (And.intro H H')
  clear H H'
  go_enter Tryz.func61, Tryz.ntmps61
  go_wp2_with fail
  go_loopw [5] (fun i wr => ∃ k : Nat, k ≤ n ∧ i = .int .i64 k ∧ Below w.heap.size w wr) (fun i _ => n - (intOf i).toNat)
  case atStart => exact ⟨0, Nat.zero_le _, rfl, Below.refl _ _⟩
  case round =>
    obtain ⟨k, hk, rfl, hbl⟩ := hrel
    by_cases hlt : k < n
    · obtain ⟨b, off, f, i, v, d1, t, h, a, rfl, HX, hc, hb⟩ := (HH.out.1.below hbl).at_ hlt
      obtain ⟨b', off', f', i', v', d', t', h', a', rfl, HX', hc', hb'⟩ := (HH.out.2.below hbl).at_ hlt
      have he := HX.out.symm.trans HX'.out
      simp only [Option.some.injEq, Ly.mk.injEq] at he
      obtain ⟨rfl, rfl, rfl, rfl, rfl, rfl, rfl⟩ := he
      have hki : (k : Int) < (n : Int) := by omega
      have HB := Lib.hid hbl
      obtain ⟨c0, c1, c2, c3, c4, c5, c6⟩ := hc
      obtain ⟨e0, e1, e2, e3, e4, e5, e6⟩ := hc'
      have hne := fun W => neq_ly f i v d1 t h a W
      clear hbl hb hb'
      go_wp2_with fail
      go_quiet (fail)
      go_wp2_with fail
      go_roundw
      case rel => exact ⟨k + 1, by omega, by go_num, below_drewN HB.out _⟩
      case measure => simp [intOf]; omega
    · obtain rfl : k = n := by omega
      have HB := Lib.hid hbl
      clear hbl
      go_wp2_with fail
      go_ret
      exact ⟨rfl, HB.out⟩
theorem SameProfile_t (A B : Option Addr) (n c d : Nat) (ls : List Ly) (w : World) (H : Lys w A n ls) (H' : Lys w B n ls) :
    Calls Tryz.prog 26 #[.slice A n c, .slice B n d] w fun e w' => e = .returned (.bool true) ∧ Below w.heap.size w w' := by
  go_enter Tryz.func26, Tryz.ntmps26
  go_wp2_with fail
  refine (l03Same_t _ _ _ _ _ ls _ H H').mono ?_
  rintro e w1 ⟨rfl, hb⟩
  have HB := Lib.hid hb
  clear hb H H'
  go_wp2_with fail
  go_ret
  exact ⟨rfl, HB.out⟩
/-- Heats under way. -/
def HBag (w : World) (B j : Nat) (o : Value) (js : List Int) : Prop := w.ownsRow B 2 1 o j (js.map (.int .i64)) ∧ Heats js
theorem HBag.src {w w' : World} {B j q : Nat} {o : Value} {js : List Int} (h : HBag w B j o js) (hg : w.grownBy w' (some q)) (hq : q < B) : HBag w' B j o js :=
  ⟨h.1.kept hg (.inr fun e => by have := own_blk h.1 _ e; omega), h.2⟩
theorem hbag_step {w wr w4 : World} {q m B j : Nat} {x : Int} {o v' : Value} {js : List Int} (hs : SrcP wr q m) (hg : w.grownBy wr (some q)) (hbag : HBag wr B j o js) (hx : -100000000 ≤ x ∧ x ≤ 100000000) (hq : q < B) (hB : w.heap.size ≤ B)
    (hown : w4.ownsRow B 2 1 v' (j + 1) ((js ++ [x]).map (.int .i64))) (hgrow : wr.grownBy w4 o.ownBlock) : SrcP w4 q m ∧ w.grownBy w4 (some q) ∧ HBag w4 B (j + 1) v' (js ++ [x]) := by
  refine ⟨hs.grow hgrow (fun g hg => by have := own_blk hbag.1 g hg; omega), grown_newL hg hgrow (fun g hg => by have := own_blk hbag.1 g hg; omega), hown, fun y hy => ?_⟩
  rw [List.mem_append] at hy
  rcases hy with hy | hy
  · exact hbag.2 y hy
  · simp at hy; subst hy; exact hx
end Go.Proofs.YtknppcgoooaaaaaGreatDoor
