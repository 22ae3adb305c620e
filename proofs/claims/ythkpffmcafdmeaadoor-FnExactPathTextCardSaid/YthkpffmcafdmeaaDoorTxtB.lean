/-
  Texts as arrays of bytes: put together; one text appended to a slice of texts.
-/
import Derived.Test.YthkpffmcafdmeaaDoorTxtM
import Derived.Test.YthkpffmcafdmeaaDoorMem
import Derived.Lib.ItoaLen
import Derived.Test.YthkpffmcafdmeaaDoorArith
namespace Go.Proofs.YthkpffmcafdmeaaDoor
open Go.ChangeShapes Go.WideShapes Go.ChangeAt Go.RowKit Go.Deep
set_option linter.unusedVariables false

theorem decB_len (n : Int) (h0 : -9223372036854775808 ≤ n) (h1 : n ≤ 9223372036854775807) : (decB n).size ≤ 21 := by
  have h2 := Lib.itoa_length_le n h0 h1
  simpa [decB, ByteArray.size] using h2
theorem bA_app (a b : List UInt8) : (⟨a.toArray⟩ : ByteArray) ++ ⟨b.toArray⟩ = ⟨(a ++ b).toArray⟩ := by
  apply ByteArray.ext; simp
theorem bA_lit (c : UInt8) : ({ data := #[c] } : ByteArray) = ⟨([c] : List UInt8).toArray⟩ := rfl
theorem bA_nil (b : ByteArray) : ({ data := #[] } : ByteArray) ++ b = b := by apply ByteArray.ext; simp
theorem join_le {B : Nat} {sep : List UInt8} {xs : List (List UInt8)} (h : ∀ x ∈ xs, x.length ≤ B) : (Lib.join xs sep).length ≤ xs.length * (B + sep.length) := by
  induction xs with
  | nil => simp [Lib.join_nil]
  | cons x r ih =>
    have hx := h x (List.mem_cons_self ..)
    have ih := ih fun y hy => h y (List.mem_cons_of_mem _ hy)
    have e : (x :: r).length * (B + sep.length) = r.length * (B + sep.length) + (B + sep.length) := by rw [List.length_cons, Nat.add_mul, Nat.one_mul]
    rw [e]
    cases r with
    | nil => rw [Lib.join_one]; omega
    | cons y t =>
      rw [join_cons2, List.length_append, List.length_append]
      omega
theorem info_str : (Tryd.prog.info? 9).map (fun i => (i.zero, i.size, i.bytes)) = some (some (.string ByteArray.empty), 1, 16) := by kernel_rfl
theorem wp_app_str {P : Program} {wr : World} {ops : Array Oper} {rest : List Oper} {o : Oper} {a : Act} {Q : Exit → Act → World → Prop} (hgd : o.guard = none) (s x : Operand) (t : TypeId)
    (ho : o.op = .call { callee := .builtin .append, args := #[s, x], argTypes := #[t, t] })
    (base : Nat) (e : TypeId) (ht : P.underlying t = some (.slice e)) (hinfo : (P.info? e).map (fun i => (i.zero, i.size, i.bytes)) = some (some (.string ByteArray.empty), 1, 16))
    (v : Value) (n : Nat) (xs : List ByteArray) (y : ByteArray) (hs : a.eval s = v) (hown : wr.ownsRow base e 1 v n (xs.map .string))
    (hx : a.eval x = .slice (some ⟨wr.heap.size, 0, none⟩) 1 1) (hn : n ≤ 1000000000000) (hbase : base ≤ wr.heap.size)
    (h : ∀ v' w', w'.ownsRow base e 1 v' (n + 1) ((xs ++ [y]).map .string) → wr.grownBy w' v.ownBlock → (∃ g c, v' = .slice (some ⟨g, 0, none⟩) (n + 1) c) → wpList P ops Q rest (a.put o.dst v') w') :
    wpList P ops Q (o :: rest) a (wr.alloc (.cells #[.string y] e)) :=
  wp_app hgd s x t ho base e (.string ByteArray.empty) 1 16 ht hinfo rfl (by omega) v n _ hs hown [.string y] rfl hx (by intro u hu; simp at hu; subst hu; rfl) (by unfold maxLen; omega) (by omega) hbase
    (fun v' w' h1 h2 h3 => h v' w' (by simpa using h1) h2 h3)
end Go.Proofs.YthkpffmcafdmeaaDoor
