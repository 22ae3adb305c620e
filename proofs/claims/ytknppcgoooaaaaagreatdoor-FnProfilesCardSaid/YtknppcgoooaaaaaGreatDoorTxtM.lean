/-
  Texts cut at a byte and joined again, plain. No program in sight.
-/
import Derived.Test.YtknppcgoooaaaaaGreatDoorDecN
import Derived.Lib.Split
import Derived.Lib.SplitLaws
namespace Go.Proofs.YtknppcgoooaaaaaGreatDoor
set_option linter.unusedVariables false

/-- A text cut at each byte c. -/
def spl (c : UInt8) : List UInt8 → List (List UInt8)
  | [] => [[]]
  | x :: r => if x = c then [] :: spl c r else match spl c r with
    | [] => [[x]]
    | y :: t => (x :: y) :: t
theorem spl_ne (c : UInt8) (l : List UInt8) : spl c l ≠ [] := by
  cases l with
  | nil => simp [spl]
  | cons x r => rw [spl]; split <;> (try split) <;> simp
theorem join_cons2 (x y : List UInt8) (r : List (List UInt8)) (sep : List UInt8) : Lib.join (x :: y :: r) sep = x ++ (sep ++ Lib.join (y :: r) sep) := by
  rw [Lib.join_cons, Lib.join_cons]
  simp [Lib.joinTail]
theorem spl_join (c : UInt8) (l : List UInt8) : Lib.join (spl c l) [c] = l := by
  induction l with
  | nil => simp [spl, Lib.join_one]
  | cons x r ih =>
    have hne := spl_ne c r
    rw [spl]
    split
    · rename_i h
      subst h
      match hs : spl x r, hne with
      | y :: t, _ => rw [join_cons2, ← hs, ih]; rfl
    · match hs : spl c r, hne with
      | y :: t, _ =>
        rw [hs] at ih
        cases t with
        | nil => rw [Lib.join_one] at ih ⊢; rw [ih]
        | cons z t => rw [join_cons2] at ih ⊢; rw [← ih]; rfl
theorem spl_free {c : UInt8} {l : List UInt8} (h : c ∉ l) : spl c l = [l] := by
  induction l with
  | nil => rfl
  | cons x r ih =>
    rw [spl, if_neg (fun e => h (by rw [e]; exact List.mem_cons_self ..)), ih (fun hm => h (List.mem_cons_of_mem _ hm))]
theorem spl_app {c : UInt8} {a l : List UInt8} (h : c ∉ a) : spl c (a ++ c :: l) = a :: spl c l := by
  induction a with
  | nil => rw [List.nil_append, spl, if_pos rfl]
  | cons x r ih =>
    rw [List.cons_append, spl, if_neg (fun e => h (by rw [e]; exact List.mem_cons_self ..)), ih (fun hm => h (List.mem_cons_of_mem _ hm))]
/-- What was joined is cut as it was. -/
theorem join_spl {c : UInt8} {xs : List (List UInt8)} (hne : xs ≠ []) (h : ∀ x ∈ xs, c ∉ x) : spl c (Lib.join xs [c]) = xs := by
  induction xs with
  | nil => exact absurd rfl hne
  | cons x r ih =>
    cases r with
    | nil => rw [Lib.join_one, spl_free (h x (List.mem_cons_self ..))]
    | cons y t =>
      rw [join_cons2, List.singleton_append, spl_app (h x (List.mem_cons_self ..)), ih (by simp) (fun z hz => h z (List.mem_cons_of_mem _ hz))]
theorem index_free {c : UInt8} {l : List UInt8} (h : c ∉ l) : Lib.index l [c] = -1 := by
  induction l with
  | nil => rfl
  | cons b r ih =>
    have hb : ¬ c = b := fun e => h (by rw [e]; exact List.mem_cons_self ..)
    have i := ih (fun hm => h (List.mem_cons_of_mem _ hm))
    unfold Lib.index
    rw [i]
    simp [List.isPrefixOf, hb]
theorem index_at {c : UInt8} {a l : List UInt8} (h : c ∉ a) : Lib.index (a ++ c :: l) [c] = (a.length : Int) := by
  induction a with
  | nil => simp [Lib.index, List.isPrefixOf]
  | cons b r ih =>
    have hb : ¬ c = b := fun e => h (by rw [e]; exact List.mem_cons_self ..)
    have i := ih (fun hm => h (List.mem_cons_of_mem _ hm))
    rw [List.cons_append]
    unfold Lib.index
    rw [i]
    have h1 : ¬ (r.length : Int) = -1 := by omega
    simp [List.isPrefixOf, hb, h1]
/-- SplitN at one byte: its pieces, where they are few. -/
theorem splitK_join {c : UInt8} {xs : List (List UInt8)} (hne : xs ≠ []) (h : ∀ x ∈ xs, c ∉ x) : ∀ K, xs.length ≤ K + 1 → Lib.splitK [c] 0 K (Lib.join xs [c]) = xs := by
  induction xs with
  | nil => exact absurd rfl hne
  | cons x r ih =>
    intro K hK
    have hx := h x (List.mem_cons_self ..)
    cases r with
    | nil =>
      rw [Lib.join_one]
      cases K with
      | zero => rfl
      | succ k =>
        unfold Lib.splitK
        rw [index_free hx]; rfl
    | cons y t =>
      rw [join_cons2, List.singleton_append]
      cases K with
      | zero => simp at hK
      | succ k =>
        unfold Lib.splitK
        rw [index_at hx]
        have h1 : ((x.length : Int) == -1) = false := by rw [beq_eq_false_iff_ne]; omega
        rw [h1, Int.toNat_natCast]
        have e1 : (x ++ c :: Lib.join (y :: t) [c]).take (x.length + 0) = x := by simp
        have e2 : (x ++ c :: Lib.join (y :: t) [c]).drop (x.length + [c].length) = Lib.join (y :: t) [c] := by
          rw [List.drop_append]; simp
        rw [e1, e2, ih (by simp) (fun z hz => h z (List.mem_cons_of_mem _ hz)) k (by simpa using hK)]
        rfl
/-- Cut at the first c. -/
theorem cut_at {c : UInt8} {a l : List UInt8} (h : c ∉ a) : Lib.cut (a ++ c :: l) [c] = (a, l, true) := by
  unfold Lib.cut
  rw [index_at h, if_pos (by omega), Int.toNat_natCast, List.drop_append]
  simp
theorem cut_free {c : UInt8} {l : List UInt8} (h : c ∉ l) : Lib.cut l [c] = (l, [], false) := by
  unfold Lib.cut
  rw [index_free h, if_neg (by decide)]
theorem itoa_mem {n : Int} {c : UInt8} (h : c ∈ Lib.itoa n) : c = 45 ∨ (48 ≤ c.toNat ∧ c.toNat ≤ 57) := by
  rcases itoa_cases n with ⟨u, rfl, e⟩ | ⟨u, hu, rfl, e⟩
  · rw [e] at h; exact Or.inr ((dec_can u).dig c h)
  · rw [e] at h
    rcases List.mem_cons.1 h with h | h
    · exact Or.inl h
    · exact Or.inr ((dec_can u).dig c h)
theorem itoa_free {n : Int} {c : UInt8} (h1 : c ≠ 45) (h2 : c.toNat < 48 ∨ 57 < c.toNat) : c ∉ Lib.itoa n := fun h => by
  rcases itoa_mem h with h | h
  · exact h1 h
  · omega
theorem itoa_ne (n : Int) : Lib.itoa n ≠ [] := by
  rcases itoa_cases n with ⟨u, rfl, e⟩ | ⟨u, hu, rfl, e⟩
  · rw [e]; exact (dec_can u).ne
  · rw [e]; simp
/-- A text that is cut in k pieces. -/
theorem spl_len (c : UInt8) (l : List UInt8) : (spl c l).length = l.count c + 1 := by
  induction l with
  | nil => rfl
  | cons x r ih =>
    have hne := spl_ne c r
    rw [spl]
    split
    · rename_i h; subst h; simp [ih]
    · rename_i h
      match hs : spl c r, hne with
      | y :: t, _ =>
        rw [hs] at ih
        have e1 : List.count c (x :: r) = List.count c r := by rw [List.count_cons]; simp [h]
        rw [e1]
        simpa using ih
/-- All of them read. -/
def allF {α : Type} (f : List UInt8 → Option α) : List (List UInt8) → Option (List α)
  | [] => some []
  | x :: r => match f x, allF f r with
    | some n, some t => some (n :: t)
    | _, _ => none
theorem allF_iff {α : Type} {f : List UInt8 → Option α} {l : List (List UInt8)} {xs : List α} : allF f l = some xs ↔ l.map f = xs.map some := by
  induction l generalizing xs with
  | nil => cases xs <;> simp [allF]
  | cons x r ih =>
    rw [allF]
    cases h1 : f x with
    | none => cases xs <;> simp [h1]
    | some n =>
      cases h2 : allF f r with
      | none =>
        cases xs with
        | nil => simp
        | cons y t =>
          simp only [List.map_cons, h1, List.cons.injEq]
          constructor
          · intro h; cases h
          · rintro ⟨_, h3⟩
            have := ih.2 h3
            rw [h2] at this; cases this
      | some t =>
        cases xs with
        | nil => simp
        | cons y t' =>
          simp only [List.map_cons, h1, List.cons.injEq, Option.some.injEq]
          rw [← ih, h2, Option.some.injEq]
theorem allF_none {α : Type} {f : List UInt8 → Option α} {l : List (List UInt8)} {k : Nat} {x : List UInt8} (h : l[k]? = some x) (hx : f x = none) : allF f l = none := by
  cases h1 : allF f l with
  | none => rfl
  | some xs =>
    have h2 := allF_iff.1 h1
    have h3 : (l.map f)[k]? = some none := by rw [List.getElem?_map, h]; simp [hx]
    rw [h2, List.getElem?_map] at h3
    cases h4 : xs[k]? <;> rw [h4] at h3 <;> simp at h3
theorem allF_text {α : Type} {f : List UInt8 → Option α} {g : α → List UInt8} (hf : ∀ w a, f w = some a → g a = w) {l : List (List UInt8)} {xs : List α} (h : allF f l = some xs) : l = xs.map g := by
  have h2 := allF_iff.1 h
  clear h
  induction l generalizing xs with
  | nil => cases xs with
    | nil => rfl
    | cons y t => simp at h2
  | cons x r ih =>
    cases xs with
    | nil => simp at h2
    | cons y t =>
      simp only [List.map_cons, List.cons.injEq] at h2
      rw [List.map_cons, hf x y h2.1, ← ih h2.2]
theorem allF_mem {α : Type} {f : List UInt8 → Option α} {l : List (List UInt8)} {xs : List α} (h : allF f l = some xs) : ∀ x ∈ xs, ∃ w, f w = some x := by
  have h2 := allF_iff.1 h
  intro x hx
  have : some x ∈ l.map f := by rw [h2]; exact List.mem_map.2 ⟨x, hx, rfl⟩
  obtain ⟨w, _, h3⟩ := List.mem_map.1 this
  exact ⟨w, h3⟩
theorem allF_of {α : Type} {f : List UInt8 → Option α} {g : α → List UInt8} {xs : List α} (h : ∀ x ∈ xs, f (g x) = some x) : allF f (xs.map g) = some xs := by
  refine allF_iff.2 ?_
  rw [List.map_map]
  exact List.map_congr_left fun x hx => h x hx
theorem allF_snoc {α : Type} {f : List UInt8 → Option α} {l : List (List UInt8)} {xs : List α} {x : List UInt8} {n : α} (h : allF f l = some xs) (hx : f x = some n) : allF f (l ++ [x]) = some (xs ++ [n]) := by
  rw [allF_iff] at h ⊢
  rw [List.map_append, List.map_append, h]; simp [hx]
theorem allF_step {α : Type} {f : List UInt8 → Option α} {l : List (List UInt8)} {xs : List α} {k : Nat} {x : List UInt8} {n : α} (h : allF f (l.take k) = some xs) (hk : l[k]? = some x) (hx : f x = some n) : allF f (l.take (k + 1)) = some (xs ++ [n]) := by
  rw [List.take_add_one, hk]
  exact allF_snoc h hx
theorem rd_text : ∀ w n, rd w = some n → Lib.itoa n = w := fun w n h => (rd_iff.1 h).1
/-- A list that has a text. -/
def fitsB (xs : List Int) : Bool := decide (xs.length ≤ 64) && xs.all fun x => decide (-1000000000000 ≤ x) && decide (x ≤ 1000000000000)
theorem fits_iff {xs : List Int} : fitsB xs = true ↔ xs.length ≤ 64 ∧ ∀ x ∈ xs, -1000000000000 ≤ x ∧ x ≤ 1000000000000 := by
  simp [fitsB]
/-- A list of numbers as a text. -/
def lstT (xs : List Int) : List UInt8 := if xs = [] then [45] else Lib.join (xs.map Lib.itoa) [44]
/-- The list with a text. -/
def rl (s : List UInt8) : Option (List Int) := if s = [45] then some [] else match allF rd (spl 44 s) with
  | some xs => if fitsB xs = true then some xs else none
  | none => none
theorem free44 (xs : List Int) : ∀ x ∈ xs.map Lib.itoa, (44 : UInt8) ∉ x := by
  intro x hx
  obtain ⟨n, _, rfl⟩ := List.mem_map.1 hx
  exact itoa_free (by decide) (by decide)
theorem spl_lst {xs : List Int} (h : xs ≠ []) : spl 44 (Lib.join (xs.map Lib.itoa) [44]) = xs.map Lib.itoa :=
  join_spl (by simpa using h) (free44 xs)
theorem join_ne45 {xs : List Int} (h : xs ≠ []) : Lib.join (xs.map Lib.itoa) [44] ≠ [45] := by
  intro e
  have h1 := spl_lst h
  rw [e] at h1
  have h2 : spl 44 [45] = [[45]] := by decide
  rw [h2] at h1
  match xs, h with
  | x :: r, _ =>
    simp only [List.map_cons, List.cons.injEq] at h1
    have h3 := h1.1
    rcases itoa_cases x with ⟨u, rfl, e2⟩ | ⟨u, hu, rfl, e2⟩
    · have := (dec_can u).dig 45 (by rw [← e2, ← h3]; simp)
      have : (45 : UInt8).toNat = 45 := rfl
      omega
    · rw [e2] at h3
      simp only [List.cons.injEq, true_and] at h3
      exact (dec_can u).ne h3.symm
theorem rl_iff {s : List UInt8} {xs : List Int} : rl s = some xs ↔ fitsB xs = true ∧ lstT xs = s := by
  constructor
  · intro h
    unfold rl at h
    split at h
    · rename_i h1
      cases h
      exact ⟨by decide, h1.symm⟩
    · rename_i h1
      cases h2 : allF rd (spl 44 s) with
      | none => rw [h2] at h; cases h
      | some ys =>
        rw [h2] at h
        simp only at h
        split at h
        · rename_i h3
          cases h
          have h4 := allF_text rd_text h2
          have hne : xs ≠ [] := by
            intro e; subst e
            exact spl_ne 44 s h4
          refine ⟨h3, ?_⟩
          rw [lstT, if_neg hne, ← h4, spl_join]
        · cases h
  · rintro ⟨h1, rfl⟩
    by_cases hne : xs = []
    · subst hne; rfl
    · have h2 := (fits_iff.1 h1).2
      rw [lstT, if_neg hne, rl, if_neg (join_ne45 hne), spl_lst hne, allF_of (f := rd) (g := Lib.itoa) fun x hx => by have := h2 x hx; exact rd_itoa (by omega) (by omega)]
      simp [h1]
theorem rl_text {xs : List Int} (h : fitsB xs = true) : rl (lstT xs) = some xs := rl_iff.2 ⟨h, rfl⟩
theorem spl_le (c : UInt8) (s : List UInt8) : (spl c s).length ≤ s.length + 1 := by
  rw [spl_len]
  have := List.count_le_length (a := c) (l := s)
  omega
/-- The program's pieces, at a text that is a list's. -/
theorem pieces_lst {xs : List Int} (h : fitsB xs = true) (hne : xs ≠ []) : Lib.splitK [44] 0 (min 65 ((lstT xs).length + 1) - 1) (lstT xs) = xs.map Lib.itoa := by
  have h1 := (fits_iff.1 h).1
  have h2 := spl_le 44 (lstT xs)
  rw [lstT, if_neg hne] at h2 ⊢
  rw [spl_lst hne, List.length_map] at h2
  exact splitK_join (by simpa using hne) (free44 xs) _ (by rw [List.length_map]; omega)
/-- What the program reads, put together: its pieces are numbers and the list's text is the text. -/
theorem rl_prog {s : List UInt8} (hs : s ≠ [45]) : rl s = match allF rd (Lib.splitK [44] 0 (min 65 (s.length + 1) - 1) s) with
    | some xs => if fitsB xs = true ∧ lstT xs = s then some xs else none
    | none => none := by
  cases h : rl s with
  | some xs =>
    obtain ⟨h1, rfl⟩ := rl_iff.1 h
    have hne : xs ≠ [] := fun e => hs (by subst e; rfl)
    have h2 := (fits_iff.1 h1).2
    rw [pieces_lst h1 hne, allF_of (f := rd) (g := Lib.itoa) fun x hx => by have := h2 x hx; exact rd_itoa (by omega) (by omega)]
    simp [h1]
  | none =>
    cases h2 : allF rd (Lib.splitK [44] 0 (min 65 (s.length + 1) - 1) s) with
    | none => rfl
    | some xs =>
      simp only
      split
      · rename_i h3
        rw [rl_iff.2 h3] at h; cases h
      · rfl
end Go.Proofs.YtknppcgoooaaaaaGreatDoor
