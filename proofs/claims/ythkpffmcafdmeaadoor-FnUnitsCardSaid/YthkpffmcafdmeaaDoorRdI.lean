/-
  Numbers read: the program's ReadDecimal.
-/
import Derived.Test.YthkpffmcafdmeaaDoorDecI
import Derived.Test.YthkpffmcafdmeaaDoorTxtB
import Derived.Test.YthkpffmcafdmeaaDoorShR
namespace Go.Proofs.YthkpffmcafdmeaaDoor
open Go.ChangeShapes Go.WideShapes Go.ChangeAt Go.RowKit Go.Deep
set_option linter.unusedVariables false

/-- What the library's variables hold that its readers of numbers ask for. -/
structure Env (w : World) : Prop where
  tab : Tab w
  syn : ∃ tp p, w.var? Tryd.prog "strconv.ErrSyntax" = some #[.iface tp p]
  rng : ∃ tp p, w.var? Tryd.prog "strconv.ErrRange" = some #[.iface tp p]
  mx : ∃ m, w.cell? ⟨0, 0, none⟩ = some (.int .i64 m)
theorem var_below {P : Program} {w w' : World} {name : String} {v : Array Value} (h : w.var? P name = some v) (hb : Below w.heap.size w w') : w'.var? P name = some v := by
  unfold World.var? at *
  cases hg : P.globalNamed name with
  | none => simp [hg] at h
  | some g =>
    simp only [hg, Option.bind_some] at h ⊢
    have hlt : g < w.heap.size := by
      rcases Nat.lt_or_ge g w.heap.size with h' | h'
      · exact h'
      · rw [Array.getElem?_eq_none h'] at h; simp at h
    rw [hb.block g hlt]
    exact h
theorem Env.below {w w' : World} (h : Env w) (hb : Below w.heap.size w w') : Env w' := by
  obtain ⟨t, ⟨a, b, s⟩, ⟨c, d, r⟩, m, x⟩ := h
  exact ⟨t.below hb, ⟨a, b, var_below s hb⟩, ⟨c, d, var_below r hb⟩, m, cell_kept hb x⟩
def rdV (l : List UInt8) : Int := (rd l).getD 0
def rdB (l : List UInt8) : Bool := (rd l).isSome
theorem rdV_some {l : List UInt8} {n : Int} (h : rd l = some n) : rdV l = n ∧ rdB l = true := by simp [rdV, rdB, h]
theorem rdV_none {l : List UInt8} (h : rd l = none) : rdV l = 0 ∧ rdB l = false := by simp [rdV, rdB, h]
set_option maxRecDepth 100000 in
set_option maxHeartbeats 3200000 in
theorem ReadDecimal_i (s : ByteArray) (w : World) (h : Env w) (hs : s.size ≤ 1000000000) :
    Calls Tryd.prog 37 #[.string s] w fun e w' => e = .returned (.tuple #[.int .i64 (rdV s.data.toList), .bool (rdB s.data.toList)]) ∧ Below w.heap.size w w' := by
  have HE := Lib.hid h
  clear h
  cases hp : Lib.parseIntB 64 s.data.toList with
  | range =>
    obtain ⟨r1, r2⟩ := rdV_none (rd_range hp)
    rw [r1, r2]
    obtain ⟨tp, p, hv⟩ := HE.out.rng
    have HK := Lib.hid (Tryd.strconv_ParseInt_10_at64_range_var s (by omega) hp tp p w hv)
    clear hp r1 r2 hv
    go_enter Tryd.func37, Tryd.ntmps37
    go_wp2_with fail
    refine HK.out.mono ?_
    rintro e w1 ⟨N, rfl, _, _, hb⟩
    have H1 := Lib.hid hb
    clear hb
    go_wp2_with fail
    go_ret2
    exact ⟨rfl, H1.out⟩
  | ok v =>
    have hro := rd_ok hp
    have hbd := Lib.parseIntB_bounds hp
    have h63 : (2 : Nat) ^ (64 - 1) = 9223372036854775808 := by decide
    rw [h63] at hbd
    obtain ⟨v1, v2⟩ := hbd
    have HK := Lib.hid ((Tryd.strconv_ParseInt_10_at64_ok s (by omega) v hp w).mono (fun e w' (h : _ ∧ _) => (show e = .returned (.tuple #[.int .i64 v, .nilIface]) ∧ Below w.heap.size w w' from ⟨h.1, by
      rcases h.2 with h1 | ⟨t, h1⟩
      · rw [h1]; exact Below.refl _ _
      · rw [h1]; exact Lib.bytesWorld_below _ _ _⟩)))
    have HTP := fun (W : World) => Lib.hid (Tryd.strings_TrimPrefix s { data := #[45] } W)
    obtain ⟨P, hP⟩ : ∃ P : ByteArray, P = ⟨(Lib.trimPrefix s.data.toList [45]).toArray⟩ := ⟨_, rfl⟩
    have hPs : P.size = (Lib.trimPrefix s.data.toList [45]).length := by rw [hP]; simp [ByteArray.size]
    have HTQ := fun (W : World) => Lib.hid ((HTP W).out.mono (fun e w' (h : _ ∧ _) => (show e = .returned (.string P) ∧ W = w' from ⟨by rw [h.1, hP], h.2.symm⟩)))
    have hv1 : -9223372036854775808 ≤ v := by omega
    have hv2 : v ≤ 9223372036854775807 := by omega
    by_cases hl : (Lib.trimPrefix s.data.toList [45]).length ≤ 18
    · have hPl : P.size ≤ 18 := by omega
      by_cases he : Lib.itoa v = s.data.toList
      · rw [if_pos ⟨hl, he⟩] at hro
        obtain ⟨r1, r2⟩ := rdV_some hro
        rw [r1, r2]
        have hS : decB v = s := by rw [decB, he, Lib.mk_data]
        have HD := fun (W : World) (hW : Tab W) => Lib.hid ((Decimal_i v W hW hv1 hv2).mono (fun e w' (h : _ ∧ _) => (show e = .returned (.string s) ∧ Below W.heap.size W w' from ⟨by rw [h.1, hS], h.2⟩)))
        clear HTP hp hro r1 r2 hP hPs hl he hS v1 v2 h63
        go_enter Tryd.func37, Tryd.ntmps37
        go_wp2_with fail
        refine HK.out.mono ?_
        rintro e w1 ⟨rfl, hb1⟩
        have H1 := Lib.hid hb1
        clear hb1
        go_wp2_with fail
        refine (HTQ _).out.mono ?_
        rintro e w' ⟨rfl, rfl⟩
        go_wp2_with fail
        refine (HD _ (HE.out.tab.below H1.out)).out.mono ?_
        rintro e w2 ⟨rfl, hb2⟩
        have H2 := Lib.hid (H1.out.trans (hb2.mono H1.out.size))
        clear hb2
        go_wp2_with fail
        go_ret2
        exact ⟨rfl, H2.out⟩
      · rw [if_neg (fun h => he h.2)] at hro
        obtain ⟨r1, r2⟩ := rdV_none hro
        rw [r1, r2]
        obtain ⟨S, hS⟩ : ∃ S, S = decB v := ⟨_, rfl⟩
        have hne : S ≠ s := fun e => he (by rw [← e, hS]; rfl)
        have hb1 : (S.toList == s.toList) = false := (Lib.bytes_beq_false_iff S s).2 hne
        have hb2 : (S.toList != s.toList) = true := by simp [bne, hb1]
        have HD := fun (W : World) (hW : Tab W) => Lib.hid ((Decimal_i v W hW hv1 hv2).mono (fun e w' (h : _ ∧ _) => (show e = .returned (.string S) ∧ Below W.heap.size W w' from ⟨by rw [h.1, hS], h.2⟩)))
        clear HTP hp hro r1 r2 hP hPs hl he hS v1 v2 h63 hne
        go_enter Tryd.func37, Tryd.ntmps37
        go_wp2_with fail
        refine HK.out.mono ?_
        rintro e w1 ⟨rfl, hbb⟩
        have H1 := Lib.hid hbb
        clear hbb
        go_wp2_with fail
        refine (HTQ _).out.mono ?_
        rintro e w' ⟨rfl, rfl⟩
        go_wp2_with fail
        refine (HD _ (HE.out.tab.below H1.out)).out.mono ?_
        rintro e w2 ⟨rfl, hbb⟩
        have H2 := Lib.hid (H1.out.trans (hbb.mono H1.out.size))
        clear hbb
        go_wp2_with fail
        go_ret2
        exact ⟨rfl, H2.out⟩
    · have hPl : 18 < P.size := by omega
      have hPm : (18 : Int) < (P.size : Int) := by omega
      rw [if_neg (fun h => hl h.1)] at hro
      obtain ⟨r1, r2⟩ := rdV_none hro
      rw [r1, r2]
      clear HTP hp hro r1 r2 hP hPs hl v1 v2 h63
      go_enter Tryd.func37, Tryd.ntmps37
      go_wp2_with fail
      refine HK.out.mono ?_
      rintro e w1 ⟨rfl, hb1⟩
      have H1 := Lib.hid hb1
      clear hb1
      go_wp2_with fail
      refine (HTQ _).out.mono ?_
      rintro e w' ⟨rfl, rfl⟩
      go_wp2_with fail
      go_ret2
      exact ⟨rfl, H1.out⟩
  | _ =>
    obtain ⟨r1, r2⟩ := rdV_none (rd_other hp)
    rw [r1, r2]
    obtain ⟨tp, p, hv⟩ := HE.out.syn
    have HK := Lib.hid (Tryd.strconv_ParseInt_10_at64_syntax_var s (by omega) hp tp p w hv)
    clear hp r1 r2 hv
    go_enter Tryd.func37, Tryd.ntmps37
    go_wp2_with fail
    refine HK.out.mono ?_
    rintro e w1 ⟨N, rfl, _, _, hb⟩
    have H1 := Lib.hid hb
    clear hb
    go_wp2_with fail
    go_ret2
    exact ⟨rfl, H1.out⟩
end Go.Proofs.YthkpffmcafdmeaaDoor
