/-
  What a law that lists seven of the library's variables wants at its last step: a world that meets the list, and what the list says.
-/
import Derived.Test.YtknppcgoooaaaaaGreatDoorLiftC
import Derived.Test.YtknppcgoooaaaaaGreatDoorRdI
import Derived.Lay
import Derived.LaidLaws
import Derived.ChangeMaps5
import Derived.Shelf.Vars
namespace Go.Proofs.YtknppcgoooaaaaaGreatDoor
open Go.ChangeShapes Go.WideShapes Go.ChangeAt Go.RowKit
set_option linter.unusedVariables false

def tabs7 : List (String × DataW Unit) := [("math/bits.deBruijn32tab", Rows.laid_math_bits_deBruijn32tab), ("math/bits.deBruijn64tab", Rows.laid_math_bits_deBruijn64tab), ("internal/strconv.uint64pow10", Rows.laid_internal_strconv_uint64pow10), ("unicode/utf8.acceptRanges", Rows.laid_unicode_utf8_acceptRanges), ("strconv.ErrRange", Rows.laid_strconv_ErrRange), ("strconv.ErrSyntax", Rows.laid_strconv_ErrSyntax), ("unicode/utf8.first", Rows.laid_unicode_utf8_first)]
set_option maxRecDepth 100000 in
theorem all_shaped (os : Os) : (World.laidAll Tryz.prog os tabs7).Shaped Tryz.prog := World.shaped_of_ZipB (by kernel_rfl) (by kernel_rfl)
set_option maxRecDepth 100000 in
theorem all_met (os : Os) (args : Array Value) : laidMetH Tryz.prog tabs7 ((World.laidAll Tryz.prog os tabs7).forCall (fun _ _ => 0) ⟨#[], args, []⟩).memory := by
  rw [MakeChecks.laidMetH_plain _ _ _ (by kernel_rfl)]
  exact laidMet_laidAll _ (by kernel_rfl) (by kernel_rfl)
theorem star_err : "*" ++ "errors.errorString" = "*errors.errorString" := by decide
theorem env_ofLaid {W : World} (hL : laidMetH Tryz.prog tabs7 W) (hsh : W.ShapedOpen Tryz.prog) : Env W := by
  rw [MakeChecks.laidMetH_plain _ _ _ (by kernel_rfl)] at hL
  have h3 := laidMet.tail (laidMet.tail hL)
  have h5 := laidMet.tail (laidMet.tail h3)
  have hrow : ∀ u, Tryz.prog.typeName? 3 u = some "*errors.errorString" → u = 166 := fun u h =>
    typeName_ptr_named (nm := "errors.errorString") (by rw [star_err]; kernel_rfl) (by kernel_rfl) (by decide) u (by rw [star_err]; exact h)
  obtain ⟨a, s, hv, _⟩ := laid_sentinel h5 (show Tryz.prog.globalNamed "strconv.ErrRange" = some 2 by kernel_rfl) (show (Tryz.prog.globals[2]?).map (·.type) = some 102 by kernel_rfl) Tryz.underlying102 hrow Tryz.underlying166 Tryz.underlying168 rfl rfl Tryz.underlying9 (by kernel_rfl) (by kernel_rfl)
  obtain ⟨a2, s2, hv2, _⟩ := laid_sentinel h5.tail (show Tryz.prog.globalNamed "strconv.ErrSyntax" = some 1 by kernel_rfl) (show (Tryz.prog.globals[1]?).map (·.type) = some 102 by kernel_rfl) Tryz.underlying102 hrow Tryz.underlying166 Tryz.underlying168 rfl rfl Tryz.underlying9 (by kernel_rfl) (by kernel_rfl)
  exact ⟨Lib.tabIs_of_head (rest := tabs7.drop 3) gPow tPow Tryz.underlying159 Tryz.underlying93 (by kernel_rfl) (by kernel_rfl) h3, ⟨_, _, hv2⟩, ⟨_, _, hv⟩,
    cell_of_shapedOpen_int (P := Tryz.prog) (g := 0) (t := 3) (zero := #[.int .i64 0]) hsh (of_decide_eq_true (by kernel_rfl)) (by kernel_rfl) rfl (by kernel_rfl) (by kernel_rfl) Tryz.underlying3⟩
end Go.Proofs.YtknppcgoooaaaaaGreatDoor
