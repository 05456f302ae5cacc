/-
  The rows' own world: the variable ErrSyntax holds an interface value, the tables and sentinels are laid; no condition.
-/
import Derived.Test.YtpicenopiigfpaaDoorWrp
import Derived.Test.YtpicenopiigfpaaDoorRwE
import Derived.LaidMore
import Derived.Stop.LaidErr
namespace Go.Proofs.YtpicenopiigfpaaDoor
open Go.ChangeShapes Go.WideShapes Go.ChangeAt Go.RowKit Go.Deep
set_option linter.unusedVariables false
set_option linter.unusedSimpArgs false

/-- What is asked beside the arguments. -/
abbrev LaidX (w : World) : Prop := laidMetH Tryd.prog [("math/bits.deBruijn32tab", Rows.laid_math_bits_deBruijn32tab), ("math/bits.deBruijn64tab", Rows.laid_math_bits_deBruijn64tab), ("internal/strconv.uint64pow10", Rows.laid_internal_strconv_uint64pow10), ("unicode/utf8.acceptRanges", Rows.laid_unicode_utf8_acceptRanges), ("strconv.ErrRange", Rows.laid_strconv_ErrRange), ("strconv.ErrSyntax", Rows.laid_strconv_ErrSyntax), ("unicode/utf8.first", Rows.laid_unicode_utf8_first)] w
/-- A world in which the tables and the sentinels are laid. -/
noncomputable def laidWorld (os : Os) : World :=
  { World.doorLaid Tryd.prog 72 os with heap := layCells 3 Rows.laid_unicode_utf8_first (World.doorLaid Tryd.prog 72 os).heap }
theorem laidWorld_met (os : Os) (args : Array Value) : LaidX ((laidWorld os).forCall (fun _ _ => 0) ⟨#[], args, []⟩).memory :=
  laidMetH_of_parts3 (fuel := 8) (laidMet_of_run' 8 (by kernel_rfl) (by kernel_rfl)) (by kernel_rfl) (by kernel_rfl)
theorem errv_of_laid {W : World} (h : LaidX W) : ErrV W 0 := by
  have h1 : laidMet Tryd.prog [("math/bits.deBruijn32tab", Rows.laid_math_bits_deBruijn32tab), ("math/bits.deBruijn64tab", Rows.laid_math_bits_deBruijn64tab), ("internal/strconv.uint64pow10", Rows.laid_internal_strconv_uint64pow10), ("unicode/utf8.acceptRanges", Rows.laid_unicode_utf8_acceptRanges), ("strconv.ErrRange", Rows.laid_strconv_ErrRange), ("strconv.ErrSyntax", Rows.laid_strconv_ErrSyntax), ("unicode/utf8.first", Rows.laid_unicode_utf8_first)] W := h
  obtain ⟨ps, ⟨g, t, cs, fuel, p, q, hg, ht, hv, hd, _⟩, _⟩ := h1.tail.tail.tail.tail.tail
  obtain rfl : g = 0 := Option.some.inj (hg.symm.trans (show Tryd.prog.globalNamed "strconv.ErrSyntax" = some 0 by kernel_rfl))
  obtain rfl : t = 74 := Option.some.inj (ht.symm.trans (show (Tryd.prog.globals[0]?).map (·.type) = some 74 by kernel_rfl))
  obtain ⟨f', u, v, hcs, _⟩ := iface_of_trod Tryd.underlying74 hd
  obtain ⟨l⟩ := cs
  subst hcs
  exact ⟨_, by simpa using World.var?_cell (show Tryd.prog.globalNamed "strconv.ErrSyntax" = some 0 by kernel_rfl) hv 0, .inr ⟨u, v, rfl⟩⟩
end Go.Proofs.YtpicenopiigfpaaDoor
