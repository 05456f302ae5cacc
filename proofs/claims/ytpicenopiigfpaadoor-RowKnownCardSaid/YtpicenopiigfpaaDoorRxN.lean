/-
  What the numbers ask of the world, out of what is laid; no condition.
-/
import Derived.Test.YtpicenopiigfpaaDoorRwW
import Derived.Test.YtpicenopiigfpaaDoorRxJ
namespace Go.Proofs.YtpicenopiigfpaaDoor
open Go.ChangeShapes Go.WideShapes Go.ChangeAt Go.RowKit Go.Deep
set_option linter.unusedVariables false
set_option linter.unusedSimpArgs false

theorem numOk_of_laid {W : World} (h : LaidX W) : NumOk W := by
  have h1 : laidMet Tryd.prog [("math/bits.deBruijn32tab", Rows.laid_math_bits_deBruijn32tab), ("math/bits.deBruijn64tab", Rows.laid_math_bits_deBruijn64tab), ("internal/strconv.uint64pow10", Rows.laid_internal_strconv_uint64pow10), ("unicode/utf8.acceptRanges", Rows.laid_unicode_utf8_acceptRanges), ("strconv.ErrRange", Rows.laid_strconv_ErrRange), ("strconv.ErrSyntax", Rows.laid_strconv_ErrSyntax), ("unicode/utf8.first", Rows.laid_unicode_utf8_first)] W := h
  have e0 := errv_of_laid h
  refine ⟨e0, ?_, ?_, ?_⟩
  · obtain ⟨ps, ⟨g, t, cs, fuel, p, q, hg, ht, hv, hd, _⟩, _⟩ := h1.tail.tail.tail.tail
    obtain rfl : g = 1 := Option.some.inj (hg.symm.trans (show Tryd.prog.globalNamed "strconv.ErrRange" = some 1 by kernel_rfl))
    obtain rfl : t = 74 := Option.some.inj (ht.symm.trans (show (Tryd.prog.globals[1]?).map (·.type) = some 74 by kernel_rfl))
    obtain ⟨f', u, v, hcs, _⟩ := iface_of_trod Tryd.underlying74 hd
    obtain ⟨l⟩ := cs
    subst hcs
    exact ⟨_, by simpa using World.var?_cell (show Tryd.prog.globalNamed "strconv.ErrRange" = some 1 by kernel_rfl) hv 0, .inr ⟨u, v, rfl⟩⟩
  · have hd : (Rows.laid_internal_strconv_uint64pow10 : DataW Unit) = Lib.tabData .u64 Lib.pow10Tab := by first | rfl | kernel_rfl
    have h2 := h1.tail.tail
    rw [hd] at h2
    exact Lib.tabIs_of_head (show Tryd.prog.globalNamed "internal/strconv.uint64pow10" = some 2 by kernel_rfl) (show (Tryd.prog.globals[2]?).map (·.type) = some 124 by kernel_rfl) Tryd.underlying124 Tryd.underlying92 (by kernel_rfl) (by kernel_rfl) h2
  · intro g hg
    obtain ⟨ps, ⟨g', t, cs, fuel, p, q, hg', ht, hv, hd, _⟩, _⟩ := h1.tail.tail
    obtain rfl := Option.some.inj (hg.symm.trans hg')
    unfold World.var? at hv
    rw [hg, Option.bind_some] at hv
    rcases Nat.lt_or_ge g W.heap.size with h | h
    · exact h
    · rw [Array.getElem?_eq_none h] at hv; cases hv
end Go.Proofs.YtpicenopiigfpaaDoor
