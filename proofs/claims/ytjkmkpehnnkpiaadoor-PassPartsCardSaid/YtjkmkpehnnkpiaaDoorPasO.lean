/-
  What the rows list of the tables, as the walks ask for it; a world that meets it; arguments that are lists of flags: opened; no condition.
-/
import Derived.Test.YtjkmkpehnnkpiaaDoorLaw
import Derived.Test.YtjkmkpehnnkpiaaDoorPasA
import Derived.LaidLaws
import Derived.LaidHandle
import Derived.LaidSub
import Derived.FnData
import Derived.OpenShut
import Derived.Handed
import Derived.Deep.Slices
import Derived.Deep.Fields
import Derived.ChangeSame
import Derived.ChangeArms
namespace Go.Proofs.YtjkmkpehnnkpiaaDoor
open Go.ChangeShapes Go.WideShapes Go.ChangeAt Go.RowKit Go.Deep
set_option linter.unusedVariables false
set_option linter.unusedSimpArgs false

theorem tabs_of_laid {W : World} (h : laidMetH Tryd.prog [("math/bits.deBruijn32tab", Rows.laid_math_bits_deBruijn32tab), ("math/bits.deBruijn64tab", Rows.laid_math_bits_deBruijn64tab), ("internal/strconv.uint64pow10", Rows.laid_internal_strconv_uint64pow10), ("waypost/flag.codes", Rows.laid_waypost_flag_codes)] W) : Tabs W := by
  have h0 : laidMet Tryd.prog [("math/bits.deBruijn32tab", Rows.laid_math_bits_deBruijn32tab), ("math/bits.deBruijn64tab", Rows.laid_math_bits_deBruijn64tab), ("internal/strconv.uint64pow10", Rows.laid_internal_strconv_uint64pow10), ("waypost/flag.codes", Rows.laid_waypost_flag_codes)] W := h
  have h3 : laidMet Tryd.prog [("waypost/flag.codes", Lib.tabData .i64 [301, 302, 303, 307, 308])] W := h0.filter fun x => x.1 == "waypost/flag.codes"
  have h2 : laidMet Tryd.prog [("internal/strconv.uint64pow10", Lib.tabData .u64 Lib.pow10Tab)] W := h0.filter fun x => x.1 == "internal/strconv.uint64pow10"
  exact ⟨Lib.tabIs_of_head gCodes (by kernel_rfl) Tryd.underlying88 Tryd.underlying3 (by kernel_rfl) (by kernel_rfl) h3,
    Lib.tabIs_of_head gPow (by kernel_rfl) Tryd.underlying103 Tryd.underlying95 (by kernel_rfl) (by kernel_rfl) h2⟩

def litCells : DataW Unit → Array Value
  | .agg l => (l.map fun d => match d with
    | .lit (.int k n) => Value.int k n
    | _ => undef).toArray
  | _ => #[]
def layCells (g : Nat) (d : DataW Unit) (h : Array Obj) : Array Obj := h.modify g fun
  | .cells _ t frozen => .cells (litCells d) t frozen
  | o => o
/-- A world in which the tables are laid. -/
noncomputable def laidWorld (os : Os) : World :=
  { World.holding Tryd.prog os ⟨#[], #[], []⟩ with heap := layCells 2 Rows.laid_math_bits_deBruijn32tab (layCells 3 Rows.laid_math_bits_deBruijn64tab
    (layCells 1 Rows.laid_internal_strconv_uint64pow10 (layCells 0 Rows.laid_waypost_flag_codes (World.holding Tryd.prog os ⟨#[], #[], []⟩).heap))) }
theorem laidWorld_met (os : Os) (args : Array Value) : laidMetH Tryd.prog [("math/bits.deBruijn32tab", Rows.laid_math_bits_deBruijn32tab), ("math/bits.deBruijn64tab", Rows.laid_math_bits_deBruijn64tab), ("internal/strconv.uint64pow10", Rows.laid_internal_strconv_uint64pow10), ("waypost/flag.codes", Rows.laid_waypost_flag_codes)] ((laidWorld os).forCall (fun _ _ => 0) ⟨#[], args, []⟩).memory :=
  laidMetH_of_parts (laidMet_of_run' 8 (by kernel_rfl) (by kernel_rfl)) (by kernel_rfl)

/-- Flags whose skip and code are ints. -/
abbrev FlgW := { f : Flg // (-9223372036854775808 ≤ f.skip ∧ f.skip ≤ 9223372036854775807) ∧ (-9223372036854775808 ≤ f.red ∧ f.red ≤ 9223372036854775807) }
instance : Inhabited FlgW := ⟨⟨default, by decide⟩⟩
theorem list_ten {α : Type} (l : List α) (h : l.length = 10) : ∃ a b c d e f g i j k, l = [a, b, c, d, e, f, g, i, j, k] := by
  match l, h with
  | [a, b, c, d, e, f, g, i, j, k], _ => exact ⟨a, b, c, d, e, f, g, i, j, k, rfl⟩
end Go.Proofs.YtjkmkpehnnkpiaaDoor
