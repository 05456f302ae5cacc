/-
  Arguments that are lists of numbers: opened; no condition.
-/
import Derived.Test.YtjkmkpehnnkpiaaDoorOpen
import Derived.Test.YtjkmkpehnnkpiaaDoorPasO
import Derived.Test.YtjkmkpehnnkpiaaDoorPasY
namespace Go.Proofs.YtjkmkpehnnkpiaaDoor
open Go.ChangeShapes Go.WideShapes Go.ChangeAt Go.RowKit Go.Deep
set_option linter.unusedVariables false
set_option linter.unusedSimpArgs false

abbrev NumW := { z : Int // -9223372036854775808 ≤ z ∧ z ≤ 9223372036854775807 }
instance : Inhabited NumW := ⟨⟨0, by decide⟩⟩
section
variable {H : Type} {enc : TypeId × Value → H} {w : World} {base b0 : Nat} {spare : Nat → Bool} {held : Bool}
set_option maxRecDepth 100000 in
theorem open_numsC {v : Value} {d : DataW H} {ps : List MemPlace} (hval : Value.okWide Tryd.prog w .any b0 40 v) (hd : DataW.Trod enc Tryd.prog w base spare held 40 v d ps) :
    ∃ A n c, ∃ G : Nat → Int, NumOk G ∧ v = .slice A n c ∧ ArgOk A n c ∧ Cells w A 1 n (numAt G) := by
  obtain ⟨A, n, c, G, hv, hA, hc⟩ := open_cells (m := 1) (by decide) NumW (fun b _ => .int .i64 b.val) Tryd.underlying40 (by decide +kernel) (fun cs' n y hl h => by
    obtain ⟨z, rfl, _, hw⟩ := DataW.trod_int Tryd.underlying3 h
    refine ⟨⟨z, bounds_i64 hw⟩, fun j hj => ?_⟩
    obtain rfl : j = 0 := by omega
    rfl) hval hd
  exact ⟨A, n, c, fun i => (G i).val, fun i => (G i).property, hv, hA, hc⟩
end
end Go.Proofs.YtjkmkpehnnkpiaaDoor
