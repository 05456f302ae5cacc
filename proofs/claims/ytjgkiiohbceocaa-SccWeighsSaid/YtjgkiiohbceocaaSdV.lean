/-
  Arguments that are lists of numbers: opened; no condition.
-/
import Derived.Test.YtjgkiiohbceocaaSdN
import Derived.Test.YtjgkiiohbceocaaSdU
import Derived.Carry
namespace Go.Proofs.Ytjgkiiohbceocaa
open Go.ChangeShapes Go.WideShapes Go.ChangeAt Go.RowKit Go.Deep
set_option linter.unusedVariables false
set_option linter.unusedSimpArgs false

abbrev NumW := { z : Int // -9223372036854775808 ≤ z ∧ z ≤ 9223372036854775807 }
instance : Inhabited NumW := ⟨⟨0, by decide⟩⟩
section
variable {H : Type} {enc : TypeId × Value → H} {w : World} {base b0 : Nat} {spare : Nat → Bool} {held : Bool}
set_option maxRecDepth 100000 in
theorem open_intl {v : Value} {d : DataW H} {ps : List MemPlace} (hval : Value.okWide Try.prog w .any b0 25 v) (hd : DataW.Trod enc Try.prog w base spare held 25 v d ps) :
    ∃ (l : List Int) (A : Option Addr) (c : Nat), v = .slice A l.length c ∧ Cells w A 1 l.length (intsAt l) ∧ ∀ x ∈ l, -9223372036854775808 ≤ x ∧ x ≤ 9223372036854775807 := by
  obtain ⟨A, n, c, G, hv, hA, hc⟩ := open_cells (m := 1) (by decide) NumW (fun b _ => .int .i64 b.val) Try.underlying25 (by decide +kernel) (fun cs' n y hl h => by
    obtain ⟨z, rfl, _, hw⟩ := DataW.trod_int Try.underlying3 h
    refine ⟨⟨z, bounds_i64 hw⟩, fun j hj => ?_⟩
    obtain rfl : j = 0 := by omega
    rfl) hval hd
  refine ⟨(List.range n).map fun i => (G i).val, A, c, by rw [hv]; simp, ?_, fun x hx => ?_⟩
  · intro hn
    rw [List.length_map, List.length_range] at hn
    obtain ⟨b, o, h1, h2, h3⟩ := hc hn
    refine ⟨b, o, h1, h2, fun i j hi hj => ?_⟩
    rw [List.length_map, List.length_range] at hi
    rw [h3 i j hi hj]
    unfold intsAt
    rw [List.getD_eq_getElem?_getD, List.getElem?_map, List.getElem?_range hi]; rfl
  · obtain ⟨i, _, rfl⟩ := List.mem_map.1 hx
    exact (G i).property
end
end Go.Proofs.Ytjgkiiohbceocaa
