/-
  What the row lists of math/bits' table, as the walks ask for it; a world that meets it; no condition.
-/
import Derived.Test.YtcfdadgijnmemaaDoorRows
import Derived.Test.YtcfdadgijnmemaaDoorSetE
import Derived.LaidLaws
import Derived.LaidHandle
import Derived.FnData
import Derived.OpenShut
import Derived.Handed
namespace Go.Proofs.YtcfdadgijnmemaaDoor
open Go.RowKit Go.ChangeShapes
set_option linter.unusedVariables false
set_option linter.unusedSimpArgs false

theorem tabGlobal : Tryd.prog.globalNamed "math/bits.deBruijn64tab" = some 0 := by kernel_rfl
theorem tabType : (Tryd.prog.globals[0]?).map (·.type) = some 66 := by kernel_rfl
def tabList {H : Type} : List (DataW H) := Lib.deBruijn64tab.map fun (n : Nat) => .lit (.int .u8 (n : Int))
theorem tab_datum {H : Type} : (Rows.laid_math_bits_deBruijn64tab : DataW H) = .agg tabList := rfl

theorem tab_of_laid {W : World} (h : laidMetH Tryd.prog [("math/bits.deBruijn64tab", Rows.laid_math_bits_deBruijn64tab)] W) : TabOk W := by
  have h : laidMet Tryd.prog [("math/bits.deBruijn64tab", Rows.laid_math_bits_deBruijn64tab)] W := h
  obtain ⟨ps, ⟨g, t, cs, fuel, p, q, hg, ht, hvar, hd, _, _⟩, _⟩ := h
  obtain rfl := Option.some.inj (tabGlobal.symm.trans hg)
  obtain rfl := Option.some.inj (tabType.symm.trans ht)
  obtain ⟨xs, m, rfl, hx, hlen, hxl, hi⟩ := DataW.trod_array Tryd.underlying66 hd
  have hc5 : Tryd.prog.cellsOf 5 = 1 := by decide +kernel
  have hc64 : Tryd.prog.cellsOf 66 = 64 := by decide +kernel
  rw [hc64] at hlen
  rw [tab_datum] at hx
  have hx1 : tabList = xs.map (·.1) := by
    injection hx with h1 _
    injection h1
  intro j hj
  have hj64 : j < 64 := hj
  have hjc : j < cs.size := by rw [Array.length_toList] at hlen; omega
  have e := hi j hj64
  rw [hc5, Nat.mul_one, List.drop_eq_getElem_cons (by rw [Array.length_toList]; exact hjc), List.getElem?_eq_getElem (by omega)] at e
  simp only [List.take_succ_cons, List.take_zero] at e
  obtain ⟨n, en, exn, _⟩ := DataW.trod_int Tryd.underlying5 e
  have e2 : (xs.map (·.1))[j]? = some (.lit (.int .u8 n)) := by
    rw [List.getElem?_map, List.getElem?_eq_getElem (by omega), exn]; rfl
  rw [← hx1] at e2
  have e3 : (tabList : List (DataW Unit))[j]? = some (.lit (.int .u8 ((Lib.deBruijn64tab.getD j 0 : Nat) : Int))) := by
    unfold tabList
    rw [List.getElem?_map, List.getElem?_eq_getElem (show j < Lib.deBruijn64tab.length from hj)]
    simp [List.getD, List.getElem?_eq_getElem (show j < Lib.deBruijn64tab.length from hj)]
  rw [e3] at e2
  have hn : n = ((Lib.deBruijn64tab.getD j 0 : Nat) : Int) := by
    simp at e2
    exact e2.symm
  rw [World.var?_cell tabGlobal hvar j, Array.getElem?_eq_getElem hjc]
  simp at en
  rw [en, hn]

theorem tab_lt {W : World} (h : TabOk W) : 0 < W.heap.size := by
  have h0 := h 0 (by decide)
  rcases Nat.lt_or_ge 0 W.heap.size with h' | h'
  · exact h'
  · rw [World.cell?, Array.getElem?_eq_none h'] at h0
    simp at h0

/-- A world in which the table is laid. -/
noncomputable def laidWorld (os : Os) : World :=
  { World.holding Tryd.prog os ⟨#[], #[], []⟩ with heap := (World.holding Tryd.prog os ⟨#[], #[], []⟩).heap.modify 0 fun
      | .cells _ t frozen => .cells (Lib.deBruijn64tab.map fun (n : Nat) => Value.int .u8 (n : Int)).toArray t frozen
      | o => o }
theorem laidWorld_met (os : Os) (args : Array Value) : laidMetH Tryd.prog [("math/bits.deBruijn64tab", Rows.laid_math_bits_deBruijn64tab)] ((laidWorld os).forCall (fun _ _ => 0) ⟨#[], args, []⟩).memory :=
  laidMetH_of_parts (laidMet_of_run' 8 (by kernel_rfl) (by kernel_rfl)) (by kernel_rfl)
end Go.Proofs.YtcfdadgijnmemaaDoor
