/-
  The rows' own world: the library's variable is an int, the tables are laid; an argument that is a list of pairs: opened; no condition.
-/
import Derived.Test.YtfbkbnojbbpopaaDoorWrp
import Derived.Test.YtfbkbnojbbpopaaDoorQyM
namespace Go.Proofs.YtfbkbnojbbpopaaDoor
open Go.ChangeShapes Go.WideShapes Go.ChangeAt Go.RowKit Go.Deep
set_option linter.unusedVariables false
set_option linter.unusedSimpArgs false

theorem maxOk_of_shape {W : World} (h : W.ShapedOpen Tryd.prog) : MaxOk W := Tryd.laysM219.s1_3 W h

/-- What is asked beside the arguments. -/
abbrev LaidX (w : World) : Prop := laidMetH Tryd.prog [("unicode/utf8.acceptRanges", Rows.laid_unicode_utf8_acceptRanges), ("unicode/utf8.first", Rows.laid_unicode_utf8_first)] w
/-- A world in which the tables are laid. -/
noncomputable def laidWorld (os : Os) : World :=
  { World.holding Tryd.prog os ⟨#[], #[], []⟩ with heap := (layCells 1 Rows.laid_unicode_utf8_first (layCells 2 Rows.laid_unicode_utf8_acceptRanges (World.holding Tryd.prog os ⟨#[], #[], []⟩).heap)) }
theorem laidWorld_met (os : Os) (args : Array Value) : LaidX ((laidWorld os).forCall (fun _ _ => 0) ⟨#[], args, []⟩).memory :=
  laidMetH_of_parts (laidMet_of_run' 8 (by kernel_rfl) (by kernel_rfl)) (by kernel_rfl)

/-- A pair of strings of at most so many bytes. -/
abbrev PrW := { p : Pr // p.n.size ≤ 9223372036854775807 ∧ p.v.size ≤ 9223372036854775807 }
instance : Inhabited PrW := ⟨⟨⟨⟨#[]⟩, ⟨#[]⟩, false⟩, by decide⟩⟩
section
variable {H : Type} {enc : TypeId × Value → H} {w : World} {base b0 : Nat} {spare : Nat → Bool} {held : Bool}
set_option maxRecDepth 100000 in
theorem el_pair (cs : List Value) (n : Nat) (y : DataW H × List MemPlace) (hl : cs.length = 3) (h : DataW.trod enc Tryd.prog w base spare held n 44 cs = some y) :
    ∃ p : PrW, ∀ j, j < 3 → cs[j]? = some ((((pairV p.val)[j]?).getD (.bool false))) := by
  obtain ⟨fs, hu, hone, hty⟩ : ∃ fs, Tryd.prog.underlying 44 = some (.struct fs) ∧ oneCellFields Tryd.prog fs = true ∧ (fs.map (fun x : Field => x.type)).toList = [9, 9, 4] := ⟨_, Tryd.underlying44, by kernel_rfl, by kernel_rfl⟩
  have hj : ∀ j t, [9, 9, 4][j]? = some t → (fs[j]?).map (fun x : Field => x.type) = some t := fun j t ht => by
    rw [← hty, Array.getElem?_toList, Array.getElem?_map] at ht
    exact ht
  obtain ⟨s0, e0, w0⟩ := field_str hu hone h Tryd.underlying9 0 (hj 0 _ rfl)
  obtain ⟨s1, e1, w1⟩ := field_str hu hone h Tryd.underlying9 1 (hj 1 _ rfl)
  obtain ⟨b2, e2⟩ := field_bool hu hone h Tryd.underlying4 2 (hj 2 _ rfl)
  refine ⟨⟨⟨s0, s1, b2⟩, w0, w1⟩, fun j hj => ?_⟩
  match j, hj with
  | 0, _ => exact e0
  | 1, _ => exact e1
  | 2, _ => exact e2
set_option maxRecDepth 100000 in
theorem open_pairs {v : Value} {d : DataW H} {ps : List MemPlace} (hval : Value.okWide Tryd.prog w .any b0 26 v) (hd : DataW.Trod enc Tryd.prog w base spare held 26 v d ps) :
    ∃ A cap, ∃ l : List Pr, v = .slice A l.length cap ∧ ArgOk A l.length cap ∧ Cells w A 3 l.length (prAt l) ∧ ∀ p ∈ l, p.n.size ≤ 9223372036854775807 ∧ p.v.size ≤ 9223372036854775807 := by
  obtain ⟨A, len, cap, G, rfl, hA, hc⟩ := open_cells (m := 3) (by decide) PrW (fun p j => ((pairV p.val)[j]?).getD (.bool false)) Tryd.underlying26 (by kernel_rfl) el_pair hval hd
  obtain ⟨l, hl⟩ : ∃ l : List Pr, l = (List.range len).map fun i => (G i).val := ⟨_, rfl⟩
  have hlen : l.length = len := by rw [hl]; simp
  refine ⟨A, cap, l, by rw [hlen], by rw [hlen]; exact hA, ?_, ?_⟩
  · rw [hlen]
    intro hn
    obtain ⟨a, o, e, hlt, h⟩ := hc hn
    refine ⟨a, o, e, hlt, fun i j hi hj => ?_⟩
    rw [h i j hi hj]
    unfold prAt
    have : l[i]? = some (G i).val := by rw [hl]; simp [hi]
    rw [this]
  · intro p hp
    rw [hl] at hp
    obtain ⟨i, _, rfl⟩ := List.mem_map.1 hp
    exact (G i).property
end
end Go.Proofs.YtfbkbnojbbpopaaDoor
