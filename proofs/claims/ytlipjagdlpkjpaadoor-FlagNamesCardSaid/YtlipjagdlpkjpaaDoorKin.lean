/-
  A region that draws its order, whose operations only read, and whose callees may make memory but leave what was there: ONE walk, in the order of the text.
  The class of worlds of the kit's Derived/Deep/Quiet.lean is here: the worlds that have w's blocks as w has them.
-/
import Derived.Test.YtlipjagdlpkjpaaDoorBase
import Derived.BigQuiet
namespace Go.Proofs.YtlipjagdlpkjpaaDoor
open Go.RowKit

/-- A world in which w's blocks are as in w. -/
structure Kin (w : World) where
  world : World
  below : Below w.heap.size w world

instance (w : World) : Nonempty (Kin w) := ⟨⟨w, Below.refl _ _⟩⟩

theorem Kin.cell {w : World} {a : Addr} {v : Value} (h : a.block < w.heap.size) (hc : w.cell? a = some v) (x : Kin w) : x.world.cell? a = some v := by
  rw [x.below.cell h]; exact hc

theorem Blk.kin {w : World} {g : Nat} {t : TypeId} {cs : Array Value} (h : Blk w g t cs) {i : Nat} {v : Value} (hv : cs[i]? = some v) : ∀ x : Kin w, x.world.cell? ⟨g, i, none⟩ = some v :=
  fun x => (Below.cell (p := ⟨g, i, none⟩) x.below h.lt).trans (h.cell' hv)

theorem Calls.kin_of {P : Program} {f : FuncId} {args : Array Value} {w : World} {x : Kin w} {v : Value}
    (h : Calls P f args x.world fun e w' => e = .returned v ∧ Below x.world.heap.size x.world w') : Calls P f args x.world fun e w'' => e = .returned v ∧ ∃ y : Kin w, w'' = y.world :=
  h.mono fun _ _ ⟨he, hb⟩ => ⟨he, ⟨_, gr_call x.below hb⟩, rfl⟩

theorem wp_region_kin_lit {P : Program} {id : Nat} {Q : Exit → Act → World → Prop} {a : Act} {w : World} {l : List Oper} (hm : P.follows .mixedOrders = true) (hB : Region.lexB .any l.toArray = true)
    (h : wpQuiet P l.toArray (fun w' => ∃ x : Kin w, w' = x.world) (fun a' => ∀ w', (∃ x : Kin w, w' = x.world) → Q .normal a' w') l a) : (Code.region id l.toArray true).wp P Q a w :=
  wp_region_quiet (C := fun w' => ∃ x : Kin w, w' = x.world) hm hB ⟨⟨w.drew, gr_drew (Below.refl _ _)⟩, rfl⟩ (by simpa using h)

/-- The walk's end: what stands behind the region, in whatever world of the class. -/
theorem kin_end {P : Program} {ops : Array Oper} {w : World} {R : Act → World → Prop} {a : Act} (h : ∀ x : Kin w, R a x.world) :
    wpQuiet P ops (fun w' => ∃ x : Kin w, w' = x.world) (fun a' => ∀ w', (∃ x : Kin w, w' = x.world) → R a' w') [] a := by
  refine wpQuiet_nil ?_
  rintro _ ⟨x, rfl⟩
  exact h x
end Go.Proofs.YtlipjagdlpkjpaaDoor
