/-
  Arguments that are lists of flags, of answers: opened; no condition.
-/
import Derived.Test.YtjkmkpehnnkpiaaDoorOpen
import Derived.Test.YtjkmkpehnnkpiaaDoorPasO
import Derived.Test.YtjkmkpehnnkpiaaDoorPasJ
namespace Go.Proofs.YtjkmkpehnnkpiaaDoor
open Go.ChangeShapes Go.WideShapes Go.ChangeAt Go.RowKit Go.Deep
set_option linter.unusedVariables false
set_option linter.unusedSimpArgs false

section
variable {H : Type} {enc : TypeId × Value → H} {w : World} {base b0 : Nat} {spare : Nat → Bool} {held : Bool}
set_option maxRecDepth 100000 in
theorem open_flags {v : Value} {d : DataW H} {ps : List MemPlace} (hval : Value.okWide Tryd.prog w .any b0 22 v) (hd : DataW.Trod enc Tryd.prog w base spare held 22 v d ps) :
    ∃ A n c, ∃ F : Nat → Flg, SkipOk F ∧ v = .slice A n c ∧ ArgOk A n c ∧ Cells w A 10 n (flgAt F) := by
  obtain ⟨A, n, c, G, hv, hA, hc⟩ := open_cells (m := 10) (by decide) FlgW (fun f j => ([Value.bool f.val.last, .bool f.val.next, .bool f.val.chain, .bool f.val.fin, .bool f.val.forb, .bool f.val.gone, .bool f.val.app, .bool f.val.disc, .int .i64 f.val.skip, .int .i64 f.val.red] : List Value).getD j (.bool false)) Tryd.underlying22 (by decide +kernel) (fun cs' n y hl h => by
    obtain ⟨fs, hu, hone, hty⟩ : ∃ fs, Tryd.prog.underlying 54 = some (.struct fs) ∧ oneCellFields Tryd.prog fs = true ∧ (fs.map (fun x : Field => x.type)).toList = [4, 4, 4, 4, 4, 4, 4, 4, 3, 3] := ⟨_, Tryd.underlying54, by kernel_rfl, by kernel_rfl⟩
    have hj : ∀ j t, [4, 4, 4, 4, 4, 4, 4, 4, 3, 3][j]? = some t → (fs[j]?).map (fun x : Field => x.type) = some t := fun j t ht => by
      rw [← hty, Array.getElem?_toList, Array.getElem?_map] at ht
      exact ht
    obtain ⟨b0, e0⟩ := field_bool hu hone h Tryd.underlying4 0 (hj 0 _ rfl)
    obtain ⟨b1, e1⟩ := field_bool hu hone h Tryd.underlying4 1 (hj 1 _ rfl)
    obtain ⟨b2, e2⟩ := field_bool hu hone h Tryd.underlying4 2 (hj 2 _ rfl)
    obtain ⟨b3, e3⟩ := field_bool hu hone h Tryd.underlying4 3 (hj 3 _ rfl)
    obtain ⟨b4, e4⟩ := field_bool hu hone h Tryd.underlying4 4 (hj 4 _ rfl)
    obtain ⟨b5, e5⟩ := field_bool hu hone h Tryd.underlying4 5 (hj 5 _ rfl)
    obtain ⟨b6, e6⟩ := field_bool hu hone h Tryd.underlying4 6 (hj 6 _ rfl)
    obtain ⟨b7, e7⟩ := field_bool hu hone h Tryd.underlying4 7 (hj 7 _ rfl)
    obtain ⟨z8, e8, w8⟩ := field_int hu hone h Tryd.underlying3 8 (hj 8 _ rfl)
    obtain ⟨z9, e9, w9⟩ := field_int hu hone h Tryd.underlying3 9 (hj 9 _ rfl)
    refine ⟨⟨⟨b0, b1, b2, b3, b4, b5, b6, b7, z8, z9⟩, w8, w9⟩, fun j hj => ?_⟩
    have hj' : j = 0 ∨ j = 1 ∨ j = 2 ∨ j = 3 ∨ j = 4 ∨ j = 5 ∨ j = 6 ∨ j = 7 ∨ j = 8 ∨ j = 9 := by omega
    rcases hj' with rfl | rfl | rfl | rfl | rfl | rfl | rfl | rfl | rfl | rfl <;> assumption) hval hd
  exact ⟨A, n, c, fun i => (G i).val, fun i => (G i).property.1, hv, hA, hc⟩
set_option maxRecDepth 100000 in
theorem open_boolsC {v : Value} {d : DataW H} {ps : List MemPlace} (hval : Value.okWide Tryd.prog w .any b0 31 v) (hd : DataW.Trod enc Tryd.prog w base spare held 31 v d ps) :
    ∃ A n c, ∃ G : Nat → Bool, v = .slice A n c ∧ ArgOk A n c ∧ Cells w A 1 n (boolAt G) := by
  obtain ⟨A, n, c, G, hv, hA, hc⟩ := open_cells (m := 1) (by decide) Bool (fun b _ => .bool b) Tryd.underlying31 (by decide +kernel) (fun cs' n y hl h => by
    obtain ⟨b, rfl, _⟩ := DataW.trod_bool Tryd.underlying4 h
    refine ⟨b, fun j hj => ?_⟩
    obtain rfl : j = 0 := by omega
    rfl) hval hd
  exact ⟨A, n, c, G, hv, hA, hc⟩
end
end Go.Proofs.YtjkmkpehnnkpiaaDoor
