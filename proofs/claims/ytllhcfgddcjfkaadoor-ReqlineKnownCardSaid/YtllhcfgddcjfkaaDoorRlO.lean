/-
  The rows' own world: the library's variable is an int, the tables are laid; an argument that is a request line: opened; no condition.
-/
import Derived.Test.YtllhcfgddcjfkaaDoorOpen
import Derived.Test.YtllhcfgddcjfkaaDoorRlA
import Derived.LaidLaws
import Derived.LaidHandle
import Derived.LaidSub
import Derived.HandedShaped
import Derived.FnData
import Derived.OpenShut
import Derived.Handed
namespace Go.Proofs.YtllhcfgddcjfkaaDoor
open Go.ChangeShapes Go.WideShapes Go.ChangeAt Go.RowKit Go.Deep
set_option linter.unusedVariables false
set_option linter.unusedSimpArgs false

theorem maxOk_of_shape {W : World} (h : W.ShapedOpen Tryd.prog) : MaxOk W := Tryd.laysM219.s1_3 W h

/-- What is asked beside the arguments. -/
abbrev LaidX (w : World) : Prop := laidMetH Tryd.prog [("unicode/utf8.acceptRanges", Rows.laid_unicode_utf8_acceptRanges), ("unicode/utf8.first", Rows.laid_unicode_utf8_first)] w
/-- The wrap that hands on the world's shape, beside what is listed. -/
theorem wrap_shaped {H : Type} {enc : TypeId × Value → H} {C : Checked} {os : Os} {f : FuncId} {fn : Func} {s : ChangeSpec} {conds : List PathCond} {apart fresh handsOn again : Bool} {X : World → Array Value → Prop}
    (own : ownKnob C.prog.godebug = none) (started : os.Started) (noInit : C.prog.inits.idxOf? f = none) (hfn : C.prog.funcs[f]? = some fn)
    (witness : ∃ (w : World) (tape : Tape) (i : Input), w.os = os ∧ (w.forCall tape i).Shaped C.prog ∧ i.vars = [] ∧ Input.okWide C.prog (w.forCall tape i) .any w.heap.size f i ∧
      ((s.pre enc C.prog fn conds apart (w.forCall tape i).memory i.args ∧ X (w.forCall tape i).memory i.args) ∧ sizedMet enc C.prog fn (OpenSpec.ofChange s) apart (w.forCall tape i).memory i.args) ∧ ({} : Assume).holds C.prog (lone (Frame.enter C.prog f i.args .normal) [] (w.forCall tape i)))
    (contract : ∀ (W : World) (base : Nat) (args : Array Value) (ds gs : List (DataW H)) (before : List MemPlace),
      (∀ (j : Nat) t v, fn.params[j]? = some t → args[j]? = some v → Value.okWide C.prog W .any base t v) →
      DataW.Whole enc C.prog fn.params.toList s.vars apart W args.toList ds gs before → W.ShapedOpen C.prog →
      Calls C.prog f args W fun e W' => ∃ v, e = .returned v ∧ s.post enc C.prog fn apart fresh handsOn again W args v W') :
    ReturnsInHanded {} C os f .any (fun w args => (s.pre enc C.prog fn conds apart w args ∧ X w args) ∧ sizedMet enc C.prog fn (OpenSpec.ofChange s) apart w args) (s.post enc C.prog fn apart fresh handsOn again) := by
  refine returnsInHanded_of_calls own started noInit witness ?_
  intro w tape i _ hsh _ hok hpre hholds
  obtain ⟨_, _, _, fn', hfn', _, _, _, _, hval⟩ := hok
  have e : fn' = fn := Option.some.inj (hfn'.symm.trans hfn)
  subst e
  obtain ⟨⟨⟨ds, gs, before, hw, hc⟩, hx⟩, hz⟩ := hpre
  have hw' := DataW.Whole.of_heap (w' := w.forCall tape i) (by rfl) hw
  refine (contract (w.forCall tape i) w.heap.size i.args ds gs before hval hw' hsh).mono fun e W' ⟨v, he, hp⟩ => ?_
  subst he
  exact ChangeSpec.post_blind hp

def litFlat : Nat → DataW Unit → List Value
  | 0, _ => []
  | n + 1, d => match d with
    | .agg l => l.flatMap (litFlat n)
    | .lit (.int k x) => [Value.int k x]
    | _ => []
def layCells (g : Nat) (d : DataW Unit) (h : Array Obj) : Array Obj := h.modify g fun
  | .cells _ t frozen => .cells (litFlat 4 d).toArray t frozen
  | o => o
/-- A world in which the tables are laid. -/
noncomputable def laidWorld (os : Os) : World :=
  { World.holding Tryd.prog os ⟨#[], #[], []⟩ with heap := layCells 2 Rows.laid_unicode_utf8_acceptRanges (layCells 1 Rows.laid_unicode_utf8_first (World.holding Tryd.prog os ⟨#[], #[], []⟩).heap) }
theorem laidWorld_met (os : Os) (args : Array Value) : LaidX ((laidWorld os).forCall (fun _ _ => 0) ⟨#[], args, []⟩).memory :=
  laidMetH_of_parts (laidMet_of_run' 8 (by kernel_rfl) (by kernel_rfl)) (by kernel_rfl)

section
variable {H : Type} {enc : TypeId × Value → H} {w : World} {base b0 : Nat} {spare : Nat → Bool} {held : Bool}
theorem size_two {cs : Array Value} {a b : Value} (hs : cs.size = 2) (h0 : cs[0]? = some a) (h1 : cs[1]? = some b) : cs = #[a, b] := by
  obtain ⟨l⟩ := cs
  match l, hs with
  | [x, y], _ =>
    simp at h0 h1
    subst h0 h1
    rfl
theorem field_string {P : Program} {t tb : TypeId} {fs : Array Field} {n : Nat} {cs : List Value} {x : DataW H × List MemPlace} (hu : P.underlying t = some (.struct fs)) (hone : oneCellFields P fs = true) (h : DataW.trod enc P w base spare held n t cs = some x)
    (hb : P.underlying tb = some .string) (j : Nat) (f : Field) (hf : fs[j]? = some f) (ht : f.type = tb) : ∃ s : ByteArray, cs[j]? = some (.string s) ∧ s.size ≤ maxLen := by
  obtain ⟨n', y, hy⟩ := open_field hu hone h j f hf
  rw [ht] at hy
  obtain ⟨s, hv, _, hs⟩ := DataW.trod_string hb hy
  exact ⟨s, take_one hv, hs⟩
set_option maxRecDepth 100000 in
theorem open_line {v : Value} {d : DataW H} {ps : List MemPlace} (hval : Value.okWide Tryd.prog w .any b0 29 v) (hd : DataW.Trod enc Tryd.prog w base spare held 29 v d ps) :
    ∃ a b : ByteArray, v = .agg #[.string a, .string b] ∧ a.size ≤ 9223372036854775807 ∧ b.size ≤ 9223372036854775807 := by
  obtain ⟨fs, hu, hone, hty⟩ : ∃ fs, Tryd.prog.underlying 29 = some (.struct fs) ∧ oneCellFields Tryd.prog fs = true ∧ (fs.map (fun x : Field => x.type)).toList = [9, 9] := ⟨_, Tryd.underlying29, by kernel_rfl, by kernel_rfl⟩
  have hj : ∀ j t, [9, 9][j]? = some t → ∃ f : Field, fs[j]? = some f ∧ f.type = t := fun j t ht => by
    rw [← hty, Array.getElem?_toList, Array.getElem?_map] at ht
    cases hf : fs[j]? with
    | none => rw [hf] at ht; cases ht
    | some f => rw [hf] at ht; exact ⟨f, hf, by simpa using ht⟩
  obtain ⟨cs, rfl, hsz⟩ : ∃ cs, v = .agg cs ∧ cs.size = 2 := by
    simp only [Value.okWide, hu] at hval
    obtain ⟨cs, h1, h2, _⟩ := hval
    exact ⟨cs, h1, by rw [h2]; decide +kernel⟩
  obtain ⟨fuel, h⟩ := hd
  obtain ⟨f0, hf0, ht0⟩ := hj 0 _ rfl
  obtain ⟨f1, hf1, ht1⟩ := hj 1 _ rfl
  obtain ⟨a, e0, w0⟩ := field_string hu hone h Tryd.underlying9 0 f0 hf0 ht0
  obtain ⟨b, e1, w1⟩ := field_string hu hone h Tryd.underlying9 1 f1 hf1 ht1
  refine ⟨a, b, ?_, by unfold maxLen at w0; omega, by unfold maxLen at w1; omega⟩
  rw [size_two hsz (by simpa [Value.cells] using e0) (by simpa [Value.cells] using e1)]
end
end Go.Proofs.YtllhcfgddcjfkaaDoor
