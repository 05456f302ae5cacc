/-
  The rows' own world: the library's variable is an int, the tables are laid; an argument that is flags, or a list of names: opened; no condition.
-/
import Derived.Test.YtlipjagdlpkjpaaDoorOpen
import Derived.Test.YtlipjagdlpkjpaaDoorFtB
import Derived.Test.YtlipjagdlpkjpaaDoorFtK
import Derived.LaidLaws
import Derived.LaidHandle
import Derived.LaidSub
import Derived.HandedShaped
import Derived.FnData
import Derived.OpenShut
import Derived.Handed
namespace Go.Proofs.YtlipjagdlpkjpaaDoor
open Go.ChangeShapes Go.WideShapes Go.ChangeAt Go.RowKit Go.Deep
set_option linter.unusedVariables false
set_option linter.unusedSimpArgs false

theorem maxOk_of_shape {W : World} (h : W.ShapedOpen Tryd.prog) : MaxOk W := Tryd.laysM219.s1_3 W h

/-- What is asked beside the arguments. -/
abbrev LaidX (w : World) : Prop := laidMetH Tryd.prog [("math/bits.deBruijn32tab", Rows.laid_math_bits_deBruijn32tab), ("math/bits.deBruijn64tab", Rows.laid_math_bits_deBruijn64tab), ("internal/strconv.uint64pow10", Rows.laid_internal_strconv_uint64pow10), ("unicode/utf8.acceptRanges", Rows.laid_unicode_utf8_acceptRanges), ("waypost/flag.codes", Rows.laid_waypost_flag_codes), ("unicode/utf8.first", Rows.laid_unicode_utf8_first)] w
theorem tabs_of_laid {W : World} (h : LaidX W) : Tabs W := by
  have h0 : laidMet Tryd.prog [("math/bits.deBruijn32tab", Rows.laid_math_bits_deBruijn32tab), ("math/bits.deBruijn64tab", Rows.laid_math_bits_deBruijn64tab), ("internal/strconv.uint64pow10", Rows.laid_internal_strconv_uint64pow10), ("unicode/utf8.acceptRanges", Rows.laid_unicode_utf8_acceptRanges), ("waypost/flag.codes", Rows.laid_waypost_flag_codes), ("unicode/utf8.first", Rows.laid_unicode_utf8_first)] W := h
  have h3 : laidMet Tryd.prog [("waypost/flag.codes", Lib.tabData .i64 [301, 302, 303, 307, 308])] W := h0.filter fun x => x.1 == "waypost/flag.codes"
  have h2 : laidMet Tryd.prog [("internal/strconv.uint64pow10", Lib.tabData .u64 Lib.pow10Tab)] W := h0.filter fun x => x.1 == "internal/strconv.uint64pow10"
  exact ⟨Lib.tabIs_of_head gCodes (by kernel_rfl) Tryd.underlying66 Tryd.underlying3 (by kernel_rfl) (by kernel_rfl) h3,
    Lib.tabIs_of_head gPow (by kernel_rfl) Tryd.underlying119 Tryd.underlying106 (by kernel_rfl) (by kernel_rfl) h2⟩
/-- The wrap that hands on the world's shape, beside what is listed. -/
theorem wrap_shaped {H : Type} {enc : TypeId × Value → H} {C : Checked} {os : Os} {f : FuncId} {fn : Func} {s : ChangeSpec} {conds : List PathCond} {apart fresh handsOn again : Bool} {X : World → Array Value → Prop}
    (own : ownKnob C.prog.godebug = none) (started : os.Started) (noInit : C.prog.inits.idxOf? f = none) (hfn : C.prog.funcs[f]? = some fn)
    (witness : ∃ (w : World) (tape : Tape) (i : Input), w.os = os ∧ (w.forCall tape i).Shaped C.prog ∧ i.vars = [] ∧ Input.okWide C.prog (w.forCall tape i) .any w.heap.size f i ∧
      ((s.pre enc C.prog fn conds apart (w.forCall tape i).memory i.args ∧ X (w.forCall tape i).memory i.args) ∧ sizedMet enc C.prog fn (OpenSpec.ofChange s) apart (w.forCall tape i).memory i.args) ∧ ({} : Assume).holds C.prog (lone (Frame.enter C.prog f i.args .normal) [] (w.forCall tape i)))
    (contract : ∀ (W : World) (base : Nat) (args : Array Value) (ds gs : List (DataW H)) (before : List MemPlace),
      (∀ (j : Nat) t v, fn.params[j]? = some t → args[j]? = some v → Value.okWide C.prog W .any base t v) →
      DataW.Whole enc C.prog fn.params.toList s.vars apart W args.toList ds gs before → W.ShapedOpen C.prog →
      Calls C.prog f args W fun e W' => ∃ v, e = .returned v ∧ s.post enc C.prog fn apart fresh handsOn again W args v W') :
    ReturnsInHanded {} C os f .any (fun w args => (s.pre enc C.prog fn conds apart w args ∧ X w args) ∧ sizedMet enc C.prog fn (OpenSpec.ofChange s) apart w args) (s.post enc C.prog fn apart fresh handsOn again) := by
  refine returnsInHanded_of_calls own started noInit witness ?_
  intro w tape i _ hsh _ hok hpre hholds
  obtain ⟨_, _, _, fn', hfn', _, _, _, _, hval⟩ := hok
  have e : fn' = fn := Option.some.inj (hfn'.symm.trans hfn)
  subst e
  obtain ⟨⟨⟨ds, gs, before, hw, hc⟩, hx⟩, hz⟩ := hpre
  have hw' := DataW.Whole.of_heap (w' := w.forCall tape i) (by rfl) hw
  refine (contract (w.forCall tape i) w.heap.size i.args ds gs before hval hw' hsh).mono fun e W' ⟨v, he, hp⟩ => ?_
  subst he
  exact ChangeSpec.post_blind hp

/-- The same, with what is listed. -/
theorem wrap_shaped_laid {H : Type} {enc : TypeId × Value → H} {C : Checked} {os : Os} {f : FuncId} {fn : Func} {s : ChangeSpec} {conds : List PathCond} {apart fresh handsOn again : Bool} {X : World → Array Value → Prop}
    (own : ownKnob C.prog.godebug = none) (started : os.Started) (noInit : C.prog.inits.idxOf? f = none) (hfn : C.prog.funcs[f]? = some fn)
    (witness : ∃ (w : World) (tape : Tape) (i : Input), w.os = os ∧ (w.forCall tape i).Shaped C.prog ∧ i.vars = [] ∧ Input.okWide C.prog (w.forCall tape i) .any w.heap.size f i ∧
      ((s.pre enc C.prog fn conds apart (w.forCall tape i).memory i.args ∧ X (w.forCall tape i).memory i.args) ∧ sizedMet enc C.prog fn (OpenSpec.ofChange s) apart (w.forCall tape i).memory i.args) ∧ ({} : Assume).holds C.prog (lone (Frame.enter C.prog f i.args .normal) [] (w.forCall tape i)))
    (hX : ∀ (a b : World) args, b.heap = a.heap → X a args → X b args)
    (contract : ∀ (W : World) (base : Nat) (args : Array Value) (ds gs : List (DataW H)) (before : List MemPlace),
      (∀ (j : Nat) t v, fn.params[j]? = some t → args[j]? = some v → Value.okWide C.prog W .any base t v) →
      DataW.Whole enc C.prog fn.params.toList s.vars apart W args.toList ds gs before → W.ShapedOpen C.prog → X W args →
      Calls C.prog f args W fun e W' => ∃ v, e = .returned v ∧ s.post enc C.prog fn apart fresh handsOn again W args v W') :
    ReturnsInHanded {} C os f .any (fun w args => (s.pre enc C.prog fn conds apart w args ∧ X w args) ∧ sizedMet enc C.prog fn (OpenSpec.ofChange s) apart w args) (s.post enc C.prog fn apart fresh handsOn again) := by
  refine returnsInHanded_of_calls own started noInit witness ?_
  intro w tape i _ hsh _ hok hpre hholds
  obtain ⟨_, _, _, fn', hfn', _, _, _, _, hval⟩ := hok
  have e : fn' = fn := Option.some.inj (hfn'.symm.trans hfn)
  subst e
  obtain ⟨⟨⟨ds, gs, before, hw, hc⟩, hx⟩, hz⟩ := hpre
  have hw' := DataW.Whole.of_heap (w' := w.forCall tape i) (by rfl) hw
  refine (contract (w.forCall tape i) w.heap.size i.args ds gs before hval hw' hsh (hX (w.forCall tape i).memory _ _ (by rfl) hx)).mono fun e W' ⟨v, he, hp⟩ => ?_
  subst he
  exact ChangeSpec.post_blind hp

def litFlat : Nat → DataW Unit → List Value
  | 0, _ => []
  | n + 1, d => match d with
    | .agg l => l.flatMap (litFlat n)
    | .lit (.int k x) => [Value.int k x]
    | _ => []
def layCells (g : Nat) (d : DataW Unit) (h : Array Obj) : Array Obj := h.modify g fun
  | .cells _ t frozen => .cells (litFlat 4 d).toArray t frozen
  | o => o
/-- A world in which the tables are laid. -/
noncomputable def laidWorld (os : Os) : World :=
  { World.holding Tryd.prog os ⟨#[], #[], []⟩ with heap := (layCells 2 Rows.laid_unicode_utf8_first (layCells 0 Rows.laid_waypost_flag_codes (layCells 3 Rows.laid_unicode_utf8_acceptRanges (layCells 4 Rows.laid_internal_strconv_uint64pow10 (layCells 6 Rows.laid_math_bits_deBruijn64tab (layCells 5 Rows.laid_math_bits_deBruijn32tab (World.holding Tryd.prog os ⟨#[], #[], []⟩).heap)))))) }
theorem laidWorld_met (os : Os) (args : Array Value) : LaidX ((laidWorld os).forCall (fun _ _ => 0) ⟨#[], args, []⟩).memory :=
  laidMetH_of_parts (laidMet_of_run' 8 (by kernel_rfl) (by kernel_rfl)) (by kernel_rfl)

/-- A string of at most so many bytes. -/
abbrev StrW := { s : ByteArray // s.size ≤ 9223372036854775807 }
instance : Inhabited StrW := ⟨⟨⟨#[]⟩, by decide⟩⟩
section
variable {H : Type} {enc : TypeId × Value → H} {w : World} {base b0 : Nat} {spare : Nat → Bool} {held : Bool}
theorem size_ten {cs : Array Value} {a b c d e f g h i j : Value} (hs : cs.size = 10) (h0 : cs[0]? = some a) (h1 : cs[1]? = some b) (h2 : cs[2]? = some c) (h3 : cs[3]? = some d) (h4 : cs[4]? = some e) (h5 : cs[5]? = some f) (h6 : cs[6]? = some g) (h7 : cs[7]? = some h) (h8 : cs[8]? = some i) (h9 : cs[9]? = some j) : cs = #[a, b, c, d, e, f, g, h, i, j] := by
  obtain ⟨l⟩ := cs
  match l, hs with
  | [x0, x1, x2, x3, x4, x5, x6, x7, x8, x9], _ =>
    simp at h0 h1 h2 h3 h4 h5 h6 h7 h8 h9
    subst h0 h1 h2 h3 h4 h5 h6 h7 h8 h9
    rfl
set_option maxRecDepth 100000 in
theorem open_flags {v : Value} {d : DataW H} {ps : List MemPlace} (hval : Value.okWide Tryd.prog w .any b0 24 v) (hd : DataW.Trod enc Tryd.prog w base spare held 24 v d ps) :
    ∃ f : Flg, v = Value.agg #[Value.bool f.last, .bool f.next, .bool f.chain, .bool f.fin, .bool f.forb, .bool f.gone, .bool f.app, .bool f.disc, .int .i64 f.skip, .int .i64 f.red] ∧ FlgOk f := by
  obtain ⟨fs, hu, hone, hty⟩ : ∃ fs, Tryd.prog.underlying 24 = some (.struct fs) ∧ oneCellFields Tryd.prog fs = true ∧ (fs.map (fun x : Field => x.type)).toList = [4, 4, 4, 4, 4, 4, 4, 4, 3, 3] := ⟨_, Tryd.underlying24, by kernel_rfl, by kernel_rfl⟩
  have hj : ∀ j t, [4, 4, 4, 4, 4, 4, 4, 4, 3, 3][j]? = some t → (fs[j]?).map (fun x : Field => x.type) = some t := fun j t ht => by
    rw [← hty, Array.getElem?_toList, Array.getElem?_map] at ht
    exact ht
  obtain ⟨cs, rfl, hsz⟩ : ∃ cs, v = .agg cs ∧ cs.size = 10 := by
    simp only [Value.okWide, hu] at hval
    obtain ⟨cs, h1, h2, _⟩ := hval
    exact ⟨cs, h1, by rw [h2]; decide +kernel⟩
  obtain ⟨fuel, h⟩ := hd
  obtain ⟨b0, e0⟩ := field_bool hu hone h Tryd.underlying4 0 (hj 0 _ rfl)
  obtain ⟨b1, e1⟩ := field_bool hu hone h Tryd.underlying4 1 (hj 1 _ rfl)
  obtain ⟨b2, e2⟩ := field_bool hu hone h Tryd.underlying4 2 (hj 2 _ rfl)
  obtain ⟨b3, e3⟩ := field_bool hu hone h Tryd.underlying4 3 (hj 3 _ rfl)
  obtain ⟨b4, e4⟩ := field_bool hu hone h Tryd.underlying4 4 (hj 4 _ rfl)
  obtain ⟨b5, e5⟩ := field_bool hu hone h Tryd.underlying4 5 (hj 5 _ rfl)
  obtain ⟨b6, e6⟩ := field_bool hu hone h Tryd.underlying4 6 (hj 6 _ rfl)
  obtain ⟨b7, e7⟩ := field_bool hu hone h Tryd.underlying4 7 (hj 7 _ rfl)
  obtain ⟨z8, e8, w8⟩ := field_int hu hone h Tryd.underlying3 8 (hj 8 _ rfl)
  obtain ⟨z9, e9, w9⟩ := field_int hu hone h Tryd.underlying3 9 (hj 9 _ rfl)
  refine ⟨⟨b0, b1, b2, b3, b4, b5, b6, b7, z8, z9⟩, ?_, w8, w9⟩
  rw [size_ten hsz (by simpa [Value.cells] using e0) (by simpa [Value.cells] using e1) (by simpa [Value.cells] using e2) (by simpa [Value.cells] using e3) (by simpa [Value.cells] using e4) (by simpa [Value.cells] using e5) (by simpa [Value.cells] using e6) (by simpa [Value.cells] using e7) (by simpa [Value.cells] using e8) (by simpa [Value.cells] using e9)]
set_option maxRecDepth 100000 in
theorem open_names {v : Value} {d : DataW H} {ps : List MemPlace} (hval : Value.okWide Tryd.prog w .any b0 40 v) (hd : DataW.Trod enc Tryd.prog w base spare held 40 v d ps) :
    ∃ A len cap, ∃ G : Nat → ByteArray, v = .slice A len cap ∧ ArgOk A len cap ∧ Cells w A 1 len (strAt G) ∧ ∀ i, i < len → (G i).size ≤ 9223372036854775807 := by
  obtain ⟨A, len, cap, G, rfl, hA, hc⟩ := open_cells (m := 1) (by decide) StrW (fun s _ => .string s.val) Tryd.underlying40 (by kernel_rfl) (fun cs' n y hl h => by
    match cs', hl with
    | [c], _ =>
      obtain ⟨s, hv, _, hs⟩ := DataW.trod_string Tryd.underlying9 h
      refine ⟨⟨s, by unfold maxLen at hs; omega⟩, fun j hj => ?_⟩
      obtain rfl : j = 0 := by omega
      simpa using hv) hval hd
  exact ⟨A, len, cap, fun i => (G i).val, rfl, hA, hc, fun i _ => (G i).property⟩
end
end Go.Proofs.YtlipjagdlpkjpaaDoor
