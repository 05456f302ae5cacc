/-
  Arguments that hold a list beside other fields: opened; no condition.
-/
import Derived.Test.YtjkmkpehnnkpiaaDoorPasP
namespace Go.Proofs.YtjkmkpehnnkpiaaDoor
open Go.ChangeShapes Go.WideShapes Go.ChangeAt Go.RowKit Go.Deep
set_option linter.unusedVariables false
set_option linter.unusedSimpArgs false

section
variable {H : Type} {enc : TypeId × Value → H} {w : World} {base b0 : Nat} {spare : Nat → Bool} {held : Bool}
set_option maxRecDepth 100000 in
theorem open_cells_at {t e : TypeId} {m : Nat} (hm0 : 0 < m) (T : Type) [Inhabited T] (mk : T → Nat → Value) (ht : Tryd.prog.underlying t = some (.slice e)) (hC : Tryd.prog.cellsOf e = m)
    (hel : ∀ cs' n y, cs'.length = m → DataW.trod enc Tryd.prog w base spare held n e cs' = some y → ∃ d : T, ∀ j, j < m → cs'[j]? = some (mk d j))
    {fuel : Nat} {cs : List Value} {x : DataW H × List MemPlace} (hf : DataW.trod enc Tryd.prog w base spare held fuel t cs = some x) :
    ∃ A len cap, ∃ G : Nat → T, cs = [.slice A len cap] ∧ ArgOk A len cap ∧ Cells w A m len (fun i => mk (G i)) := by
  rcases open_slice ht hf with ⟨hcs, hx⟩ | ⟨a, len, cap, k, n, D, Pl, hcs, hb, hl, hmx, hk, hx, hi⟩
  · exact ⟨none, 0, 0, fun _ => default, hcs, (show ArgOk _ _ _ from fun _ => ⟨rfl, rfl⟩), fun hn => absurd hn (by omega)⟩
  · have hlk : len ≤ k := by rw [hk]; split <;> omega
    have h1 : ∀ i, ∃ d : T, i < len → ∀ j, j < m → w.cell? ((a.add (i * m)).add j) = some (mk d j) := by
      intro i
      by_cases hlt : i < len
      · obtain ⟨cs', hc, htr⟩ := hi i (by omega)
        rw [hC] at hc
        obtain ⟨_, hcl, hat⟩ := World.cells?_some hc
        obtain ⟨d, hd⟩ := hel cs' n _ hcl htr
        exact ⟨d, fun _ j hj => (hat j hj).trans (hd j hj)⟩
      · exact ⟨default, fun h => absurd h hlt⟩
    obtain ⟨G, hG⟩ := Classical.axiomOfChoice h1
    refine ⟨some a, len, cap, G, hcs, (show ArgOk _ _ _ from fun h => by cases h), (show Cells _ _ _ _ _ from fun hn => ?_)⟩
    have h00 := hG 0 hn 0 hm0
    obtain ⟨b, off, sp⟩ := a
    have e0 : ((Addr.mk b off sp).add (0 * m)).add 0 = ⟨b, off, sp⟩ := by rw [Nat.zero_mul]; rfl
    rw [e0] at h00
    obtain ⟨hlt, hsp⟩ := cell_block h00
    simp only at hsp hlt
    subst hsp
    refine ⟨b, off, rfl, hlt, fun i j hin hj => ?_⟩
    have := hG i hin j hj
    rwa [Addr.add_lit, Addr.add_lit] at this
set_option maxRecDepth 100000 in
theorem el_flag : ∀ cs' n y, cs'.length = 10 → DataW.trod enc Tryd.prog w base spare held n 54 cs' = some y → ∃ f : FlgW, ∀ j, j < 10 → cs'[j]? = some (([Value.bool f.val.last, .bool f.val.next, .bool f.val.chain, .bool f.val.fin, .bool f.val.forb, .bool f.val.gone, .bool f.val.app, .bool f.val.disc, .int .i64 f.val.skip, .int .i64 f.val.red] : List Value).getD j (.bool false)) := by
  intro cs' n y hl h
  obtain ⟨fs, hu, hone, hty⟩ : ∃ fs, Tryd.prog.underlying 54 = some (.struct fs) ∧ oneCellFields Tryd.prog fs = true ∧ (fs.map (fun x : Field => x.type)).toList = [4, 4, 4, 4, 4, 4, 4, 4, 3, 3] := ⟨_, Tryd.underlying54, by kernel_rfl, by kernel_rfl⟩
  have hj : ∀ j t, [4, 4, 4, 4, 4, 4, 4, 4, 3, 3][j]? = some t → (fs[j]?).map (fun x : Field => x.type) = some t := fun j t ht => by
    rw [← hty, Array.getElem?_toList, Array.getElem?_map] at ht
    exact ht
  obtain ⟨b0, e0⟩ := field_bool hu hone h Tryd.underlying4 0 (hj 0 _ rfl)
  obtain ⟨b1, e1⟩ := field_bool hu hone h Tryd.underlying4 1 (hj 1 _ rfl)
  obtain ⟨b2, e2⟩ := field_bool hu hone h Tryd.underlying4 2 (hj 2 _ rfl)
  obtain ⟨b3, e3⟩ := field_bool hu hone h Tryd.underlying4 3 (hj 3 _ rfl)
  obtain ⟨b4, e4⟩ := field_bool hu hone h Tryd.underlying4 4 (hj 4 _ rfl)
  obtain ⟨b5, e5⟩ := field_bool hu hone h Tryd.underlying4 5 (hj 5 _ rfl)
  obtain ⟨b6, e6⟩ := field_bool hu hone h Tryd.underlying4 6 (hj 6 _ rfl)
  obtain ⟨b7, e7⟩ := field_bool hu hone h Tryd.underlying4 7 (hj 7 _ rfl)
  obtain ⟨z8, e8, w8⟩ := field_int hu hone h Tryd.underlying3 8 (hj 8 _ rfl)
  obtain ⟨z9, e9, w9⟩ := field_int hu hone h Tryd.underlying3 9 (hj 9 _ rfl)
  refine ⟨⟨⟨b0, b1, b2, b3, b4, b5, b6, b7, z8, z9⟩, w8, w9⟩, fun j hj => ?_⟩
  have hj' : j = 0 ∨ j = 1 ∨ j = 2 ∨ j = 3 ∨ j = 4 ∨ j = 5 ∨ j = 6 ∨ j = 7 ∨ j = 8 ∨ j = 9 := by omega
  rcases hj' with rfl | rfl | rfl | rfl | rfl | rfl | rfl | rfl | rfl | rfl <;> assumption
theorem size_three {cs : Array Value} {a b c : Value} (hs : cs.size = 3) (h0 : cs[0]? = some a) (h1 : cs[1]? = some b) (h2 : cs[2]? = some c) : cs = #[a, b, c] := by
  obtain ⟨l⟩ := cs
  match l, hs with
  | [x, y, z], _ =>
    simp at h0 h1 h2
    subst h0 h1 h2
    rfl
set_option maxRecDepth 100000 in
theorem open_pass {v : Value} {d : DataW H} {ps : List MemPlace} (hval : Value.okWide Tryd.prog w .any b0 30 v) (hd : DataW.Trod enc Tryd.prog w base spare held 30 v d ps) :
    ∃ A n c t en, ∃ F : Nat → Flg, SkipOk F ∧ v = .agg #[.slice A n c, .int .i64 t, .bool en] ∧ ArgOk A n c ∧ Cells w A 10 n (flgAt F) ∧ -9223372036854775808 ≤ t ∧ t ≤ 9223372036854775807 := by
  obtain ⟨fs, hu, hone, hty⟩ : ∃ fs, Tryd.prog.underlying 30 = some (.struct fs) ∧ oneCellFields Tryd.prog fs = true ∧ (fs.map (fun x : Field => x.type)).toList = [22, 3, 4] := ⟨_, Tryd.underlying30, by kernel_rfl, by kernel_rfl⟩
  have hj : ∀ j t, [22, 3, 4][j]? = some t → (fs[j]?).map (fun x : Field => x.type) = some t := fun j t ht => by
    rw [← hty, Array.getElem?_toList, Array.getElem?_map] at ht
    exact ht
  obtain ⟨cs, rfl, hsz⟩ : ∃ cs, v = .agg cs ∧ cs.size = 3 := by
    simp only [Value.okWide, hu] at hval
    obtain ⟨cs, h1, h2, _⟩ := hval
    exact ⟨cs, h1, by rw [h2]; decide +kernel⟩
  obtain ⟨fuel, h⟩ := hd
  obtain ⟨f0, hf0, ht0⟩ : ∃ f, fs[0]? = some f ∧ f.type = 22 := by
    have := hj 0 _ rfl
    cases hf : fs[0]? with
    | none => rw [hf] at this; cases this
    | some f => rw [hf] at this; exact ⟨f, rfl, by simpa using this⟩
  obtain ⟨n', y, hy⟩ := open_field hu hone h 0 f0 hf0
  rw [ht0] at hy
  obtain ⟨A, n, c, G, hv, hA, hc⟩ := open_cells_at (m := 10) (by decide) FlgW (fun f j => ([Value.bool f.val.last, .bool f.val.next, .bool f.val.chain, .bool f.val.fin, .bool f.val.forb, .bool f.val.gone, .bool f.val.app, .bool f.val.disc, .int .i64 f.val.skip, .int .i64 f.val.red] : List Value).getD j (.bool false)) Tryd.underlying22 (by decide +kernel) el_flag hy
  obtain ⟨t, e1, w1⟩ := field_int hu hone h Tryd.underlying3 1 (hj 1 _ rfl)
  obtain ⟨en, e2⟩ := field_bool hu hone h Tryd.underlying4 2 (hj 2 _ rfl)
  have e0 := take_one hv
  refine ⟨A, n, c, t, en, fun i => (G i).val, fun i => (G i).property.1, ?_, hA, hc, w1⟩
  rw [size_three hsz (by simpa [Value.cells] using e0) (by simpa [Value.cells] using e1) (by simpa [Value.cells] using e2)]
end
end Go.Proofs.YtjkmkpehnnkpiaaDoor
