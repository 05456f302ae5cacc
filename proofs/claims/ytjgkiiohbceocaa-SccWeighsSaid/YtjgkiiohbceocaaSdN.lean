/-
  Arguments that are graphs or lists of numbers: opened; no condition.
-/
import Derived.Test.YtjgkiiohbceocaaOpen
import Derived.Test.YtjgkiiohbceocaaSdM
namespace Go.Proofs.Ytjgkiiohbceocaa
open Go.ChangeShapes Go.WideShapes Go.ChangeAt Go.RowKit Go.Deep
set_option linter.unusedVariables false
set_option linter.unusedSimpArgs false

section
variable {H : Type} {enc : TypeId × Value → H} {w : World} {base b0 : Nat} {spare : Nat → Bool} {held : Bool}
set_option maxRecDepth 100000 in
theorem open_cells_at {t e : TypeId} {m : Nat} (hm0 : 0 < m) (T : Type) [Inhabited T] (mk : T → Nat → Value) (ht : Try.prog.underlying t = some (.slice e)) (hC : Try.prog.cellsOf e = m)
    (hel : ∀ cs' n y, cs'.length = m → DataW.trod enc Try.prog w base spare held n e cs' = some y → ∃ d : T, ∀ j, j < m → cs'[j]? = some (mk d j))
    {fuel : Nat} {cs : List Value} {x : DataW H × List MemPlace} (hf : DataW.trod enc Try.prog w base spare held fuel t cs = some x) :
    ∃ A len cap, ∃ G : Nat → T, cs = [.slice A len cap] ∧ ArgOk A len cap ∧ Cells w A m len (fun i => mk (G i)) := by
  rcases open_slice ht hf with ⟨hcs, hx⟩ | ⟨a, len, cap, k, n, D, Pl, hcs, hb, hl, hmx, hk, hx, hi⟩
  · exact ⟨none, 0, 0, fun _ => default, hcs, (show ArgOk _ _ _ from fun _ => ⟨rfl, rfl⟩), fun hn => absurd hn (by omega)⟩
  · have hlk : len ≤ k := by rw [hk]; split <;> omega
    have h1 : ∀ i, ∃ d : T, i < len → ∀ j, j < m → w.cell? ((a.add (i * m)).add j) = some (mk d j) := by
      intro i
      by_cases hlt : i < len
      · obtain ⟨cs', hc, htr⟩ := hi i (by omega)
        rw [hC] at hc
        obtain ⟨_, hcl, hat⟩ := World.cells?_some hc
        obtain ⟨d, hd⟩ := hel cs' n _ hcl htr
        exact ⟨d, fun _ j hj => (hat j hj).trans (hd j hj)⟩
      · exact ⟨default, fun h => absurd h hlt⟩
    obtain ⟨G, hG⟩ := Classical.axiomOfChoice h1
    refine ⟨some a, len, cap, G, hcs, (show ArgOk _ _ _ from fun h => by cases h), (show Cells _ _ _ _ _ from fun hn => ?_)⟩
    have h00 := hG 0 hn 0 hm0
    obtain ⟨b, off, sp⟩ := a
    have e0 : ((Addr.mk b off sp).add (0 * m)).add 0 = ⟨b, off, sp⟩ := by rw [Nat.zero_mul]; rfl
    rw [e0] at h00
    obtain ⟨hlt, hsp⟩ := cell_block h00
    simp only at hsp hlt
    subst hsp
    refine ⟨b, off, rfl, hlt, fun i j hin hj => ?_⟩
    have := hG i hin j hj
    rwa [Addr.add_lit, Addr.add_lit] at this
set_option maxRecDepth 100000 in
theorem el_edge : ∀ cs' n y, cs'.length = 2 → DataW.trod enc Try.prog w base spare held n 57 cs' = some y → ∃ f : Edg, ∀ j, j < 2 → cs'[j]? = some ((edgV f).getD j (.bool false)) := by
  intro cs' n y hl h
  obtain ⟨fs, hu, hone, hty⟩ : ∃ fs, Try.prog.underlying 57 = some (.struct fs) ∧ oneCellFields Try.prog fs = true ∧ (fs.map (fun x : Field => x.type)).toList = [3, 3] := ⟨_, Try.underlying57, by kernel_rfl, by kernel_rfl⟩
  have hj : ∀ j t, [3, 3][j]? = some t → (fs[j]?).map (fun x : Field => x.type) = some t := fun j t ht => by
    rw [← hty, Array.getElem?_toList, Array.getElem?_map] at ht
    exact ht
  obtain ⟨z0, e0, w0⟩ := field_int hu hone h Try.underlying3 0 (hj 0 _ rfl)
  obtain ⟨z1, e1, w1⟩ := field_int hu hone h Try.underlying3 1 (hj 1 _ rfl)
  refine ⟨⟨z0, z1⟩, fun j hj => ?_⟩
  have hj' : j = 0 ∨ j = 1 := by omega
  rcases hj' with rfl | rfl <;> assumption
theorem size_two {cs : Array Value} {a b : Value} (hs : cs.size = 2) (h0 : cs[0]? = some a) (h1 : cs[1]? = some b) : cs = #[a, b] := by
  obtain ⟨l⟩ := cs
  match l, hs with
  | [x, y], _ =>
    simp at h0 h1
    subst h0 h1
    rfl
theorem edgs_of {A : Option Addr} {n : Nat} {G : Nat → Edg} (h : Cells w A 2 n (fun i j => (edgV (G i)).getD j (.bool false))) : ∃ l : List Edg, l.length = n ∧ Cells w A 2 l.length (edAt l) := by
  refine ⟨(List.range n).map G, by simp, fun hn => ?_⟩
  rw [List.length_map, List.length_range] at hn
  obtain ⟨b, o, h1, h2, h3⟩ := h hn
  refine ⟨b, o, h1, h2, fun i j hi hj => ?_⟩
  rw [List.length_map, List.length_range] at hi
  rw [h3 i j hi hj]
  unfold edAt
  rw [List.getElem?_map, List.getElem?_range hi]
  show some ((edgV (G i)).getD j (.bool false)) = some (((edgV (G i))[j]?).getD (.bool false))
  rw [List.getD_eq_getElem?_getD]
set_option maxRecDepth 100000 in
theorem open_graph {v : Value} {d : DataW H} {ps : List MemPlace} (hval : Value.okWide Try.prog w .any b0 24 v) (hd : DataW.Trod enc Try.prog w base spare held 24 v d ps) :
    ∃ (n : Int) (l : List Edg) (A : Option Addr) (c : Nat), v = .agg #[.int .i64 n, .slice A l.length c] ∧ Cells w A 2 l.length (edAt l) := by
  obtain ⟨fs, hu, hone, hty⟩ : ∃ fs, Try.prog.underlying 24 = some (.struct fs) ∧ oneCellFields Try.prog fs = true ∧ (fs.map (fun x : Field => x.type)).toList = [3, 22] := ⟨_, Try.underlying24, by kernel_rfl, by kernel_rfl⟩
  have hj : ∀ j t, [3, 22][j]? = some t → (fs[j]?).map (fun x : Field => x.type) = some t := fun j t ht => by
    rw [← hty, Array.getElem?_toList, Array.getElem?_map] at ht
    exact ht
  obtain ⟨cs, rfl, hsz⟩ : ∃ cs, v = .agg cs ∧ cs.size = 2 := by
    simp only [Value.okWide, hu] at hval
    obtain ⟨cs, h1, h2, _⟩ := hval
    exact ⟨cs, h1, by rw [h2]; decide +kernel⟩
  obtain ⟨fuel, h⟩ := hd
  obtain ⟨f1, hf1, ht1⟩ : ∃ f, fs[1]? = some f ∧ f.type = 22 := by
    have := hj 1 _ rfl
    cases hf : fs[1]? with
    | none => rw [hf] at this; cases this
    | some f => rw [hf] at this; exact ⟨f, rfl, by simpa using this⟩
  obtain ⟨n', y, hy⟩ := open_field hu hone h 1 f1 hf1
  rw [ht1] at hy
  obtain ⟨A, n, c, G, hv, hA, hc⟩ := open_cells_at (m := 2) (by decide) Edg (fun f j => (edgV f).getD j (.bool false)) Try.underlying22 (by decide +kernel) el_edge hy
  obtain ⟨t, e0, w0⟩ := field_int hu hone h Try.underlying3 0 (hj 0 _ rfl)
  have e1 := take_one hv
  obtain ⟨l, hl, hcl⟩ := edgs_of hc
  refine ⟨t, l, A, c, ?_, hcl⟩
  rw [hl]
  rw [size_two hsz (by simpa [Value.cells] using e0) (by simpa [Value.cells] using e1)]
end
end Go.Proofs.Ytjgkiiohbceocaa
