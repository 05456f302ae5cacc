/-
  Arguments that are lists of bytes, of ranges, of sets: opened to their cells; no condition.
-/
import Derived.Test.YtcfdadgijnmemaaDoorSetOpen
import Derived.Test.YtcfdadgijnmemaaDoorSetMk
import Derived.Deep.Slices
import Derived.Deep.Fields
import Derived.ChangeSame
import Derived.Lib.SmallJoins
namespace Go.Proofs.YtcfdadgijnmemaaDoor
open Go.ChangeShapes Go.WideShapes Go.ChangeAt Go.RowKit Go.Deep
set_option linter.unusedVariables false
set_option linter.unusedSimpArgs false

section
variable {H : Type} {enc : TypeId × Value → H} {w : World} {base b0 : Nat} {spare : Nat → Bool} {held : Bool}

theorem cell_block {a : Addr} {v : Value} (h : w.cell? a = some v) : a.block < w.heap.size ∧ a.spot = none := by
  unfold World.cell? at h
  split at h
  · rename_i c e s hb
    refine ⟨(Array.getElem?_eq_some_iff.1 hb).1, ?_⟩
    cases hs : a.spot with
    | none => rfl
    | some x => rw [hs] at h; simp at h
  · cases h

theorem open_cells {t e : TypeId} {m : Nat} (hm0 : 0 < m) (T : Type) [Inhabited T] (mk : T → Nat → Value) (ht : Tryd.prog.underlying t = some (.slice e)) (hC : Tryd.prog.cellsOf e = m)
    (hel : ∀ cs' n y, cs'.length = m → DataW.trod enc Tryd.prog w base spare held n e cs' = some y → ∃ d : T, ∀ j, j < m → cs'[j]? = some (mk d j))
    {v : Value} {d : DataW H} {ps : List MemPlace} (hval : Value.okWide Tryd.prog w .any b0 t v) (hd : DataW.Trod enc Tryd.prog w base spare held t v d ps) :
    ∃ A len cap, ∃ G : Nat → T, v = .slice A len cap ∧ ArgOk A len cap ∧ Cells w A m len (fun i => mk (G i)) := by
  obtain ⟨A, len, cap, rfl⟩ := okWide_slice ht hval
  obtain ⟨fuel, hf⟩ := hd
  rcases open_slice ht hf with ⟨hcs, hx⟩ | ⟨a, len', cap', k, n, D, Pl, hcs, hb, hl, hmx, hk, hx, hi⟩
  · simp [Value.cells] at hcs
    obtain ⟨rfl, rfl, rfl⟩ := hcs
    exact ⟨none, 0, 0, fun _ => default, rfl, (show ArgOk _ _ _ from fun _ => ⟨rfl, rfl⟩), fun hn => absurd hn (by omega)⟩
  · simp [Value.cells] at hcs
    obtain ⟨rfl, rfl, rfl⟩ := hcs
    have hlk : len ≤ k := by rw [hk]; split <;> omega
    have h1 : ∀ i, ∃ d : T, i < len → ∀ j, j < m → w.cell? ((a.add (i * m)).add j) = some (mk d j) := by
      intro i
      by_cases hlt : i < len
      · obtain ⟨cs', hc, htr⟩ := hi i (by omega)
        rw [hC] at hc
        obtain ⟨_, hcl, hat⟩ := World.cells?_some hc
        obtain ⟨d, hd⟩ := hel cs' n _ hcl htr
        exact ⟨d, fun _ j hj => (hat j hj).trans (hd j hj)⟩
      · exact ⟨default, fun h => absurd h hlt⟩
    obtain ⟨G, hG⟩ := Classical.axiomOfChoice h1
    refine ⟨some a, len, cap, G, rfl, (show ArgOk _ _ _ from fun h => by cases h), (show Cells _ _ _ _ _ from fun hn => ?_)⟩
    have h00 := hG 0 hn 0 hm0
    obtain ⟨b, off, sp⟩ := a
    have e0 : ((Addr.mk b off sp).add (0 * m)).add 0 = ⟨b, off, sp⟩ := by rw [Nat.zero_mul]; rfl
    rw [e0] at h00
    obtain ⟨hlt, hsp⟩ := cell_block h00
    simp only at hsp hlt
    subst hsp
    refine ⟨b, off, rfl, hlt, fun i j hin hj => ?_⟩
    have := hG i hin j hj
    rwa [Addr.add_lit, Addr.add_lit] at this

theorem open_bytesC {v : Value} {d : DataW H} {ps : List MemPlace} (hval : Value.okWide Tryd.prog w .any b0 22 v) (hd : DataW.Trod enc Tryd.prog w base spare held 22 v d ps) :
    ∃ A n c, ∃ Z : Nat → Nat, (∀ i, Z i < 256) ∧ v = .slice A n c ∧ ArgOk A n c ∧ Cells w A 1 n (byteAt Z) := by
  obtain ⟨A, n, c, G, hv, hA, hc⟩ := open_cells (m := 1) (by decide) (Fin 256) (fun d _ => .int .u8 (d.val : Int)) Tryd.underlying22 (by decide +kernel) (fun cs' n y hl h => by
    match cs', hl with
    | [c0], _ =>
      obtain ⟨x, e, rfl, hw⟩ := DataW.trod_int Tryd.underlying5 h
      simp at e
      subst e
      have hb := bounds_u8 hw
      refine ⟨⟨x.toNat, by omega⟩, fun j hj => ?_⟩
      obtain rfl : j = 0 := by omega
      simp [Int.toNat_of_nonneg hb.1]) hval hd
  exact ⟨A, n, c, fun i => (G i).val, fun i => (G i).isLt, hv, hA, hc⟩

theorem open_setsC {v : Value} {d : DataW H} {ps : List MemPlace} (hval : Value.okWide Tryd.prog w .any b0 24 v) (hd : DataW.Trod enc Tryd.prog w base spare held 24 v d ps) :
    ∃ A n c, ∃ S : Nat → Nat → Bool, v = .slice A n c ∧ ArgOk A n c ∧ Cells w A 4 n (setAt S) := by
  obtain ⟨A, n, c, G, hv, hA, hc⟩ := open_cells (m := 4) (by decide) (Nat → Bool) (fun p j => .int .u64 (setW p j : Int)) Tryd.underlying24 (by decide +kernel) (fun cs' n y hl h => by
    obtain ⟨c0, c1, c2, c3, rfl⟩ := list_four cs' hl
    obtain ⟨y0, y1, y2, y3, m, hx, hy0, hy1, hy2, hy3⟩ := trod_array4 Tryd.underlying28 (by decide +kernel) h
    obtain ⟨x0, e0, rfl, w0⟩ := DataW.trod_int Tryd.underlying26 hy0
    obtain ⟨x1, e1, rfl, w1⟩ := DataW.trod_int Tryd.underlying26 hy1
    obtain ⟨x2, e2, rfl, w2⟩ := DataW.trod_int Tryd.underlying26 hy2
    obtain ⟨x3, e3, rfl, w3⟩ := DataW.trod_int Tryd.underlying26 hy3
    simp at e0 e1 e2 e3
    subst e0 e1 e2 e3
    have b0 := bounds_u64 w0
    have b1 := bounds_u64 w1
    have b2 := bounds_u64 w2
    have b3 := bounds_u64 w3
    have hS : ∀ k, word4 x0 x1 x2 x3 k < 2 ^ 64 := by
      intro k
      match k with
      | 0 => show x0.toNat < _; omega
      | 1 => show x1.toNat < _; omega
      | 2 => show x2.toNat < _; omega
      | 3 => show x3.toNat < _; omega
      | k + 4 => show 0 < _; omega
    refine ⟨bitS (word4 x0 x1 x2 x3), fun j hj => ?_⟩
    rw [setW_self _ hS]
    match j, hj with
    | 0, _ => simp [word4, Int.toNat_of_nonneg b0.1]
    | 1, _ => simp [word4, Int.toNat_of_nonneg b1.1]
    | 2, _ => simp [word4, Int.toNat_of_nonneg b2.1]
    | 3, _ => simp [word4, Int.toNat_of_nonneg b3.1]) hval hd
  exact ⟨A, n, c, G, hv, hA, hc⟩

theorem open_rngsC {v : Value} {d : DataW H} {ps : List MemPlace} (hval : Value.okWide Tryd.prog w .any b0 23 v) (hd : DataW.Trod enc Tryd.prog w base spare held 23 v d ps) :
    ∃ A n c, ∃ L U : Nat → Nat, (∀ i, L i < 256) ∧ (∀ i, U i < 256) ∧ v = .slice A n c ∧ ArgOk A n c ∧ Cells w A 2 n (rngAt L U) := by
  obtain ⟨A, n, c, G, hv, hA, hc⟩ := open_cells (m := 2) (by decide) (Fin 256 × Fin 256) (fun d j => .int .u8 ((if j = 0 then d.1.val else d.2.val : Nat) : Int)) Tryd.underlying23 (by decide +kernel) (fun cs' n y hl h => by
    match cs', hl with
    | [c0, c1], _ =>
      obtain ⟨fs, hu, hone, f0, f1, hf0, hf1, ht0, ht1⟩ : ∃ fs, Tryd.prog.underlying 35 = some (.struct fs) ∧ oneCellFields Tryd.prog fs = true ∧ ∃ f0 f1, fs[0]? = some f0 ∧ fs[1]? = some f1 ∧ f0.type = 5 ∧ f1.type = 5 := ⟨_, Tryd.underlying35, by kernel_rfl, _, _, rfl, rfl, rfl, rfl⟩
      obtain ⟨ys, n', hn', hy, hlen, hyl, hf⟩ := DataW.trod_struct hu h
      obtain ⟨o0, k0⟩ := hone_of hone 0 f0 hf0
      obtain ⟨o1, k1⟩ := hone_of hone 1 f1 hf1
      have h0 := hf 0 f0 hf0
      have h1 := hf 1 f1 hf1
      rw [o0, k0, ht0] at h0
      rw [o1, k1, ht1] at h1
      have hys : 2 ≤ ys.length := by
        rw [hyl]
        exact (Array.getElem?_eq_some_iff.1 hf1).1
      rw [List.getElem?_eq_getElem (by omega)] at h0 h1
      simp only [List.drop, List.take] at h0 h1
      obtain ⟨x0, e0, hx0, w0⟩ := DataW.trod_int Tryd.underlying5 h0
      obtain ⟨x1, e1, hx1, w1⟩ := DataW.trod_int Tryd.underlying5 h1
      simp at e0 e1
      subst e0 e1
      have b0 := bounds_u8 w0
      have b1 := bounds_u8 w1
      refine ⟨(⟨x0.toNat, by omega⟩, ⟨x1.toNat, by omega⟩), fun j hj => ?_⟩
      match j, hj with
      | 0, _ => simp [Int.toNat_of_nonneg b0.1]
      | 1, _ => simp [Int.toNat_of_nonneg b1.1]) hval hd
  exact ⟨A, n, c, fun i => (G i).1.val, fun i => (G i).2.val, fun i => (G i).1.isLt, fun i => (G i).2.isLt, hv, hA, hc⟩
end
end Go.Proofs.YtcfdadgijnmemaaDoor
