/-
  An argument that is a set of bytes: opened; no condition.
-/
import Derived.Test.YtcfdadgijnmemaaDoorLaw
import Derived.Test.YtcfdadgijnmemaaDoorSetFn
import Derived.Laws.IdiomArrays
namespace Go.Proofs.YtcfdadgijnmemaaDoor
open Go.ChangeShapes Go.WideShapes Go.ChangeAt Go.RowKit
set_option linter.unusedVariables false
set_option linter.unusedSimpArgs false

theorem list_four {α : Type} (l : List α) (h : l.length = 4) : ∃ a b c d, l = [a, b, c, d] := by
  match l, h with
  | [a, b, c, d], _ => exact ⟨a, b, c, d, rfl⟩

/-- The four words of a set of bytes. -/
def word4 (x0 x1 x2 x3 : Int) : Nat → Nat
  | 0 => x0.toNat
  | 1 => x1.toNat
  | 2 => x2.toNat
  | 3 => x3.toNat
  | _ => 0

theorem open_set {H : Type} {enc : TypeId × Value → H} {w : World} {base b0 : Nat} {spare : Nat → Bool} {held : Bool} {v : Value} {d : DataW H} {ps : List MemPlace} (hval : Value.okWide Tryd.prog w .any b0 28 v)
    (hd : DataW.Trod enc Tryd.prog w base spare held 28 v d ps) :
    ∃ S : Nat → Nat, (∀ k, S k < 2 ^ 64) ∧ v = .agg #[.int .u64 (S 0 : Int), .int .u64 (S 1 : Int), .int .u64 (S 2 : Int), .int .u64 (S 3 : Int)] ∧ ps = [] := by
  obtain ⟨cs, rfl, hsz, _⟩ : ∃ cs, v = .agg cs ∧ cs.size = Tryd.prog.cellsOf 28 ∧ Row.okWide Tryd.prog w .any b0 28 cs := by
    have := hval
    simpa [Value.okWide, Tryd.underlying28] using this
  have h4 : Tryd.prog.cellsOf 28 = 4 := by decide +kernel
  rw [h4] at hsz
  obtain ⟨l⟩ := cs
  obtain ⟨c0, c1, c2, c3, rfl⟩ := list_four l hsz
  obtain ⟨fuel, hf⟩ := hd
  obtain ⟨y0, y1, y2, y3, m, hx, hy0, hy1, hy2, hy3⟩ := trod_array4 Tryd.underlying28 (by decide +kernel) hf
  obtain ⟨x0, e0, rfl, w0⟩ := DataW.trod_int Tryd.underlying26 hy0
  obtain ⟨x1, e1, rfl, w1⟩ := DataW.trod_int Tryd.underlying26 hy1
  obtain ⟨x2, e2, rfl, w2⟩ := DataW.trod_int Tryd.underlying26 hy2
  obtain ⟨x3, e3, rfl, w3⟩ := DataW.trod_int Tryd.underlying26 hy3
  simp at e0 e1 e2 e3
  subst e0 e1 e2 e3
  simp only [Prod.mk.injEq] at hx
  obtain ⟨rfl, rfl⟩ := hx
  have b0 := bounds_u64 w0
  have b1 := bounds_u64 w1
  have b2 := bounds_u64 w2
  have b3 := bounds_u64 w3
  refine ⟨word4 x0 x1 x2 x3, ?_, ?_, rfl⟩
  · intro k
    match k with
    | 0 => show x0.toNat < _; omega
    | 1 => show x1.toNat < _; omega
    | 2 => show x2.toNat < _; omega
    | 3 => show x3.toNat < _; omega
    | k + 4 => show 0 < _; omega
  · show _ = Value.agg #[.int .u64 (x0.toNat : Int), .int .u64 (x1.toNat : Int), .int .u64 (x2.toNat : Int), .int .u64 (x3.toNat : Int)]
    rw [Int.toNat_of_nonneg b0.1, Int.toNat_of_nonneg b1.1, Int.toNat_of_nonneg b2.1, Int.toNat_of_nonneg b3.1]

theorem open_setP {H : Type} {enc : TypeId × Value → H} {w : World} {base b0 : Nat} {spare : Nat → Bool} {held : Bool} {v : Value} {d : DataW H} {ps : List MemPlace} (hval : Value.okWide Tryd.prog w .any b0 28 v)
    (hd : DataW.Trod enc Tryd.prog w base spare held 28 v d ps) : ∃ p : Nat → Bool, v = Value.agg #[.int .u64 (setW p 0 : Int), .int .u64 (setW p 1 : Int), .int .u64 (setW p 2 : Int), .int .u64 (setW p 3 : Int)] ∧ ps = [] := by
  obtain ⟨S, hS, hv, hp⟩ := open_set hval hd
  refine ⟨bitS S, ?_, hp⟩
  rw [setW_self S hS, setW_self S hS, setW_self S hS, setW_self S hS]
  exact hv
end Go.Proofs.YtcfdadgijnmemaaDoor
