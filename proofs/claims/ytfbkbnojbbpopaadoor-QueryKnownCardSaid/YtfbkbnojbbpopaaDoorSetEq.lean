/-
  '==' of two sets; no condition.
-/
import Derived.Test.YtfbkbnojbbpopaaDoorSetFn
import Derived.Test.YtfbkbnojbbpopaaDoorProg
import Derived.Laws.StructEq
import Derived.Laws.Tables
import Derived.Laws.Cover2
import Derived.WalkKit
import Derived.KernelRfl
namespace Go.Proofs.YtfbkbnojbbpopaaDoor
open Go.RowKit
set_option linter.unusedVariables false
set_option linter.unusedSimpArgs false

set_option maxRecDepth 100000 in
theorem eqInts (a b c d a' b' c' d' : Int) (w : World) : (Op.equalIn 10000 34 (.agg #[.int .u64 a, .int .u64 b, .int .u64 c, .int .u64 d]) (.agg #[.int .u64 a', .int .u64 b', .int .u64 c', .int .u64 d'])).run Tryd.prog w = .ok (a == a' && (b == b' && (c == c' && d == d'))) w := by
  have u3 := Tryd.underlying32
  have a3 := Tryd.isAgg32
  have z3 := Tryd.sizeOf32
  rw [show (10000 : Nat) = 9999 + 1 from rfl, Op.equalIn]
  simp only [Sem.run_bind, run_underlying Tryd.underlying34, Result.andThen_ok]
  simp only [Std.Legacy.Range.forIn_eq_forIn_range', Std.Legacy.Range.size, Nat.sub_zero, Nat.add_sub_cancel, Nat.div_one, List.range'_succ, List.range'_zero, List.forIn_cons, List.forIn_nil]
  go_simp
  by_cases h1 : a = a' <;> by_cases h2 : b = b' <;> by_cases h3 : c = c' <;> by_cases h4 : d = d' <;> simp [h1, h2, h3, h4]
/-- Whether two sets are equal. -/
def eqP (p q : Nat → Bool) : Bool := (setW p 0 : Int) == (setW q 0 : Int) && ((setW p 1 : Int) == (setW q 1 : Int) && ((setW p 2 : Int) == (setW q 2 : Int) && (setW p 3 : Int) == (setW q 3 : Int)))
theorem eqSet (p q : Nat → Bool) (w : World) : (Op.equalIn 10000 34 (Value.agg #[.int .u64 (setW p 0 : Int), .int .u64 (setW p 1 : Int), .int .u64 (setW p 2 : Int), .int .u64 (setW p 3 : Int)]) (Value.agg #[.int .u64 (setW q 0 : Int), .int .u64 (setW q 1 : Int), .int .u64 (setW q 2 : Int), .int .u64 (setW q 3 : Int)])).run Tryd.prog w = .ok (eqP p q) w := eqInts _ _ _ _ _ _ _ _ w
theorem eqP_iff (p q : Nat → Bool) : eqP p q = true ↔ ∀ c, c < 256 → p c = q c := by
  unfold eqP
  rw [Bool.and_eq_true, Bool.and_eq_true, Bool.and_eq_true, beq_iff_eq, beq_iff_eq, beq_iff_eq, beq_iff_eq]
  constructor
  · rintro ⟨h0, h1, h2, h3⟩
    refine setW_inj (fun i hi => ?_)
    match i, hi with
    | 0, _ => omega
    | 1, _ => omega
    | 2, _ => omega
    | 3, _ => omega
  · intro h
    rw [setW_ext h 0 (by decide), setW_ext h 1 (by decide), setW_ext h 2 (by decide), setW_ext h 3 (by decide)]
    exact ⟨rfl, rfl, rfl, rfl⟩
theorem eqP_yes {p q : Nat → Bool} (h : ∀ c, c < 256 → p c = q c) : eqP p q = true := (eqP_iff p q).2 h
end Go.Proofs.YtfbkbnojbbpopaaDoor
