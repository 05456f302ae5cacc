/-
  Has, of byteset and of its reference: whether a byte's bit is set; the set as four numbers below 2^64.
-/
import Derived.Test.YtfbkbnojbbpopaaDoorProg
import Derived.Test.YtfbkbnojbbpopaaDoorBase
import Derived.Laws.BitsAllLaws
import Derived.WalkSpells
import Derived.WalkLawsBesides
namespace Go.Proofs.YtfbkbnojbbpopaaDoor
open Go.RowKit
set_option linter.unusedVariables false
set_option linter.unusedSimpArgs false

/-- Whether a byte is in a set of four words. -/
def hasS (S : Nat → Nat) (c : UInt8) : Bool := (S (c.toNat / 64)).testBit (c.toNat % 64)

theorem bit_test (x k : Nat) (hx : x < 18446744073709551616) : (bits .and .u64 ((x : Int) / 2 ^ k) 1 == 1) = x.testBit k := by
  have e : ((x : Int) / 2 ^ k) = ((x / 2 ^ k : Nat) : Int) := by simp
  have hle : x / 2 ^ k ≤ x := Nat.div_le_self _ _
  rw [e, show (1 : Int) = ((1 : Nat) : Int) from rfl, u64_and_nat _ _ (by omega) (by omega), nat_mask1, Nat.testBit_eq_decide_div_mod_eq]
  rw [Bool.eq_iff_iff]
  simp only [beq_iff_eq, decide_eq_true_eq]
  omega
theorem set_get (S : Nat → Nat) (k : Nat) (hk : k < 4) : [Value.int .u64 (S 0 : Int), .int .u64 (S 1 : Int), .int .u64 (S 2 : Int), .int .u64 (S 3 : Int)][k]? = some (.int .u64 (S k : Int)) := by
  match k, hk with
  | 0, _ => rfl
  | 1, _ => rfl
  | 2, _ => rfl
  | 3, _ => rfl

set_option maxRecDepth 100000 in
set_option maxHeartbeats 400000 in
theorem bhas (S : Nat → Nat) (c : UInt8) (w : World) (hS : ∀ k, S k < 2 ^ 64) :
    Calls Tryd.prog 58 #[.agg #[.int .u64 (S 0 : Int), .int .u64 (S 1 : Int), .int .u64 (S 2 : Int), .int .u64 (S 3 : Int)], .int .u8 (c.toNat : Int)] w fun e w' => e = .returned (.bool (hasS S c)) ∧ Below w.heap.size w w' := by
  have hc : (c.toNat : Int) < 256 := u8_bound c
  have hc0 : 0 ≤ (c.toNat : Int) := by omega
  have hg := set_get S (c.toNat / 64) (by omega)
  have hb : (S (c.toNat / 64) : Int) < 18446744073709551616 := by have := hS (c.toNat / 64); omega
  have hb0 : 0 ≤ (S (c.toNat / 64) : Int) := by omega
  go_enter Tryd.func58, Tryd.ntmps58
  go_wp2
  go_ret
  exact ⟨ret_bool (bit_test _ _ (by omega)), (Below.refl _ _).alloc (Nat.le_refl _) _⟩

end Go.Proofs.YtfbkbnojbbpopaaDoor
