/-
  of, walked: the links of a valid graph; conditions: nodes below 64.
-/
import Derived.Test.YtjgkiiohbceocaaScD
namespace Go.Proofs.Ytjgkiiohbceocaa
open Go.RowKit
set_option linter.unusedVariables false
set_option linter.unusedSimpArgs false

/-- The edges, as a relation of nodes. -/
def relE (l : List Edg) : Nat → Nat → Bool := fun i j => l.any fun e => decide (e.f = (i : Int)) && decide (e.t = (j : Int))
def insE (E : Nat → Nat → Bool) (i j : Nat) : Nat → Nat → Bool := fun a b => E a b || (decide (a = i) && decide (b = j))
theorem insE_row (E : Nat → Nat → Bool) {i j : Nat} (hj : j < 64) : rowW (insE E i j) i = rowW E i ||| 2 ^ j := by
  apply Nat.eq_of_testBit_eq
  intro k
  rw [Nat.testBit_or, Nat.testBit_two_pow]
  unfold rowW
  rw [setW_bit, setW_bit, Nat.mul_zero, Nat.zero_add]
  unfold insE
  by_cases hk : k < 64
  · rw [decide_eq_true hk]
    by_cases e : k = j
    · subst e; simp
    · rw [decide_eq_false e, decide_eq_false (show ¬ j = k from fun h => e h.symm)]; simp
  · rw [decide_eq_false hk, decide_eq_false (show ¬ j = k by omega)]; rfl
theorem insE_other (E : Nat → Nat → Bool) {i j k : Nat} (h : k ≠ i) : insE E i j k = E k := by
  funext b
  unfold insE
  rw [decide_eq_false h, Bool.false_and, Bool.or_false]
theorem relE_snoc (l : List Edg) (e : Edg) {i j : Nat} (hf : e.f = (i : Int)) (ht : e.t = (j : Int)) : relE (l ++ [e]) = insE (relE l) i j := by
  funext a b
  unfold relE insE
  rw [List.any_append]
  congr 1
  simp only [List.any_cons, List.any_nil, Bool.or_false]
  rw [hf, ht]
  congr 1
  · rw [Bool.eq_iff_iff, decide_eq_true_eq, decide_eq_true_eq]; omega
  · rw [Bool.eq_iff_iff, decide_eq_true_eq, decide_eq_true_eq]; omega
/-- One entry of a closure's round. -/
def orRow (R : Nat → Nat → Bool) (i m : Nat) : Nat → Nat → Bool := fun a b => R a b || (decide (a = i) && R m b)
theorem orRow_row (R : Nat → Nat → Bool) (i m : Nat) : rowW (orRow R i m) i = rowW R i ||| rowW R m := by
  apply Nat.eq_of_testBit_eq
  intro k
  rw [Nat.testBit_or]
  unfold rowW
  rw [setW_bit, setW_bit, setW_bit, Nat.mul_zero, Nat.zero_add]
  unfold orRow
  by_cases hk : k < 64
  · rw [decide_eq_true hk]; simp
  · rw [decide_eq_false hk]; rfl
theorem orRow_other (R : Nat → Nat → Bool) {i m k : Nat} (h : k ≠ i) : orRow R i m k = R k := by
  funext b
  unfold orRow
  rw [decide_eq_false h, Bool.false_and, Bool.or_false]
/-- A round of the closure, as far as row i. -/
def wstTo (m i : Nat) (T : Nat → Nat → Bool) : Nat → Nat → Bool := fun a b => if a < i then wst m T a b else T a b
theorem wstTo_zero (m : Nat) (T : Nat → Nat → Bool) : wstTo m 0 T = T := by funext a b; unfold wstTo; rw [if_neg (Nat.not_lt_zero a)]
theorem wstTo_m (m i : Nat) (T : Nat → Nat → Bool) (b : Nat) : wstTo m i T m b = T m b := by
  unfold wstTo
  split
  · exact wst_row m T b
  · rfl
theorem wstTo_bit (m i : Nat) (T : Nat → Nat → Bool) : wstTo m i T i m = T i m := by unfold wstTo; rw [if_neg (Nat.lt_irrefl i)]
theorem wstTo_step (m i : Nat) (T : Nat → Nat → Bool) : wstTo m (i + 1) T = if T i m = true then orRow (wstTo m i T) i m else wstTo m i T := by
  funext a b
  by_cases h : T i m = true
  · rw [if_pos h]
    unfold orRow
    rw [wstTo_m]
    by_cases ha : a = i
    · subst ha
      unfold wstTo
      rw [if_pos (Nat.lt_succ_self a), if_neg (Nat.lt_irrefl a), decide_eq_true rfl, Bool.true_and]
      unfold wst
      rw [h, Bool.true_and]
    · rw [decide_eq_false ha, Bool.false_and, Bool.or_false]
      unfold wstTo
      by_cases hl : a < i
      · rw [if_pos hl, if_pos (by omega)]
      · rw [if_neg hl, if_neg (by omega)]
  · rw [if_neg h]
    rw [Bool.not_eq_true] at h
    by_cases ha : a = i
    · subst ha
      unfold wstTo
      rw [if_pos (Nat.lt_succ_self a), if_neg (Nat.lt_irrefl a)]
      unfold wst
      rw [h, Bool.false_and, Bool.or_false]
    · unfold wstTo
      by_cases hl : a < i
      · rw [if_pos hl, if_pos (by omega)]
      · rw [if_neg hl, if_neg (by omega)]
theorem wstTo_all {n m : Nat} {T : Nat → Nat → Bool} (h : Within n T) : wstTo m n T = wst m T := by
  funext a b
  unfold wstTo
  by_cases ha : a < n
  · rw [if_pos ha]
  · rw [if_neg ha]
    unfold wst
    cases e : T a m
    · rw [Bool.false_and, Bool.or_false]
    · exact absurd (h a m e).1 ha
end Go.Proofs.Ytjgkiiohbceocaa
