/-
  Links, as words of bits; (*links).goes, walked; conditions: nodes below 64.
  of, walked: the links of a valid graph; conditions: nodes below 64.
-/
import Derived.Test.YtjgkiiohbceocaaScB
import Derived.Laws.BitsAllLaws
import Derived.WalkSpells
import Derived.WalkLawsBesides
namespace Go.Proofs.Ytjgkiiohbceocaa
open Go.RowKit
set_option linter.unusedVariables false
set_option linter.unusedSimpArgs false

theorem bit_test (x k : Nat) (hx : x < 18446744073709551616) : (bits .and .u64 ((x : Int) / 2 ^ k) 1 == 1) = x.testBit k := by
  have e : ((x : Int) / 2 ^ k) = ((x / 2 ^ k : Nat) : Int) := by simp
  have hle : x / 2 ^ k ≤ x := Nat.div_le_self _ _
  rw [e, show (1 : Int) = ((1 : Nat) : Int) from rfl, u64_and_nat _ _ (by omega) (by omega), nat_mask1, Nat.testBit_eq_decide_div_mod_eq]
  rw [Bool.eq_iff_iff]
  simp only [beq_iff_eq, decide_eq_true_eq]
  omega

/-- The word of a row of a relation. -/
def rowW (E : Nat → Nat → Bool) (i : Nat) : Nat := setW (E i) 0
theorem rowW_lt (E : Nat → Nat → Bool) (i : Nat) : rowW E i < 18446744073709551616 := setW_lt _ _
theorem rowW_bit (E : Nat → Nat → Bool) (i j : Nat) (hj : j < 64) : (rowW E i).testBit j = E i j := by
  unfold rowW
  rw [setW_bit, decide_eq_true hj, Bool.true_and, Nat.mul_zero, Nat.zero_add]
/-- The cells of links. -/
def lnkC (E R : Nat → Nat → Bool) : Array Value := ((List.range 64).map (fun i => Value.int .u64 (rowW E i : Int)) ++ (List.range 64).map (fun i => Value.int .u64 (rowW R i : Int))).toArray
theorem lnkC_next (E R : Nat → Nat → Bool) {i : Nat} (hi : i < 64) : (lnkC E R)[i]? = some (.int .u64 (rowW E i : Int)) := by
  unfold lnkC
  rw [List.getElem?_toArray, List.getElem?_append_left (by simpa using hi), List.getElem?_map, List.getElem?_range hi]; rfl
theorem lnkC_reach (E R : Nat → Nat → Bool) {i : Nat} (hi : i < 64) : (lnkC E R)[64 + i]? = some (.int .u64 (rowW R i : Int)) := by
  unfold lnkC
  rw [List.getElem?_toArray, List.getElem?_append_right (by simp), List.getElem?_map, show 64 + i - (List.map (fun i => Value.int .u64 (rowW E i : Int)) (List.range 64)).length = i by simp, List.getElem?_range hi]; rfl
theorem lnkC_size (E R : Nat → Nat → Bool) : (lnkC E R).size = 128 := by simp [lnkC]
/-- Rows that are equal but at one place. -/
theorem lnkC_set_next {E F R : Nat → Nat → Bool} {i : Nat} (hi : i < 64) {x : Nat} (hx : x = rowW F i) (h : ∀ k, k ≠ i → F k = E k) : (lnkC E R).setIfInBounds i (.int .u64 (x : Int)) = lnkC F R := by
  apply Array.ext_getElem?
  intro k
  rw [Array.getElem?_setIfInBounds]
  by_cases hk : i = k
  · subst hk
    rw [if_pos rfl, if_pos (by rw [lnkC_size]; omega), lnkC_next F R hi, hx]
  · rw [if_neg hk]
    by_cases h1 : k < 64
    · rw [lnkC_next E R h1, lnkC_next F R h1]
      unfold rowW
      rw [h k (fun e => hk e.symm)]
    · by_cases h2 : k < 128
      · obtain ⟨d, rfl⟩ : ∃ d, k = 64 + d := ⟨k - 64, by omega⟩
        rw [lnkC_reach E R (by omega), lnkC_reach F R (by omega)]
      · rw [Array.getElem?_eq_none (by rw [lnkC_size]; omega), Array.getElem?_eq_none (by rw [lnkC_size]; omega)]
theorem lnkC_set_reach {E R Q : Nat → Nat → Bool} {i : Nat} (hi : i < 64) {x : Nat} (hx : x = rowW Q i) (h : ∀ k, k ≠ i → Q k = R k) : (lnkC E R).setIfInBounds (64 + i) (.int .u64 (x : Int)) = lnkC E Q := by
  apply Array.ext_getElem?
  intro k
  rw [Array.getElem?_setIfInBounds]
  by_cases hk : 64 + i = k
  · subst hk
    rw [if_pos rfl, if_pos (by rw [lnkC_size]; omega), lnkC_reach E Q hi, hx]
  · rw [if_neg hk]
    by_cases h1 : k < 64
    · rw [lnkC_next E R h1, lnkC_next E Q h1]
    · by_cases h2 : k < 128
      · obtain ⟨d, rfl⟩ : ∃ d, k = 64 + d := ⟨k - 64, by omega⟩
        rw [lnkC_reach E R (by omega), lnkC_reach E Q (by omega)]
        unfold rowW
        rw [h d (by omega)]
      · rw [Array.getElem?_eq_none (by rw [lnkC_size]; omega), Array.getElem?_eq_none (by rw [lnkC_size]; omega)]

set_option maxRecDepth 100000 in
set_option maxHeartbeats 1000000 in
theorem goes_code (b : Nat) (T : TypeId) (cs : Array Value) (R : Nat → Nat → Bool) (i j : Nat) (w : World) (hb : Blk w b T cs) (hx : cs[64 + i]? = some (.int .u64 (rowW R i : Int))) (hi : i < 64) (hj : j < 64) :
    Calls Try.prog 44 #[.pointer (some ⟨b, 0, none⟩), .int .i64 (i : Int), .int .i64 (j : Int)] w fun e w' => e = .returned (.bool (R i j)) ∧ w = w' := by
  have c0 := hb.cell' hx
  have ht := rowW_bit R i j hj
  have hlt := rowW_lt R i
  have hb0 : 0 ≤ (rowW R i : Int) := by omega
  have hb1 : (rowW R i : Int) < 18446744073709551616 := by omega
  have hi' : (i : Int) < 64 := by omega
  have hj' : (j : Int) < 64 := by omega
  have hj0 : 0 ≤ (j : Int) := by omega
  have wj : IntKind.u64.wrap (j : Int) = (j : Int) := IntWalk.u64_in _ (by omega)
  generalize hX : rowW R i = X at *
  have K := Lib.hid (And.intro ht hlt)
  clear ht hb hx hX
  go_enter Try.func44, Try.ntmps44
  go_wp2
  go_ret
  exact ⟨ret_bool ((bit_test _ _ K.out.2).trans K.out.1), rfl⟩
end Go.Proofs.Ytjgkiiohbceocaa
namespace Go.Proofs.Ytjgkiiohbceocaa
open Go.RowKit
set_option linter.unusedVariables false
set_option linter.unusedSimpArgs false

/-- The edges, as a relation of nodes. -/
def relE (l : List Edg) : Nat → Nat → Bool := fun i j => l.any fun e => decide (e.f = (i : Int)) && decide (e.t = (j : Int))
def insE (E : Nat → Nat → Bool) (i j : Nat) : Nat → Nat → Bool := fun a b => E a b || (decide (a = i) && decide (b = j))
theorem insE_row (E : Nat → Nat → Bool) {i j : Nat} (hj : j < 64) : rowW (insE E i j) i = rowW E i ||| 2 ^ j := by
  apply Nat.eq_of_testBit_eq
  intro k
  rw [Nat.testBit_or, Nat.testBit_two_pow]
  unfold rowW
  rw [setW_bit, setW_bit, Nat.mul_zero, Nat.zero_add]
  unfold insE
  by_cases hk : k < 64
  · rw [decide_eq_true hk]
    by_cases e : k = j
    · subst e; simp
    · rw [decide_eq_false e, decide_eq_false (show ¬ j = k from fun h => e h.symm)]; simp
  · rw [decide_eq_false hk, decide_eq_false (show ¬ j = k by omega)]; rfl
theorem insE_other (E : Nat → Nat → Bool) {i j k : Nat} (h : k ≠ i) : insE E i j k = E k := by
  funext b
  unfold insE
  rw [decide_eq_false h, Bool.false_and, Bool.or_false]
theorem relE_snoc (l : List Edg) (e : Edg) {i j : Nat} (hf : e.f = (i : Int)) (ht : e.t = (j : Int)) : relE (l ++ [e]) = insE (relE l) i j := by
  funext a b
  unfold relE insE
  rw [List.any_append]
  congr 1
  simp only [List.any_cons, List.any_nil, Bool.or_false]
  rw [hf, ht]
  congr 1
  · rw [Bool.eq_iff_iff, decide_eq_true_eq, decide_eq_true_eq]; omega
  · rw [Bool.eq_iff_iff, decide_eq_true_eq, decide_eq_true_eq]; omega
/-- One entry of a closure's round. -/
def orRow (R : Nat → Nat → Bool) (i m : Nat) : Nat → Nat → Bool := fun a b => R a b || (decide (a = i) && R m b)
theorem orRow_row (R : Nat → Nat → Bool) (i m : Nat) : rowW (orRow R i m) i = rowW R i ||| rowW R m := by
  apply Nat.eq_of_testBit_eq
  intro k
  rw [Nat.testBit_or]
  unfold rowW
  rw [setW_bit, setW_bit, setW_bit, Nat.mul_zero, Nat.zero_add]
  unfold orRow
  by_cases hk : k < 64
  · rw [decide_eq_true hk]; simp
  · rw [decide_eq_false hk]; rfl
theorem orRow_other (R : Nat → Nat → Bool) {i m k : Nat} (h : k ≠ i) : orRow R i m k = R k := by
  funext b
  unfold orRow
  rw [decide_eq_false h, Bool.false_and, Bool.or_false]
/-- A round of the closure, as far as row i. -/
def wstTo (m i : Nat) (T : Nat → Nat → Bool) : Nat → Nat → Bool := fun a b => if a < i then wst m T a b else T a b
theorem wstTo_zero (m : Nat) (T : Nat → Nat → Bool) : wstTo m 0 T = T := by funext a b; unfold wstTo; rw [if_neg (Nat.not_lt_zero a)]
theorem wstTo_m (m i : Nat) (T : Nat → Nat → Bool) (b : Nat) : wstTo m i T m b = T m b := by
  unfold wstTo
  split
  · exact wst_row m T b
  · rfl
theorem wstTo_bit (m i : Nat) (T : Nat → Nat → Bool) : wstTo m i T i m = T i m := by unfold wstTo; rw [if_neg (Nat.lt_irrefl i)]
theorem wstTo_step (m i : Nat) (T : Nat → Nat → Bool) : wstTo m (i + 1) T = if T i m = true then orRow (wstTo m i T) i m else wstTo m i T := by
  funext a b
  by_cases h : T i m = true
  · rw [if_pos h]
    unfold orRow
    rw [wstTo_m]
    by_cases ha : a = i
    · subst ha
      unfold wstTo
      rw [if_pos (Nat.lt_succ_self a), if_neg (Nat.lt_irrefl a), decide_eq_true rfl, Bool.true_and]
      unfold wst
      rw [h, Bool.true_and]
    · rw [decide_eq_false ha, Bool.false_and, Bool.or_false]
      unfold wstTo
      by_cases hl : a < i
      · rw [if_pos hl, if_pos (by omega)]
      · rw [if_neg hl, if_neg (by omega)]
  · rw [if_neg h]
    rw [Bool.not_eq_true] at h
    by_cases ha : a = i
    · subst ha
      unfold wstTo
      rw [if_pos (Nat.lt_succ_self a), if_neg (Nat.lt_irrefl a)]
      unfold wst
      rw [h, Bool.false_and, Bool.or_false]
    · unfold wstTo
      by_cases hl : a < i
      · rw [if_pos hl, if_pos (by omega)]
      · rw [if_neg hl, if_neg (by omega)]
theorem wstTo_all {n m : Nat} {T : Nat → Nat → Bool} (h : Within n T) : wstTo m n T = wst m T := by
  funext a b
  unfold wstTo
  by_cases ha : a < n
  · rw [if_pos ha]
  · rw [if_neg ha]
    unfold wst
    cases e : T a m
    · rw [Bool.false_and, Bool.or_false]
    · exact absurd (h a m e).1 ha
end Go.Proofs.Ytjgkiiohbceocaa
