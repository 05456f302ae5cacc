/-
  Links, as words of bits; (*links).goes, walked; conditions: nodes below 64.
-/
import Derived.Test.YtjgkiiohbceocaaScB
import Derived.Laws.BitsAllLaws
import Derived.WalkSpells
import Derived.WalkLawsBesides
namespace Go.Proofs.Ytjgkiiohbceocaa
open Go.RowKit
set_option linter.unusedVariables false
set_option linter.unusedSimpArgs false

theorem bit_test (x k : Nat) (hx : x < 18446744073709551616) : (bits .and .u64 ((x : Int) / 2 ^ k) 1 == 1) = x.testBit k := by
  have e : ((x : Int) / 2 ^ k) = ((x / 2 ^ k : Nat) : Int) := by simp
  have hle : x / 2 ^ k ≤ x := Nat.div_le_self _ _
  rw [e, show (1 : Int) = ((1 : Nat) : Int) from rfl, u64_and_nat _ _ (by omega) (by omega), nat_mask1, Nat.testBit_eq_decide_div_mod_eq]
  rw [Bool.eq_iff_iff]
  simp only [beq_iff_eq, decide_eq_true_eq]
  omega

/-- The word of a row of a relation. -/
def rowW (E : Nat → Nat → Bool) (i : Nat) : Nat := setW (E i) 0
theorem rowW_lt (E : Nat → Nat → Bool) (i : Nat) : rowW E i < 18446744073709551616 := setW_lt _ _
theorem rowW_bit (E : Nat → Nat → Bool) (i j : Nat) (hj : j < 64) : (rowW E i).testBit j = E i j := by
  unfold rowW
  rw [setW_bit, decide_eq_true hj, Bool.true_and, Nat.mul_zero, Nat.zero_add]
/-- The cells of links. -/
def lnkC (E R : Nat → Nat → Bool) : Array Value := ((List.range 64).map (fun i => Value.int .u64 (rowW E i : Int)) ++ (List.range 64).map (fun i => Value.int .u64 (rowW R i : Int))).toArray
theorem lnkC_next (E R : Nat → Nat → Bool) {i : Nat} (hi : i < 64) : (lnkC E R)[i]? = some (.int .u64 (rowW E i : Int)) := by
  unfold lnkC
  rw [List.getElem?_toArray, List.getElem?_append_left (by simpa using hi), List.getElem?_map, List.getElem?_range hi]; rfl
theorem lnkC_reach (E R : Nat → Nat → Bool) {i : Nat} (hi : i < 64) : (lnkC E R)[64 + i]? = some (.int .u64 (rowW R i : Int)) := by
  unfold lnkC
  rw [List.getElem?_toArray, List.getElem?_append_right (by simp), List.getElem?_map, show 64 + i - (List.map (fun i => Value.int .u64 (rowW E i : Int)) (List.range 64)).length = i by simp, List.getElem?_range hi]; rfl
theorem lnkC_size (E R : Nat → Nat → Bool) : (lnkC E R).size = 128 := by simp [lnkC]
/-- Rows that are equal but at one place. -/
theorem lnkC_set_next {E F R : Nat → Nat → Bool} {i : Nat} (hi : i < 64) {x : Nat} (hx : x = rowW F i) (h : ∀ k, k ≠ i → F k = E k) : (lnkC E R).setIfInBounds i (.int .u64 (x : Int)) = lnkC F R := by
  apply Array.ext_getElem?
  intro k
  rw [Array.getElem?_setIfInBounds]
  by_cases hk : i = k
  · subst hk
    rw [if_pos rfl, if_pos (by rw [lnkC_size]; omega), lnkC_next F R hi, hx]
  · rw [if_neg hk]
    by_cases h1 : k < 64
    · rw [lnkC_next E R h1, lnkC_next F R h1]
      unfold rowW
      rw [h k (fun e => hk e.symm)]
    · by_cases h2 : k < 128
      · obtain ⟨d, rfl⟩ : ∃ d, k = 64 + d := ⟨k - 64, by omega⟩
        rw [lnkC_reach E R (by omega), lnkC_reach F R (by omega)]
      · rw [Array.getElem?_eq_none (by rw [lnkC_size]; omega), Array.getElem?_eq_none (by rw [lnkC_size]; omega)]
theorem lnkC_set_reach {E R Q : Nat → Nat → Bool} {i : Nat} (hi : i < 64) {x : Nat} (hx : x = rowW Q i) (h : ∀ k, k ≠ i → Q k = R k) : (lnkC E R).setIfInBounds (64 + i) (.int .u64 (x : Int)) = lnkC E Q := by
  apply Array.ext_getElem?
  intro k
  rw [Array.getElem?_setIfInBounds]
  by_cases hk : 64 + i = k
  · subst hk
    rw [if_pos rfl, if_pos (by rw [lnkC_size]; omega), lnkC_reach E Q hi, hx]
  · rw [if_neg hk]
    by_cases h1 : k < 64
    · rw [lnkC_next E R h1, lnkC_next E Q h1]
    · by_cases h2 : k < 128
      · obtain ⟨d, rfl⟩ : ∃ d, k = 64 + d := ⟨k - 64, by omega⟩
        rw [lnkC_reach E R (by omega), lnkC_reach E Q (by omega)]
        unfold rowW
        rw [h d (by omega)]
      · rw [Array.getElem?_eq_none (by rw [lnkC_size]; omega), Array.getElem?_eq_none (by rw [lnkC_size]; omega)]

set_option maxRecDepth 100000 in
set_option maxHeartbeats 1000000 in
theorem goes_code (b : Nat) (T : TypeId) (cs : Array Value) (R : Nat → Nat → Bool) (i j : Nat) (w : World) (hb : Blk w b T cs) (hx : cs[64 + i]? = some (.int .u64 (rowW R i : Int))) (hi : i < 64) (hj : j < 64) :
    Calls Try.prog 44 #[.pointer (some ⟨b, 0, none⟩), .int .i64 (i : Int), .int .i64 (j : Int)] w fun e w' => e = .returned (.bool (R i j)) ∧ w = w' := by
  have c0 := hb.cell' hx
  have ht := rowW_bit R i j hj
  have hlt := rowW_lt R i
  have hb0 : 0 ≤ (rowW R i : Int) := by omega
  have hb1 : (rowW R i : Int) < 18446744073709551616 := by omega
  have hi' : (i : Int) < 64 := by omega
  have hj' : (j : Int) < 64 := by omega
  have hj0 : 0 ≤ (j : Int) := by omega
  have wj : IntKind.u64.wrap (j : Int) = (j : Int) := IntWalk.u64_in _ (by omega)
  generalize hX : rowW R i = X at *
  have K := Lib.hid (And.intro ht hlt)
  clear ht hb hx hX
  go_enter Try.func44, Try.ntmps44
  go_wp2
  go_ret
  exact ⟨ret_bool ((bit_test _ _ K.out.2).trans K.out.1), rfl⟩
end Go.Proofs.Ytjgkiiohbceocaa
