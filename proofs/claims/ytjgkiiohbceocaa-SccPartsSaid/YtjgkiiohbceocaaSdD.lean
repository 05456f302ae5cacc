/-
  Words of bits for scc.Path, and its loops as plain functions; no program is in sight.
-/
import Derived.Test.YtjgkiiohbceocaaSdC
namespace Go.Proofs.Ytjgkiiohbceocaa
set_option linter.unusedVariables false
set_option linter.unusedSimpArgs false

/-- The word of a set of nodes. -/
def pW (p : Nat → Bool) : Nat := setW p 0
theorem pW_lt (p : Nat → Bool) : pW p < 18446744073709551616 := setW_lt _ _
theorem pW_bit (p : Nat → Bool) (k : Nat) : (pW p).testBit k = (decide (k < 64) && p k) := by
  unfold pW
  rw [setW_bit, Nat.mul_zero, Nat.zero_add]
theorem pW_ext {p q : Nat → Bool} (h : ∀ k, k < 64 → p k = q k) : pW p = pW q := by
  apply Nat.eq_of_testBit_eq
  intro k
  rw [pW_bit, pW_bit]
  by_cases hk : k < 64
  · rw [h k hk]
  · rw [decide_eq_false hk, Bool.false_and, Bool.false_and]
theorem pW_none {p : Nat → Bool} (h : ∀ k, p k = false) : pW p = 0 := by
  apply Nat.eq_of_testBit_eq
  intro k
  rw [pW_bit, h k, Bool.and_false, Nat.zero_testBit]
theorem pW_one {t : Nat} (ht : t < 64) : pW (fun k => decide (k = t)) = 2 ^ t := by
  apply Nat.eq_of_testBit_eq
  intro k
  rw [pW_bit, Nat.testBit_two_pow]
  by_cases e : k = t
  · subst e; simp [ht]
  · rw [decide_eq_false e, Bool.and_false, decide_eq_false (show ¬ t = k from fun h => e h.symm)]
theorem pW_or {p q : Nat → Bool} {i : Nat} (hi : i < 64) (h1 : q i = true) (h2 : ∀ k, k ≠ i → q k = p k) : pW p ||| 2 ^ i = pW q := by
  apply Nat.eq_of_testBit_eq
  intro k
  rw [Nat.testBit_or, pW_bit, pW_bit, Nat.testBit_two_pow]
  by_cases e : k = i
  · subst e; rw [h1]; simp [hi]
  · rw [h2 k e, decide_eq_false (show ¬ i = k from fun h => e h.symm), Bool.or_false]
theorem and_test {n : Nat} (hn : n ≤ 64) {E : Nat → Nat → Bool} (hw : Within n E) (i : Nat) (p : Nat → Bool) :
    (bits .and .u64 (rowW E i : Int) (pW p : Int) != 0) = (List.range n).any fun k => E i k && p k := by
  rw [u64_and_nat _ _ (rowW_lt _ _) (pW_lt _), Bool.eq_iff_iff, List.any_eq_true]
  have hb : ∀ k, (rowW E i &&& pW p).testBit k = (decide (k < 64) && (E i k && p k)) := by
    intro k
    rw [Nat.testBit_and, pW_bit]
    by_cases hk : k < 64
    · rw [rowW_bit _ _ _ hk, decide_eq_true hk, Bool.true_and, Bool.true_and]
    · rw [decide_eq_false hk, Bool.false_and, Bool.false_and, Bool.and_false]
  constructor
  · intro h
    have h0 : rowW E i &&& pW p ≠ 0 := by intro e; rw [e] at h; simp at h
    refine Classical.byContradiction fun hno => h0 ?_
    apply Nat.eq_of_testBit_eq
    intro k
    rw [hb, Nat.zero_testBit]
    cases e : (E i k && p k) with
    | false => rw [Bool.and_false]
    | true =>
      have e' := e
      rw [Bool.and_eq_true] at e'
      exact absurd ⟨k, List.mem_range.2 (hw i k e'.1).2, e⟩ hno
  · rintro ⟨k, hk, h⟩
    have h64 : k < 64 := by have := List.mem_range.1 hk; omega
    have := hb k
    rw [h, decide_eq_true h64] at this
    have h0 : rowW E i &&& pW p ≠ 0 := by intro e; rw [e, Nat.zero_testBit] at this; cases this
    simp only [bne_iff_ne, ne_eq]
    omega

/-! One round of the far loop, as far as node i. -/
def nxP (n : Nat) (E : Nat → Nat → Bool) (t d i k : Nat) : Bool := decide (k < i) && wlk n E (d + 1) k t
def frT (n : Nat) (E : Nat → Nat → Bool) (t d i k : Nat) : Nat := if k < i then farS n E t (d + 1) k else farS n E t d k
theorem nxP_hit {n : Nat} {E : Nat → Nat → Bool} {t d i : Nat} (hi : i < 64) (h : wlk n E (d + 1) i t = true) : pW (nxP n E t d i) ||| 2 ^ i = pW (nxP n E t d (i + 1)) := by
  refine pW_or hi ?_ (fun k hk => ?_)
  · unfold nxP; rw [h, decide_eq_true (Nat.lt_succ_self i)]; rfl
  · unfold nxP
    congr 1
    rw [Bool.eq_iff_iff, decide_eq_true_eq, decide_eq_true_eq]; omega
theorem nxP_miss {n : Nat} {E : Nat → Nat → Bool} {t d i : Nat} (h : wlk n E (d + 1) i t = false) : pW (nxP n E t d (i + 1)) = pW (nxP n E t d i) := by
  refine pW_ext (fun k _ => ?_)
  unfold nxP
  by_cases e : k = i
  · subst e; rw [h, Bool.and_false, Bool.and_false]
  · congr 1
    rw [Bool.eq_iff_iff, decide_eq_true_eq, decide_eq_true_eq]; omega
theorem nxP_zero (n : Nat) (E : Nat → Nat → Bool) (t d : Nat) : pW (nxP n E t d 0) = 0 := pW_none fun k => by unfold nxP; rw [decide_eq_false (Nat.not_lt_zero k)]; rfl
theorem nxP_all {n : Nat} {E : Nat → Nat → Bool} (hw : Within n E) {t d : Nat} : pW (nxP n E t d n) = pW (fun k => wlk n E (d + 1) k t) := by
  refine pW_ext (fun k _ => ?_)
  unfold nxP
  cases e : wlk n E (d + 1) k t with
  | false => rw [Bool.and_false]
  | true =>
    obtain ⟨x, h1, _⟩ := (wlk_succ hw).1 e
    rw [decide_eq_true (hw k x h1).1]; rfl
theorem frT_zero (n : Nat) (E : Nat → Nat → Bool) (t d k : Nat) : frT n E t d 0 k = farS n E t d k := by unfold frT; rw [if_neg (Nat.not_lt_zero k)]
theorem frT_all {n : Nat} {E : Nat → Nat → Bool} {t d k : Nat} (h : k < n) : frT n E t d n k = farS n E t (d + 1) k := by unfold frT; rw [if_pos h]
theorem frT_at (n : Nat) (E : Nat → Nat → Bool) (t d i : Nat) : frT n E t d i i = farS n E t d i := by unfold frT; rw [if_neg (Nat.lt_irrefl i)]
theorem frT_far {n : Nat} {E : Nat → Nat → Bool} {t d i k : Nat} (h : k ≠ i) : frT n E t d (i + 1) k = frT n E t d i k := by
  unfold frT
  by_cases h1 : k < i
  · rw [if_pos h1, if_pos (by omega)]
  · rw [if_neg h1, if_neg (by omega)]
theorem frT_new {n : Nat} {E : Nat → Nat → Bool} {t d i : Nat} (h1 : wlk n E (d + 1) i t = true) (h0 : farS n E t d i = 0) : frT n E t d (i + 1) i = d + 1 := by
  unfold frT
  rw [if_pos (Nat.lt_succ_self i)]
  show (if (decide (farS n E t d i = 0) && wlk n E (d + 1) i t) = true then d + 1 else farS n E t d i) = _
  rw [h1, decide_eq_true h0]; rfl
theorem frT_old {n : Nat} {E : Nat → Nat → Bool} {t d i k : Nat} (h : wlk n E (d + 1) i t = false ∨ farS n E t d i ≠ 0) : frT n E t d (i + 1) k = frT n E t d i k := by
  by_cases e : k = i
  · subst e
    rw [frT_at]
    unfold frT
    rw [if_pos (Nat.lt_succ_self k)]
    show (if (decide (farS n E t d k = 0) && wlk n E (d + 1) k t) = true then d + 1 else farS n E t d k) = _
    rcases h with h | h
    · rw [h, Bool.and_false]; rfl
    · rw [decide_eq_false h, Bool.false_and]; rfl
  · exact frT_far e

/-! The greedy loop. -/
def hitG (E : Nat → Nat → Bool) (F : Nat → Nat) (at_ d i : Nat) : Bool := E at_ i && decide (F i = d)
theorem gre_hit {n : Nat} {E : Nat → Nat → Bool} {F : Nat → Nat} {d a i : Nat} (hi : i < n) (h : hitG E F a (d + 1) i = true) (hb : ∀ k, k < i → hitG E F a (d + 1) k = false) : gre n E F (d + 1) a = i :: gre n E F d i := by
  have hf : (List.range n).find? (fun i => E a i && decide (F i = d + 1)) = some i := by
    rw [List.find?_range_eq_some]
    exact ⟨h, List.mem_range.2 hi, fun k hk => by rw [Bool.not_eq_true']; exact hb k hk⟩
  show (match (List.range n).find? (fun i => E a i && decide (F i = d + 1)) with | some i => i :: gre n E F d i | none => gre n E F d a) = _
  rw [hf]
theorem gre_miss {n : Nat} {E : Nat → Nat → Bool} {F : Nat → Nat} {d a : Nat} (hb : ∀ k, k < n → hitG E F a (d + 1) k = false) : gre n E F (d + 1) a = gre n E F d a := by
  have hf : (List.range n).find? (fun i => E a i && decide (F i = d + 1)) = none := by
    rw [List.find?_eq_none]
    intro k hk
    have := hb k (List.mem_range.1 hk)
    unfold hitG at this
    rw [this]; decide
  show (match (List.range n).find? (fun i => E a i && decide (F i = d + 1)) with | some i => i :: gre n E F d i | none => gre n E F d a) = _
  rw [hf]
theorem gre_len (n : Nat) (E : Nat → Nat → Bool) (F : Nat → Nat) : ∀ (d a : Nat), (gre n E F d a).length ≤ d
  | 0, _ => Nat.le_refl _
  | d + 1, a => by
    show (match (List.range n).find? (fun i => E a i && decide (F i = d + 1)) with | some i => i :: gre n E F d i | none => gre n E F d a).length ≤ d + 1
    split
    · rw [List.length_cons]; exact Nat.succ_le_succ (gre_len n E F d _)
    · exact Nat.le_succ_of_le (gre_len n E F d _)
theorem last_cons (a : Nat) (l : List Nat) : (a :: l)[l.length]? = some (lastOf a l) := by
  by_cases h : l = []
  · subst h; rfl
  · obtain ⟨p, x, rfl⟩ : ∃ p x, l = p ++ [x] := ⟨l.dropLast, l.getLast h, (List.dropLast_concat_getLast h).symm⟩
    rw [lastOf_snoc, List.length_append, List.length_singleton, ← List.cons_append, List.getElem?_append_right (by simp)]; simp

/-- What Path answers. -/
def ePath (n : Int) (l : List Edg) (a b : Int) : Int := if (chkG n l).1 = 0 then (if (0 ≤ a ∧ 0 ≤ b) ∧ a < n ∧ b < n then (if rR n l a.toNat b.toNat = true then 0 else 3) else 2) else (chkG n l).1
def pathV (n : Nat) (E : Nat → Nat → Bool) (a b : Nat) : List Nat := a :: (gre n E (farS n E b n) (farS n E b n a - 1) a ++ [b])
def vPath (n : Int) (l : List Edg) (a b : Int) : List Nat := if ePath n l a b = 0 then pathV n.toNat (relE l) a.toNat b.toNat else []
end Go.Proofs.Ytjgkiiohbceocaa
