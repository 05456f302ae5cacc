/-
  A valid graph's edges; the order of components, step by step, and each node's component, as plain functions; no condition.
-/
import Derived.Test.YtjgkiiohbceocaaScI
import Derived.Test.YtjgkiiohbceocaaScF
namespace Go.Proofs.Ytjgkiiohbceocaa
set_option linter.unusedVariables false
set_option linter.unusedSimpArgs false

theorem chkE_ok {n : Int} : ∀ {l : List Edg} {b : Option Edg} {i : Nat}, (chkE n b i l).1 = 0 → ∀ e ∈ l, okEd n e
  | [], _, _, _, e, he => by cases he
  | x :: l, b, i, h, e, he => by
    unfold chkE at h
    by_cases h1 : (nodE n x.f && nodE n x.t) = true
    · rw [if_pos h1] at h
      by_cases h2 : badE b x = true
      · rw [if_pos h2] at h; simp at h
      · rw [if_neg h2] at h
        rcases List.mem_cons.1 he with rfl | he
        · unfold nodE at h1
          rw [Bool.and_eq_true, Bool.and_eq_true, Bool.and_eq_true, decide_eq_true_eq, decide_eq_true_eq, decide_eq_true_eq, decide_eq_true_eq] at h1
          exact ⟨h1.1.1, h1.1.2, h1.2.1, h1.2.2⟩
        · exact chkE_ok h e he
    · rw [if_neg h1] at h; simp at h
theorem chkG_ok {n : Int} {l : List Edg} (h : (chkG n l).1 = 0) : 0 ≤ n ∧ n ≤ 64 ∧ ∀ e ∈ l, okEd n e := by
  unfold chkG at h
  by_cases h1 : outN n = true
  · rw [if_pos h1] at h; simp at h
  · rw [if_neg h1] at h
    unfold outN at h1
    rw [Bool.not_eq_true, Bool.or_eq_false_iff, decide_eq_false_iff_not, decide_eq_false_iff_not] at h1
    exact ⟨by omega, by omega, chkE_ok h⟩
theorem chkE_le {n : Int} : ∀ {l : List Edg} {b : Option Edg} {i : Nat}, 0 ≤ (chkE n b i l).1 ∧ (chkE n b i l).1 ≤ 8
  | [], _, _ => ⟨Int.le_refl _, (show (0 : Int) ≤ 8 by decide)⟩
  | x :: l, b, i => by
    unfold chkE
    by_cases h1 : (nodE n x.f && nodE n x.t) = true
    · rw [if_pos h1]
      by_cases h2 : badE b x = true
      · rw [if_pos h2]; exact ⟨(show (0 : Int) ≤ 8 by decide), Int.le_refl _⟩
      · rw [if_neg h2]; exact chkE_le
    · rw [if_neg h1]; exact ⟨(show (0 : Int) ≤ 2 by decide), (show (2 : Int) ≤ 8 by decide)⟩

/-! The order, step by step. -/
theorem ordR_fuel {n : Nat} {T : Nat → Nat → Bool} (ht : Trans' T) : ∀ (f : Nat) (left : List Nat), LeftOk n T left → left.length ≤ f → ordR T f left = ordR T left.length left
  | 0, left, hl, hf => by
    have : left = [] := List.length_eq_zero_iff.1 (by omega)
    subst this
    rfl
  | f + 1, left, hl, hf => by
    by_cases hne : left = []
    · subst hne; rfl
    · obtain ⟨r, h1, h2, h3⟩ := find_free ht hne hl.one
      have hlen := List.length_erase_of_mem h2
      have hpos : 0 < left.length := List.length_pos_iff.2 hne
      obtain ⟨m, hm⟩ : ∃ m, left.length = m + 1 := ⟨left.length - 1, by omega⟩
      rw [hm]
      show (match left.find? (freeR T left) with | none => [] | some r => r :: ordR T f (left.erase r)) = (match left.find? (freeR T left) with | none => [] | some r => r :: ordR T m (left.erase r))
      rw [h1]
      show r :: ordR T f (left.erase r) = r :: ordR T m (left.erase r)
      rw [ordR_fuel ht f _ (hl.erase r) (by omega), ordR_fuel ht m _ (hl.erase r) (by omega)]
theorem ordR_step {n : Nat} {T : Nat → Nat → Bool} (ht : Trans' T) {left : List Nat} (hl : LeftOk n T left) {r : Nat} (h1 : left.find? (freeR T left) = some r) : ordR T left.length left = r :: ordR T (left.erase r).length (left.erase r) := by
  have h2 := List.mem_of_find?_eq_some h1
  have hlen := List.length_erase_of_mem h2
  have hpos : 0 < left.length := List.length_pos_of_mem h2
  obtain ⟨m, hm⟩ : ∃ m, left.length = m + 1 := ⟨left.length - 1, by omega⟩
  rw [hm]
  show (match left.find? (freeR T left) with | none => [] | some r => r :: ordR T m (left.erase r)) = _
  rw [h1]
  show r :: ordR T m (left.erase r) = _
  rw [hlen, hm]
  rfl
/-- The first one that a test holds of, by its place. -/
theorem find_at {p : Nat → Bool} : ∀ {l : List Nat} {k r : Nat}, l[k]? = some r → p r = true → (∀ j, j < k → ∀ s, l[j]? = some s → p s = false) → l.find? p = some r
  | [], _, _, h, _, _ => by simp at h
  | a :: l, 0, r, h, hp, _ => by
    simp at h
    subst h
    rw [List.find?_cons, hp]
  | a :: l, k + 1, r, h, hp, hj => by
    rw [List.find?_cons, hj 0 (by omega) a rfl]
    exact find_at (k := k) (by simpa using h) hp (fun j hjk s hs => hj (j + 1) (by omega) s (by simpa using hs))
theorem erase_at : ∀ {l : List Nat} {k r : Nat}, l.Nodup → l[k]? = some r → l.erase r = l.take k ++ l.drop (k + 1)
  | [], _, _, _, h => by simp at h
  | a :: l, 0, r, hn, h => by
    simp at h
    subst h
    rw [List.erase_cons_head]; rfl
  | a :: l, k + 1, r, hn, h => by
    rw [List.nodup_cons] at hn
    have h' : l[k]? = some r := by simpa using h
    have hne : a ≠ r := fun e => by subst e; exact hn.1 (List.mem_of_getElem? h')
    rw [List.erase_cons_tail (by simpa using hne), erase_at hn.2 h']
    rfl
/-- Whose component a node is in, so far. -/
def pf (T : Nat → Nat → Bool) (ps : List Nat) (k : Nat) : Nat := if ps.any (fun r => tog T r k) then ps.findIdx (fun r => tog T r k) else 0
theorem pf_nil (T : Nat → Nat → Bool) (k : Nat) : pf T [] k = 0 := rfl
theorem pf_in {T : Nat → Nat → Bool} {ps : List Nat} {r k : Nat} (hno : ∀ s ∈ ps, tog T s k = false) (h : tog T r k = true) : pf T (ps ++ [r]) k = ps.length := by
  unfold pf
  rw [List.any_append, if_pos (by simp [h]), List.findIdx_append, if_neg]
  · rw [List.findIdx_cons, h]; simp
  · rw [List.findIdx_eq_length.2 hno]
    omega
theorem pf_out {T : Nat → Nat → Bool} {ps : List Nat} {r k : Nat} (h : tog T r k = false) : pf T (ps ++ [r]) k = pf T ps k := by
  unfold pf
  rw [List.any_append]
  have e : ([r].any fun r => tog T r k) = false := by simp [h]
  rw [e, Bool.or_false]
  by_cases h1 : ps.any (fun r => tog T r k) = true
  · rw [if_pos h1, if_pos h1, List.findIdx_append, if_pos]
    rw [List.findIdx_lt_length]
    obtain ⟨s, hs, hk⟩ := List.any_eq_true.1 h1
    exact ⟨s, hs, hk⟩
  · rw [if_neg h1, if_neg h1]
/-- The place of a node's component. -/
def partI (n : Nat) (T : Nat → Nat → Bool) : Nat → Nat := pf T (partsR n T)
theorem partI_at {n : Nat} {T : Nat → Nat → Bool} (ht : Trans' T) {i r k : Nat} (hr : (partsR n T)[i]? = some r) (h : tog T r k = true) : partI n T k = i := by
  obtain ⟨hi, he⟩ := List.getElem?_eq_some_iff.1 hr
  unfold partI pf
  rw [if_pos (List.any_eq_true.2 ⟨r, List.mem_of_getElem? hr, h⟩), List.findIdx_eq hi]
  refine ⟨by rw [he]; exact h, fun j hj => ?_⟩
  cases e : tog T (partsR n T)[j] k with
  | false => rfl
  | true =>
    have hp := List.pairwise_iff_getElem.1 (partsR_topo ht (n := n)) j i (by omega) hi hj
    have h1 := partsR_lt ht (n := n) (List.getElem?_eq_getElem (show j < (partsR n T).length by omega))
    have h2 := partsR_lt ht hr
    exact absurd (root_one h1.2 h2.2 (tog_trans ht e (tog_symm h))) (by rw [← he]; exact hp.1)
theorem partI_lt {n : Nat} {T : Nat → Nat → Bool} (ht : Trans' T) {k : Nat} (hk : k < n) : partI n T k < (partsR n T).length := by
  obtain ⟨r, h1, h2, h3⟩ := root_of ht k
  obtain ⟨i, hi⟩ := List.mem_iff_getElem?.1 ((partsR_mem (n := n) ht).2 ⟨by omega, h2⟩)
  rw [partI_at ht hi h3]
  exact (List.getElem?_eq_some_iff.1 hi).1
end Go.Proofs.Ytjgkiiohbceocaa
