/-
  Graphs, as plain functions: what a node reaches, components by their least nodes, their order; no program is in sight; no condition.
-/
import Derived.Test.YtjgkiiohbceocaaSetFn
namespace Go.Proofs.Ytjgkiiohbceocaa
set_option linter.unusedVariables false
set_option linter.unusedSimpArgs false

/-! What a node reaches. -/
/-- One round of the closure, by node k. -/
def wst (k : Nat) (T : Nat → Nat → Bool) : Nat → Nat → Bool := fun i j => T i j || (T i k && T k j)
/-- The closure by the nodes below n. -/
def clo (E : Nat → Nat → Bool) : Nat → Nat → Nat → Bool
  | 0 => E
  | n + 1 => wst n (clo E n)
theorem wst_row (k : Nat) (T : Nat → Nat → Bool) (j : Nat) : wst k T k j = T k j := by unfold wst; cases T k j <;> simp
theorem wst_col (k : Nat) (T : Nat → Nat → Bool) (i : Nat) : wst k T i k = T i k := by unfold wst; cases T i k <;> simp
theorem wst_iff {k : Nat} {T : Nat → Nat → Bool} {i j : Nat} : wst k T i j = true ↔ T i j = true ∨ (T i k = true ∧ T k j = true) := by
  unfold wst; rw [Bool.or_eq_true, Bool.and_eq_true]
theorem clo_trans (E : Nat → Nat → Bool) : ∀ m i j k, k < m → clo E m i k = true → clo E m k j = true → clo E m i j = true := by
  intro m
  induction m with
  | zero => intro i j k h; omega
  | succ m ih =>
    intro i j k hk h1 h2
    show wst m (clo E m) i j = true
    have h1 : wst m (clo E m) i k = true := h1
    have h2 : wst m (clo E m) k j = true := h2
    by_cases hm : k = m
    · subst hm
      rw [wst_col] at h1
      rw [wst_row] at h2
      exact wst_iff.2 (.inr ⟨h1, h2⟩)
    · have hk' : k < m := by omega
      rcases wst_iff.1 h1 with a | ⟨a, a'⟩ <;> rcases wst_iff.1 h2 with b | ⟨b, b'⟩
      · exact wst_iff.2 (.inl (ih i j k hk' a b))
      · exact wst_iff.2 (.inr ⟨ih i m k hk' a b, b'⟩)
      · exact wst_iff.2 (.inr ⟨a, ih m j k hk' a' b⟩)
      · exact wst_iff.2 (.inr ⟨a, b'⟩)
theorem clo_mono (E : Nat → Nat → Bool) : ∀ m i j, E i j = true → clo E m i j = true := by
  intro m
  induction m with
  | zero => intro i j h; exact h
  | succ m ih => intro i j h; exact wst_iff.2 (.inl (ih i j h))
/-- The closure is within every transitive relation that has the edges. -/
theorem clo_least (E : Nat → Nat → Bool) (R : Nat → Nat → Prop) (hE : ∀ i j, E i j = true → R i j) (ht : ∀ i j k, R i k → R k j → R i j) : ∀ m i j, clo E m i j = true → R i j := by
  intro m
  induction m with
  | zero => intro i j h; exact hE i j h
  | succ m ih =>
    intro i j h
    rcases wst_iff.1 h with a | ⟨a, b⟩
    · exact ih i j a
    · exact ht i j m (ih i m a) (ih m j b)
/-- Edges among n nodes. -/
def Within (n : Nat) (E : Nat → Nat → Bool) : Prop := ∀ i j, E i j = true → i < n ∧ j < n
theorem clo_within {n : Nat} {E : Nat → Nat → Bool} (h : Within n E) (m : Nat) : Within n (clo E m) := fun i j hr =>
  clo_least E (fun i j => i < n ∧ j < n) h (fun i j k a b => ⟨a.1, b.2⟩) m i j hr
/-- What a node of n reaches. -/
def rea (n : Nat) (E : Nat → Nat → Bool) : Nat → Nat → Bool := clo E n
theorem rea_trans {n : Nat} {E : Nat → Nat → Bool} (h : Within n E) {i j k : Nat} (h1 : rea n E i k = true) (h2 : rea n E k j = true) : rea n E i j = true :=
  clo_trans E n i j k (clo_within h n i k h1).2 h1 h2

/-! Components. -/
def tog (T : Nat → Nat → Bool) (a b : Nat) : Bool := decide (a = b) || (T a b && T b a)
theorem tog_iff {T : Nat → Nat → Bool} {a b : Nat} : tog T a b = true ↔ a = b ∨ (T a b = true ∧ T b a = true) := by
  unfold tog; rw [Bool.or_eq_true, decide_eq_true_eq, Bool.and_eq_true]
theorem tog_refl (T : Nat → Nat → Bool) (a : Nat) : tog T a a = true := tog_iff.2 (.inl rfl)
theorem tog_symm {T : Nat → Nat → Bool} {a b : Nat} (h : tog T a b = true) : tog T b a = true := by
  rcases tog_iff.1 h with h | ⟨h1, h2⟩
  · exact tog_iff.2 (.inl h.symm)
  · exact tog_iff.2 (.inr ⟨h2, h1⟩)
def Trans' (T : Nat → Nat → Bool) : Prop := ∀ i j k, T i k = true → T k j = true → T i j = true
theorem tog_trans {T : Nat → Nat → Bool} (ht : Trans' T) {a b c : Nat} (h1 : tog T a b = true) (h2 : tog T b c = true) : tog T a c = true := by
  rcases tog_iff.1 h1 with rfl | ⟨a1, a2⟩
  · exact h2
  · rcases tog_iff.1 h2 with rfl | ⟨b1, b2⟩
    · exact h1
    · exact tog_iff.2 (.inr ⟨ht _ _ _ a1 b1, ht _ _ _ b2 a2⟩)
/-- Whether a node reaches another one does not change within components. -/
theorem tog_reach {T : Nat → Nat → Bool} (ht : Trans' T) {a a' b b' : Nat} (h1 : tog T a a' = true) (h2 : tog T b b' = true) (h : T a b = true) : T a' b' = true := by
  have h3 : T a' b = true := by
    rcases tog_iff.1 h1 with rfl | ⟨_, a2⟩
    · exact h
    · exact ht _ _ _ a2 h
  rcases tog_iff.1 h2 with rfl | ⟨b1, _⟩
  · exact h3
  · exact ht _ _ _ h3 b1
/-- The nodes of a component. -/
def mem_ (n : Nat) (T : Nat → Nat → Bool) (r : Nat) : List Nat := (List.range n).filter fun k => tog T r k
/-- Whether a node is the least one of its component. -/
def isRoot (T : Nat → Nat → Bool) (r : Nat) : Bool := (List.range r).all fun k => !tog T k r
def roots (n : Nat) (T : Nat → Nat → Bool) : List Nat := (List.range n).filter fun r => isRoot T r
theorem isRoot_iff {T : Nat → Nat → Bool} {r : Nat} : isRoot T r = true ↔ ∀ k, k < r → tog T k r = false := by
  unfold isRoot
  rw [List.all_eq_true]
  constructor
  · intro h k hk
    have := h k (List.mem_range.2 hk)
    simpa using this
  · intro h k hk
    rw [h k (List.mem_range.1 hk)]; rfl
theorem mem_roots {n r : Nat} {T : Nat → Nat → Bool} : r ∈ roots n T ↔ r < n ∧ isRoot T r = true := by
  unfold roots; rw [List.mem_filter, List.mem_range]
theorem mem_mem {n r k : Nat} {T : Nat → Nat → Bool} : k ∈ mem_ n T r ↔ k < n ∧ tog T r k = true := by
  unfold mem_; rw [List.mem_filter, List.mem_range]
/-- Each node has a least one in its component. -/
theorem root_of {T : Nat → Nat → Bool} (ht : Trans' T) (a : Nat) : ∃ r, r ≤ a ∧ isRoot T r = true ∧ tog T r a = true := by
  induction a using Nat.strongRecOn with
  | ind a ih =>
    by_cases h : isRoot T a = true
    · exact ⟨a, Nat.le_refl _, h, tog_refl T a⟩
    · have : ∃ k, k < a ∧ tog T k a = true := by
        refine Classical.byContradiction fun hn => h (isRoot_iff.2 fun k hk => ?_)
        cases e : tog T k a
        · rfl
        · exact absurd ⟨k, hk, e⟩ hn
      obtain ⟨k, hk, hka⟩ := this
      obtain ⟨r, h1, h2, h3⟩ := ih k hk
      exact ⟨r, by omega, h2, tog_trans ht h3 hka⟩
theorem root_one {T : Nat → Nat → Bool} {r s : Nat} (hr : isRoot T r = true) (hs : isRoot T s = true) (h : tog T r s = true) : r = s := by
  rcases Nat.lt_trichotomy r s with hlt | e | hlt
  · rw [isRoot_iff.1 hs r hlt] at h; cases h
  · exact e
  · have e := isRoot_iff.1 hr s hlt
    rw [tog_symm h] at e
    cases e
/-- A root's component begins with it. -/
theorem mem_head {n r : Nat} {T : Nat → Nat → Bool} (hr : r < n) (h : isRoot T r = true) : ∃ t, mem_ n T r = r :: t := by
  unfold mem_
  have e : List.range n = List.range r ++ r :: (List.range (n - r - 1)).map (fun k => r + 1 + k) := by
    apply List.ext_getElem?
    intro i
    by_cases h1 : i < r
    · rw [List.getElem?_append_left (by simpa using h1), List.getElem?_range h1, List.getElem?_range (by omega)]
    · rw [List.getElem?_append_right (by simpa using Nat.le_of_not_lt h1), List.length_range]
      by_cases h2 : i = r
      · subst h2
        rw [Nat.sub_self, List.getElem?_range hr]; rfl
      · obtain ⟨d, hd⟩ : ∃ d, i - r = d + 1 := ⟨i - r - 1, by omega⟩
        rw [hd, List.getElem?_cons_succ, List.getElem?_map]
        by_cases h3 : i < n
        · rw [List.getElem?_range h3, List.getElem?_range (by omega)]
          show some i = some (r + 1 + d)
          congr 1; omega
        · rw [List.getElem?_eq_none (by simpa using Nat.le_of_not_lt h3), List.getElem?_eq_none (by simp; omega)]; rfl
  rw [e, List.filter_append]
  have h0 : (List.range r).filter (fun k => tog T r k) = [] := by
    rw [List.filter_eq_nil_iff]
    intro k hk hh
    have := isRoot_iff.1 h k (List.mem_range.1 hk)
    rw [tog_symm hh] at this
    cases this
  rw [h0, List.nil_append, List.filter_cons, if_pos (tog_refl T r)]
  exact ⟨_, rfl⟩

/-! The order of components: always the first one of those left that no other one of those left reaches. -/
def freeR (T : Nat → Nat → Bool) (left : List Nat) (r : Nat) : Bool := left.all fun k => decide (k = r) || !T k r
def ordR (T : Nat → Nat → Bool) : Nat → List Nat → List Nat
  | 0, _ => []
  | f + 1, left => match left.find? (freeR T left) with
    | none => []
    | some r => r :: ordR T f (left.erase r)
def partsR (n : Nat) (T : Nat → Nat → Bool) : List Nat := ordR T n (roots n T)
def partsV (n : Nat) (T : Nat → Nat → Bool) : List (List Nat) := (partsR n T).map (mem_ n T)
/-- One of those left is free. -/
theorem free_one {T : Nat → Nat → Bool} (ht : Trans' T) : ∀ (left : List Nat), left ≠ [] → (∀ a ∈ left, ∀ b ∈ left, tog T a b = true → a = b) → ∃ r ∈ left, freeR T left r = true
  | [], h, _ => absurd rfl h
  | [a], _, _ => ⟨a, by simp, by simp [freeR]⟩
  | a :: b :: l, _, h => by
    obtain ⟨r, hr, hf⟩ := free_one ht (b :: l) (by simp) (fun x hx y hy => h x (by simp at hx ⊢; exact .inr hx) y (by simp at hy ⊢; exact .inr hy))
    have hfr : ∀ k ∈ b :: l, k = r ∨ T k r = false := fun k hk => by
      have := List.all_eq_true.1 hf k hk
      simpa using this
    by_cases har : a = r ∨ T a r = false
    · refine ⟨r, List.mem_cons_of_mem _ hr, ?_⟩
      unfold freeR
      rw [List.all_cons, Bool.and_eq_true]
      refine ⟨?_, hf⟩
      rcases har with e | e
      · rw [decide_eq_true e]; rfl
      · rw [e]; simp
    · -- a reaches r: then a itself is free
      have hat : T a r = true := by
        cases e : T a r
        · exact absurd (.inr e) har
        · rfl
      refine ⟨a, by simp, ?_⟩
      unfold freeR
      rw [List.all_eq_true]
      intro k hk
      by_cases hka : k = a
      · rw [decide_eq_true hka]; rfl
      · cases e : T k a
        · simp
        · exfalso
          have hkl : k ∈ b :: l := by
            rcases List.mem_cons.1 hk with h1 | h1
            · exact absurd h1 hka
            · exact h1
          have hkr := ht _ _ _ e hat
          rcases hfr k hkl with h1 | h1
          · subst h1
            exact hka (h k hk a (by simp) (tog_iff.2 (.inr ⟨e, hat⟩)))
          · rw [h1] at hkr; cases hkr
theorem find_free {T : Nat → Nat → Bool} (ht : Trans' T) {left : List Nat} (hne : left ≠ []) (h : ∀ a ∈ left, ∀ b ∈ left, tog T a b = true → a = b) : ∃ r, left.find? (freeR T left) = some r ∧ r ∈ left ∧ freeR T left r = true := by
  obtain ⟨r, hr, hf⟩ := free_one ht left hne h
  cases e : left.find? (freeR T left) with
  | none => exact absurd hf (List.find?_eq_none.1 e r hr)
  | some s => exact ⟨s, rfl, List.mem_of_find?_eq_some e, List.find?_some e⟩
end Go.Proofs.Ytjgkiiohbceocaa
