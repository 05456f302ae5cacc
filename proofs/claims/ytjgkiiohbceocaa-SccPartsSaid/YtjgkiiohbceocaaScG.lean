/-
  The order of components, as plain functions: who comes first, the reference's way of finding the next one; no program is in sight; no condition.
-/
import Derived.Test.YtjgkiiohbceocaaScA
namespace Go.Proofs.Ytjgkiiohbceocaa
set_option linter.unusedVariables false
set_option linter.unusedSimpArgs false

/-- Roots in ascending order: the list of those left. -/
structure LeftOk (n : Nat) (T : Nat → Nat → Bool) (left : List Nat) : Prop where
  asc : left.Pairwise (· < ·)
  lt : ∀ r ∈ left, r < n
  root : ∀ r ∈ left, isRoot T r = true
theorem LeftOk.roots (n : Nat) (T : Nat → Nat → Bool) : LeftOk n T (roots n T) := by
  refine ⟨?_, fun r h => (mem_roots.1 h).1, fun r h => (mem_roots.1 h).2⟩
  unfold Go.Proofs.Ytjgkiiohbceocaa.roots
  exact List.Pairwise.filter _ List.pairwise_lt_range
theorem LeftOk.erase {n : Nat} {T : Nat → Nat → Bool} {left : List Nat} (h : LeftOk n T left) (r : Nat) : LeftOk n T (left.erase r) :=
  ⟨h.asc.sublist List.erase_sublist, fun a ha => h.lt a (List.mem_of_mem_erase ha), fun a ha => h.root a (List.mem_of_mem_erase ha)⟩
theorem LeftOk.nodup {n : Nat} {T : Nat → Nat → Bool} {left : List Nat} (h : LeftOk n T left) : left.Nodup := h.asc.imp (fun h => Nat.ne_of_lt h)
theorem LeftOk.one {n : Nat} {T : Nat → Nat → Bool} {left : List Nat} (h : LeftOk n T left) : ∀ a ∈ left, ∀ b ∈ left, tog T a b = true → a = b :=
  fun a ha b hb ht => root_one (h.root a ha) (h.root b hb) ht
theorem mem_erase_of {n : Nat} {T : Nat → Nat → Bool} {left : List Nat} (h : LeftOk n T left) {a r : Nat} : a ∈ left.erase r ↔ a ≠ r ∧ a ∈ left := h.nodup.mem_erase_iff

theorem find_asc {p : Nat → Bool} : ∀ {l : List Nat} {r : Nat}, l.Pairwise (· < ·) → l.find? p = some r → ∀ s ∈ l, s < r → p s = false
  | [], r, _, h, s, hs, _ => by cases hs
  | a :: l, r, hp, h, s, hs, hlt => by
    rw [List.find?_cons] at h
    rw [List.pairwise_cons] at hp
    cases e : p a with
    | true =>
      rw [e] at h
      simp only [Option.some.injEq] at h
      subst h
      rcases List.mem_cons.1 hs with rfl | hs
      · omega
      · have := hp.1 s hs; omega
    | false =>
      rw [e] at h
      rcases List.mem_cons.1 hs with rfl | hs
      · exact e
      · exact find_asc hp.2 h s hs hlt

/-! The reference's next one. -/
def doneOf (T : Nat → Nat → Bool) (left : List Nat) (k : Nat) : Bool := !left.any fun r => tog T r k
def okF (n : Nat) (T : Nat → Nat → Bool) (done : Nat → Bool) (i : Nat) : Bool := !done i && (List.range n).all fun k => done k || tog T i k || !T k i
def firstR (n : Nat) (T : Nat → Nat → Bool) (done : Nat → Bool) : Option Nat := (List.range n).find? (okF n T done)
theorem doneOf_false {T : Nat → Nat → Bool} {left : List Nat} {k : Nat} : doneOf T left k = false ↔ ∃ r ∈ left, tog T r k = true := by
  unfold doneOf
  rw [Bool.not_eq_false', List.any_eq_true]
theorem okF_iff {n : Nat} {T : Nat → Nat → Bool} {done : Nat → Bool} {i : Nat} : okF n T done i = true ↔ done i = false ∧ ∀ k, k < n → done k = true ∨ tog T i k = true ∨ T k i = false := by
  unfold okF
  rw [Bool.and_eq_true, List.all_eq_true, Bool.not_eq_true']
  constructor
  · rintro ⟨h, g⟩
    refine ⟨h, fun k hk => ?_⟩
    have := g k (List.mem_range.2 hk)
    rw [Bool.or_eq_true, Bool.or_eq_true, Bool.not_eq_true'] at this
    rcases this with (h | h) | h
    · exact .inl h
    · exact .inr (.inl h)
    · exact .inr (.inr h)
  · rintro ⟨h, g⟩
    refine ⟨h, fun k hk => ?_⟩
    rw [Bool.or_eq_true, Bool.or_eq_true, Bool.not_eq_true']
    rcases g k (List.mem_range.1 hk) with h | h | h
    · exact .inl (.inl h)
    · exact .inl (.inr h)
    · exact .inr h
theorem freeR_iff {T : Nat → Nat → Bool} {left : List Nat} {r : Nat} : freeR T left r = true ↔ ∀ k ∈ left, k = r ∨ T k r = false := by
  unfold freeR
  rw [List.all_eq_true]
  constructor
  · intro h k hk
    have := h k hk
    rwa [Bool.or_eq_true, decide_eq_true_eq, Bool.not_eq_true'] at this
  · intro h k hk
    rw [Bool.or_eq_true, decide_eq_true_eq, Bool.not_eq_true']
    exact h k hk
theorem ok_root {n : Nat} {T : Nat → Nat → Bool} (ht : Trans' T) {left : List Nat} (hl : LeftOk n T left) {r : Nat} (hr : r ∈ left) : okF n T (doneOf T left) r = freeR T left r := by
  rw [Bool.eq_iff_iff, okF_iff, freeR_iff]
  constructor
  · rintro ⟨_, h⟩ k hk
    by_cases e : k = r
    · exact .inl e
    · rcases h k (hl.lt k hk) with h1 | h1 | h1
      · rw [doneOf_false.2 ⟨k, hk, tog_refl T k⟩] at h1; cases h1
      · exact .inl (root_one (hl.root k hk) (hl.root r hr) (tog_symm h1))
      · exact .inr h1
  · intro h
    refine ⟨doneOf_false.2 ⟨r, hr, tog_refl T r⟩, fun k hk => ?_⟩
    cases hd : doneOf T left k with
    | true => exact .inl rfl
    | false =>
      obtain ⟨s, hs, hsk⟩ := doneOf_false.1 hd
      rcases h s hs with rfl | h1
      · exact .inr (.inl hsk)
      · refine .inr (.inr ?_)
        cases e : T k r with
        | false => rfl
        | true =>
          rw [tog_reach ht (tog_symm hsk) (tog_refl T r) e] at h1
          cases h1
theorem ok_other {n : Nat} {T : Nat → Nat → Bool} (ht : Trans' T) {left : List Nat} (hl : LeftOk n T left) {i : Nat} (h : okF n T (doneOf T left) i = true) : ∃ r ∈ left, r ≤ i ∧ freeR T left r = true := by
  obtain ⟨h0, h⟩ := okF_iff.1 h
  obtain ⟨r, hr, hri⟩ := doneOf_false.1 h0
  refine ⟨r, hr, ?_, ?_⟩
  · rcases Nat.lt_or_ge i r with hlt | hge
    · have := tog_symm hri
      rw [isRoot_iff.1 (hl.root r hr) i hlt] at this
      cases this
    · exact hge
  · rw [← ok_root ht hl hr, okF_iff]
    refine ⟨doneOf_false.2 ⟨r, hr, tog_refl T r⟩, fun k hk => ?_⟩
    rcases h k hk with h1 | h1 | h1
    · exact .inl h1
    · exact .inr (.inl (tog_trans ht hri h1))
    · refine .inr (.inr ?_)
      cases e : T k r with
      | false => rfl
      | true =>
        rw [tog_reach ht (tog_refl T k) hri e] at h1
        cases h1
theorem find_range {n r : Nat} {p : Nat → Bool} (hr : r < n) (hp : p r = true) (h : ∀ i, i < r → p i = false) : (List.range n).find? p = some r := by
  rw [List.find?_range_eq_some]
  refine ⟨hp, List.mem_range.2 hr, fun i hi => ?_⟩
  rw [h i hi]; rfl
theorem find_range_none {n : Nat} {p : Nat → Bool} (h : ∀ i, i < n → p i = false) : (List.range n).find? p = none := by
  rw [List.find?_eq_none]
  intro i hi
  rw [h i (List.mem_range.1 hi)]
  decide
/-- The reference finds the component that comes next. -/
theorem first_eq {n : Nat} {T : Nat → Nat → Bool} (ht : Trans' T) {left : List Nat} (hl : LeftOk n T left) : firstR n T (doneOf T left) = left.find? (freeR T left) := by
  by_cases hne : left = []
  · subst hne
    exact find_range_none (fun i _ => by
      cases e : okF n T (doneOf T []) i with
      | false => rfl
      | true =>
        obtain ⟨r, hr, _⟩ := ok_other ht hl e
        cases hr)
  · obtain ⟨r, h1, h2, h3⟩ := find_free ht hne hl.one
    rw [h1]
    refine find_range (hl.lt r h2) ((ok_root ht hl h2).trans h3) (fun i hi => ?_)
    cases e : okF n T (doneOf T left) i with
    | false => rfl
    | true =>
      obtain ⟨s, hs, hsi, hf⟩ := ok_other ht hl e
      rw [find_asc hl.asc h1 s hs (by omega)] at hf
      cases hf
/-- What is done behind it. -/
theorem done_next {n : Nat} {T : Nat → Nat → Bool} (ht : Trans' T) {left : List Nat} (hl : LeftOk n T left) {r : Nat} (hr : r ∈ left) (k : Nat) : doneOf T (left.erase r) k = (doneOf T left k || tog T r k) := by
  cases h1 : tog T r k with
  | true =>
    rw [Bool.or_true]
    cases h : doneOf T (left.erase r) k with
    | true => rfl
    | false =>
      obtain ⟨s, hs, hsk⟩ := doneOf_false.1 h
      have h2 := (mem_erase_of hl).1 hs
      exact absurd (hl.one s h2.2 r hr (tog_trans ht hsk (tog_symm h1))) h2.1
  | false =>
    rw [Bool.or_false]
    suffices key : doneOf T (left.erase r) k = false ↔ doneOf T left k = false by
      cases ha : doneOf T (left.erase r) k <;> cases hb : doneOf T left k
      · rfl
      · rw [key.1 ha] at hb; cases hb
      · rw [key.2 hb] at ha; cases ha
      · rfl
    rw [doneOf_false, doneOf_false]
    constructor
    · rintro ⟨s, hs, hk⟩
      exact ⟨s, ((mem_erase_of hl).1 hs).2, hk⟩
    · rintro ⟨s, hs, hk⟩
      refine ⟨s, (mem_erase_of hl).2 ⟨fun e => ?_, hs⟩, hk⟩
      subst e
      rw [h1] at hk; cases hk
theorem done_start {n : Nat} {T : Nat → Nat → Bool} (ht : Trans' T) {k : Nat} (hk : k < n) : doneOf T (roots n T) k = false := by
  obtain ⟨r, h1, h2, h3⟩ := root_of ht k
  exact doneOf_false.2 ⟨r, mem_roots.2 ⟨by omega, h2⟩, h3⟩

/-! The order. -/
theorem ordR_mem {n : Nat} {T : Nat → Nat → Bool} (ht : Trans' T) : ∀ (f : Nat) (left : List Nat), LeftOk n T left → left.length ≤ f → ∀ a, a ∈ ordR T f left ↔ a ∈ left
  | 0, left, hl, hf, a => by
    have : left = [] := List.length_eq_zero_iff.1 (by omega)
    subst this
    rfl
  | f + 1, left, hl, hf, a => by
    by_cases hne : left = []
    · subst hne; rfl
    · obtain ⟨r, h1, h2, h3⟩ := find_free ht hne hl.one
      have hlen := List.length_erase_of_mem h2
      have hpos : 0 < left.length := List.length_pos_iff.2 hne
      unfold ordR
      rw [h1]
      show a ∈ r :: ordR T f (left.erase r) ↔ a ∈ left
      rw [List.mem_cons, ordR_mem ht f (left.erase r) (hl.erase r) (by omega), mem_erase_of hl]
      by_cases e : a = r
      · subst e; simp [h2]
      · simp [e]
theorem ordR_len {n : Nat} {T : Nat → Nat → Bool} (ht : Trans' T) : ∀ (f : Nat) (left : List Nat), LeftOk n T left → left.length ≤ f → (ordR T f left).length = left.length
  | 0, left, hl, hf => by
    have : left = [] := List.length_eq_zero_iff.1 (by omega)
    subst this
    rfl
  | f + 1, left, hl, hf => by
    by_cases hne : left = []
    · subst hne; rfl
    · obtain ⟨r, h1, h2, h3⟩ := find_free ht hne hl.one
      have hlen := List.length_erase_of_mem h2
      have hpos : 0 < left.length := List.length_pos_iff.2 hne
      unfold ordR
      rw [h1]
      show (r :: ordR T f (left.erase r)).length = left.length
      rw [List.length_cons, ordR_len ht f (left.erase r) (hl.erase r) (by omega)]
      omega
/-- No later one reaches an earlier one. -/
theorem ordR_topo {n : Nat} {T : Nat → Nat → Bool} (ht : Trans' T) : ∀ (f : Nat) (left : List Nat), LeftOk n T left → left.length ≤ f → (ordR T f left).Pairwise (fun a b => a ≠ b ∧ T b a = false)
  | 0, left, hl, hf => by unfold ordR; exact List.Pairwise.nil
  | f + 1, left, hl, hf => by
    by_cases hne : left = []
    · subst hne; exact List.Pairwise.nil
    · obtain ⟨r, h1, h2, h3⟩ := find_free ht hne hl.one
      have hlen := List.length_erase_of_mem h2
      have hpos : 0 < left.length := List.length_pos_iff.2 hne
      unfold ordR
      rw [h1]
      refine List.pairwise_cons.2 ⟨fun a ha => ?_, ordR_topo ht f (left.erase r) (hl.erase r) (by omega)⟩
      have hm := (mem_erase_of hl).1 ((ordR_mem ht f (left.erase r) (hl.erase r) (by omega) a).1 ha)
      refine ⟨fun e => hm.1 e.symm, ?_⟩
      rcases freeR_iff.1 h3 a hm.2 with e | e
      · exact absurd e hm.1
      · exact e
theorem roots_len (n : Nat) (T : Nat → Nat → Bool) : (roots n T).length ≤ n := by
  unfold roots
  exact Nat.le_trans (List.length_filter_le _ _) (by simp)
theorem partsR_mem {n : Nat} {T : Nat → Nat → Bool} (ht : Trans' T) {a : Nat} : a ∈ partsR n T ↔ a < n ∧ isRoot T a = true := by
  unfold partsR
  rw [ordR_mem ht n _ (LeftOk.roots n T) (roots_len n T), mem_roots]
theorem partsR_len {n : Nat} {T : Nat → Nat → Bool} (ht : Trans' T) : (partsR n T).length ≤ n := by
  unfold partsR
  rw [ordR_len ht n _ (LeftOk.roots n T) (roots_len n T)]
  exact roots_len n T
theorem partsR_topo {n : Nat} {T : Nat → Nat → Bool} (ht : Trans' T) : (partsR n T).Pairwise (fun a b => a ≠ b ∧ T b a = false) :=
  ordR_topo ht n _ (LeftOk.roots n T) (roots_len n T)
theorem partsV_at {n : Nat} {T : Nat → Nat → Bool} {i : Nat} {l : List Nat} (h : (partsV n T)[i]? = some l) : ∃ r, (partsR n T)[i]? = some r ∧ l = mem_ n T r := by
  unfold partsV at h
  rw [List.getElem?_map] at h
  cases e : (partsR n T)[i]? with
  | none => rw [e] at h; cases h
  | some r =>
    rw [e] at h
    exact ⟨r, rfl, (Option.some.inj h).symm⟩
theorem partsR_lt {n : Nat} {T : Nat → Nat → Bool} (ht : Trans' T) {i r : Nat} (h : (partsR n T)[i]? = some r) : r < n ∧ isRoot T r = true :=
  (partsR_mem ht).1 (List.mem_of_getElem? h)
/-- A component is not empty; it begins with its least node. -/
theorem partsV_ne {n : Nat} {T : Nat → Nat → Bool} (ht : Trans' T) {i : Nat} {l : List Nat} (h : (partsV n T)[i]? = some l) : ∃ r t, l = r :: t ∧ (partsR n T)[i]? = some r := by
  obtain ⟨r, hr, rfl⟩ := partsV_at h
  obtain ⟨h1, h2⟩ := partsR_lt ht hr
  obtain ⟨t, ht'⟩ := mem_head h1 h2
  exact ⟨r, t, ht', hr⟩
end Go.Proofs.Ytjgkiiohbceocaa
