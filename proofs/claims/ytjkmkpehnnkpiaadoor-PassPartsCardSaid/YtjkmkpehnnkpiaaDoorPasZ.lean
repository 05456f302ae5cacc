/-
  Plain laws of passes with fixed answers: made flags are without error; what is tried; no program is in sight; no condition.
-/
import Derived.Test.YtjkmkpehnnkpiaaDoorPasTr
namespace Go.Proofs.YtjkmkpehnnkpiaaDoor
open Go.RowKit Go.Joins Go.Shelf
set_option linter.unusedVariables false
set_option linter.unusedSimpArgs false

theorem mod4_cases (s : Int) : (1 + s % 4 = 1 ∨ 1 + s % 4 = 2 ∨ 1 + s % 4 = 3 ∨ 1 + s % 4 = 4) := by omega
theorem chk_skip (s : Int) (h : s = 1 ∨ s = 2 ∨ s = 3 ∨ s = 4) : chkF ⟨false, false, false, false, false, false, false, false, s, 0⟩ = 0 := by
  rcases h with rfl | rfl | rfl | rfl <;> decide
theorem chk_made (nx : Bool) (x : Int) : chkF (mkF nx x) = 0 := by
  have h0 := Int.emod_nonneg x (show (9 : Int) ≠ 0 by decide)
  have h1 := Int.emod_lt_of_pos x (show (0 : Int) < 9 by decide)
  obtain ⟨m, hm⟩ : ∃ m, x % 9 = m := ⟨_, rfl⟩
  rw [hm] at h0 h1
  have hc : m = 0 ∨ m = 1 ∨ m = 2 ∨ m = 3 ∨ m = 4 ∨ m = 5 ∨ m = 6 ∨ m = 7 ∨ m = 8 := by omega
  rw [mkF_of hm]
  rcases hc with rfl | rfl | rfl | rfl | rfl | rfl | rfl | rfl | rfl
  · rw [if_neg (show ¬ ((0 : Int) = 5) by decide)]; cases nx <;> decide
  · rw [if_neg (show ¬ ((1 : Int) = 5) by decide)]; cases nx <;> decide
  · rw [if_neg (show ¬ ((2 : Int) = 5) by decide)]; cases nx <;> decide
  · rw [if_neg (show ¬ ((3 : Int) = 5) by decide)]; cases nx <;> decide
  · rw [if_neg (show ¬ ((4 : Int) = 5) by decide)]; cases nx <;> decide
  · rw [if_pos rfl]
    have := chk_skip _ (mod4_cases (x.tdiv 9))
    cases nx <;> exact this
  · rw [if_neg (show ¬ ((6 : Int) = 5) by decide)]; cases nx <;> decide
  · rw [if_neg (show ¬ ((7 : Int) = 5) by decide)]; cases nx <;> decide
  · rw [if_neg (show ¬ ((8 : Int) = 5) by decide)]; cases nx <;> decide
theorem chkL_all {F : Nat → Flg} (h : ∀ k, chkF (F k) = 0) : ∀ n, chkL F n = 0 := by
  intro n
  induction n with
  | zero => rfl
  | succ n ih => unfold chkL; rw [if_pos ih]; exact h n
theorem flags_made (nx : Bool) (G : Nat → Int) (n : Nat) (hn : n ≤ 12) : flagsE (mkG nx G) n = 0 := by
  unfold flagsE
  rw [if_neg (by omega)]
  exact chkL_all (fun k => chk_made nx (G k)) n
theorem skip_made (nx : Bool) (G : Nat → Int) : SkipOk (mkG nx G) := fun i => by
  have h := (chkF_zero (chk_made nx (G i)))
  exact ⟨by show _ ≤ (mkF nx (G i)).skip; omega, by show (mkF nx (G i)).skip ≤ _; omega⟩
theorem made_no_next (G : Nat → Int) (k : Nat) : (mkG false G k).next = false := by show (decide _ && false) = false; simp

/-- The rules that are tried one after the other, with fixed answers. -/
def sq (F : Nat → Flg) (n : Nat) (H : Nat → Bool) : Nat → Nat
  | 0 => 0
  | i + 1 => nextP F n (sq F n H i) (H (sq F n H i))
theorem at_sq (F : Nat → Flg) (n q : Nat) (H : Nat → Bool) : ∀ i, i ≤ q → atN F n (ansF H q) 0 i = sq F n H i := by
  intro i
  induction i with
  | zero => intro _; rfl
  | succ i ih =>
    intro hi
    have e := ih (by omega)
    have ha : ansF H q (atN F n (ansF H q) 0 i) i = some (H (sq F n H i)) := by rw [e]; exact if_pos (by omega)
    rw [at_succ ha, e]
    rfl
theorem next_gt {F : Nat → Flg} {n k : Nat} {h : Bool} (hk : k < n) (hc : chkF (F k) = 0) (hx : h = false ∨ (F k).next = false) : k < nextP F n k h := by
  unfold nextP
  cases h with
  | true =>
    have hx : (F k).next = false := hx.resolve_left (by decide)
    rw [if_pos rfl, hx, if_neg (by decide)]
    split
    · exact hk
    · split
      · exact hk
      · omega
  | false =>
    rw [if_neg (by decide)]
    have := (chainTo_end F n n k (by omega) (by omega)).1
    omega
theorem sq_asc_next {F : Nat → Flg} {n : Nat} {H : Nat → Bool} (hc : ∀ k, chkF (F k) = 0) (hx : ∀ k, (F k).next = false) (i : Nat) (h : sq F n H i < n) : sq F n H i < sq F n H (i + 1) := next_gt h (hc _) (Or.inr (hx _))
/-- What is tried up to a step. -/
def Over (F : Nat → Flg) (n : Nat) (H : Nat → Bool) (i : Nat) : Prop := n ≤ sq F n H i ∧ ∀ j, j < i → sq F n H j < n
theorem sq_asc_over {F : Nat → Flg} {n : Nat} {H : Nat → Bool} (hc : ∀ k, chkF (F k) = 0) {i : Nat} (ho : Over F n H i) {a : Nat} (ha : a < i) : sq F n H a < sq F n H (a + 1) := by
  by_cases hx : H (sq F n H a) = false ∨ (F (sq F n H a)).next = false
  · exact next_gt (ho.2 a ha) (hc _) hx
  · exfalso
    have h1 : H (sq F n H a) = true := by cases h : H (sq F n H a) <;> simp_all
    have h2 : (F (sq F n H a)).next = true := by cases h : (F (sq F n H a)).next <;> simp_all
    have h0 : sq F n H (a + 1) = 0 := by
      show nextP F n _ _ = 0
      unfold nextP
      rw [if_pos h1, if_pos h2]
    have hper : ∀ m, sq F n H (a + 1 + m) = sq F n H m := by
      intro m
      induction m with
      | zero => exact h0
      | succ m ih => show nextP F n (sq F n H (a + 1 + m)) (H (sq F n H (a + 1 + m))) = nextP F n (sq F n H m) (H (sq F n H m)); rw [ih]
    have hall : ∀ m, m ≤ i → sq F n H m < n := by
      intro m hm
      by_cases hlt : m < i
      · exact ho.2 m hlt
      · obtain rfl : m = i := by omega
        have := hper (m - (a + 1))
        rw [show a + 1 + (m - (a + 1)) = m by omega] at this
        rw [this]
        exact ho.2 _ (by omega)
    have := hall i (Nat.le_refl _)
    have := ho.1
    omega
theorem sq_le_over {F : Nat → Flg} {n : Nat} {H : Nat → Bool} (hc : ∀ k, chkF (F k) = 0) {i : Nat} (ho : Over F n H i) : ∀ a b, a ≤ b → b ≤ i → sq F n H a + (b - a) ≤ sq F n H b := by
  intro a b hab
  obtain ⟨m, rfl⟩ := Nat.exists_eq_add_of_le hab
  clear hab
  induction m with
  | zero => intro _; simp
  | succ m ih =>
    intro hb
    have h1 := ih (by omega)
    have h2 := sq_asc_over hc ho (a := a + m) (by omega)
    rw [show a + m + 1 = a + (m + 1) by omega] at h2
    omega
theorem sq_le (F : Nat → Flg) (n : Nat) (H : Nat → Bool) (i : Nat) : sq F n H i ≤ n := by
  cases i with
  | zero => exact Nat.zero_le _
  | succ i => exact nextP_le F n _ _
theorem over_le {F : Nat → Flg} {n : Nat} {H : Nat → Bool} (hc : ∀ k, chkF (F k) = 0) {i : Nat} (ho : Over F n H i) : i ≤ n := by
  have h1 := sq_le_over hc ho 0 i (Nat.zero_le _) (Nat.le_refl _)
  have h2 := sq_le F n H i
  omega
theorem over_unique {F : Nat → Flg} {n : Nat} {H : Nat → Bool} {i j : Nat} (hi : Over F n H i) (hj : Over F n H j) : i = j := by
  rcases Nat.lt_trichotomy i j with h | h | h
  · have := hj.2 i h; have := hi.1; omega
  · exact h
  · have := hi.2 j h; have := hj.1; omega
/-- Where a run with fixed answers and q tries at most stops. -/
theorem fixed_stop {F : Nat → Flg} {n q i : Nat} {H : Nat → Bool} (hi : i ≤ q) (hh : Halt F n (ansF H q) 0 i) (hg : Good F n (ansF H q) 0 i) :
    (∀ j, j < i → sq F n H j < n) ∧ (Over F n H i ∨ (i = q ∧ sq F n H i < n)) := by
  have h1 : ∀ j, j < i → sq F n H j < n := fun j hj => by rw [← at_sq F n q H j (by omega)]; exact (hg j hj).1
  refine ⟨h1, ?_⟩
  by_cases h2 : sq F n H i < n
  · refine Or.inr ⟨?_, h2⟩
    rcases hh with hh | hh
    · rw [at_sq F n q H i hi] at hh; exact absurd h2 hh
    · by_cases e : i < q
      · rw [ansF, if_pos e] at hh; cases hh
      · omega
  · exact Or.inl ⟨by omega, h1⟩
/-- The list of what was tried, by the plain sequence. -/
def sqL (F : Nat → Flg) (n : Nat) (H : Nat → Bool) (i : Nat) : List Nat := (List.range i).map (sq F n H)
theorem tried_sq {F : Nat → Flg} {n q i : Nat} {H : Nat → Bool} (hi : i ≤ q) : triedN F n (ansF H q) 0 i = sqL F n H i := by
  unfold triedN sqL
  exact List.map_congr_left fun j hj => at_sq F n q H j (by have := List.mem_range.1 hj; omega)
theorem mem_sqL {F : Nat → Flg} {n i k : Nat} {H : Nat → Bool} : k ∈ sqL F n H i ↔ ∃ j, j < i ∧ sq F n H j = k := by
  unfold sqL
  rw [List.mem_map]
  exact ⟨fun ⟨j, h1, h2⟩ => ⟨j, List.mem_range.1 h1, h2⟩, fun ⟨j, h1, h2⟩ => ⟨j, List.mem_range.2 h1, h2⟩⟩
/-- Without Next every pass is over within as many tries as there are rules. -/
theorem over_no_next {F : Nat → Flg} {n : Nat} {H : Nat → Bool} (hc : ∀ k, chkF (F k) = 0) (hx : ∀ k, (F k).next = false) : ∃ i, Over F n H i := by
  have key : ∀ m, (∃ i, i ≤ m ∧ Over F n H i) ∨ (m ≤ sq F n H m ∧ ∀ j, j ≤ m → sq F n H j < n) := by
    intro m
    induction m with
    | zero =>
      by_cases h : sq F n H 0 < n
      · exact Or.inr ⟨Nat.zero_le _, fun j hj => by obtain rfl : j = 0 := by omega
                                                    exact h⟩
      · exact Or.inl ⟨0, Nat.le_refl _, by omega, fun j hj => absurd hj (by omega)⟩
    | succ m ih =>
      rcases ih with ⟨i, h1, h2⟩ | ⟨h1, h2⟩
      · exact Or.inl ⟨i, by omega, h2⟩
      · have h3 := sq_asc_next (H := H) hc hx m (h2 m (Nat.le_refl _))
        by_cases h : sq F n H (m + 1) < n
        · refine Or.inr ⟨by omega, fun j hj => ?_⟩
          by_cases e : j = m + 1
          · subst e; exact h
          · exact h2 j (by omega)
        · exact Or.inl ⟨m + 1, Nat.le_refl _, by omega, fun j hj => h2 j (by omega)⟩
  rcases key n with ⟨i, _, h⟩ | ⟨h1, h2⟩
  · exact ⟨i, h⟩
  · have := h2 n (Nat.le_refl _); omega
/-- Which rules are ever tried, nothing holding: those without a chain before them. -/
theorem chains_none {F : Nat → Flg} {n : Nat} (hc : ∀ k, chkF (F k) = 0) {i : Nat} (ho : Over F n (fun _ => false) i) (k : Nat) (hk : k < n) : inL (sqL F n (fun _ => false) i) k = (k == 0 || !(F (k - 1)).chain) := by
  have nx : ∀ r, r < n → ∀ e, ChainEnd F n r e → nextP F n r false = min (e + 1) n := fun r hr e he => by
    unfold nextP; rw [if_neg (by decide), chainTo_is (by omega) he]
  unfold inL
  rw [Bool.eq_iff_iff, decide_eq_true_eq, mem_sqL]
  simp only [Bool.or_eq_true, beq_iff_eq, Bool.not_eq_true']
  constructor
  · rintro ⟨j, hj, rfl⟩
    cases j with
    | zero => exact Or.inl rfl
    | succ j =>
      right
      have hj2 := ho.2 j (by omega)
      have he := chainTo_end F n n (sq F n (fun _ => false) j) (by omega) (by omega)
      have e := nx _ hj2 _ he
      have e' : sq F n (fun _ => false) (j + 1) = min (chainTo F n n (sq F n (fun _ => false) j) + 1) n := e
      rw [e'] at hk ⊢
      have hlt : chainTo F n n (sq F n (fun _ => false) j) < n := by omega
      rw [show min (chainTo F n n (sq F n (fun _ => false) j) + 1) n - 1 = chainTo F n n (sq F n (fun _ => false) j) by omega]
      exact he.2.2.2 hlt
  · intro h
    -- the last try at or before k
    have key : ∀ m, m ≤ i → (∃ j, j < m ∧ sq F n (fun _ => false) j = k) ∨ (∀ j, j < m → sq F n (fun _ => false) j < k) ∨ (∃ j, j < m ∧ k < sq F n (fun _ => false) j ∧ sq F n (fun _ => false) j < n ∧ (j = 0 ∨ sq F n (fun _ => false) (j - 1) < k)) := by
      intro m
      induction m with
      | zero => intro _; exact Or.inr (Or.inl fun j hj => absurd hj (by omega))
      | succ m ih =>
        intro hm
        rcases ih (by omega) with ⟨j, h1, h2⟩ | h1 | ⟨j, h1, h2⟩
        · exact Or.inl ⟨j, by omega, h2⟩
        · rcases Nat.lt_trichotomy (sq F n (fun _ => false) m) k with hlt | heq | hgt
          · refine Or.inr (Or.inl fun j hj => ?_)
            by_cases e : j = m
            · subst e; exact hlt
            · exact h1 j (by omega)
          · exact Or.inl ⟨m, by omega, heq⟩
          · refine Or.inr (Or.inr ⟨m, by omega, hgt, ho.2 m (by omega), ?_⟩)
            by_cases e : m = 0
            · exact Or.inl e
            · exact Or.inr (h1 _ (by omega))
        · exact Or.inr (Or.inr ⟨j, by omega, h2⟩)
    have step : ∀ j, sq F n (fun _ => false) j < k → sq F n (fun _ => false) (j + 1) ≤ k := by
      intro j hj
      have he := chainTo_end F n n (sq F n (fun _ => false) j) (by omega) (by omega)
      have e' : sq F n (fun _ => false) (j + 1) = min (chainTo F n n (sq F n (fun _ => false) j) + 1) n := nx _ (by omega) _ he
      have hch : (F (k - 1)).chain = false := h.resolve_left (by omega)
      have : chainTo F n n (sq F n (fun _ => false) j) ≤ k - 1 := by
        rcases Nat.lt_or_ge (k - 1) (chainTo F n n (sq F n (fun _ => false) j)) with hl | hl
        · have := he.2.2.1 (k - 1) (by omega) hl
          rw [hch] at this; cases this
        · exact hl
      omega
    rcases key i (Nat.le_refl _) with h1 | h1 | ⟨j, h1, h2, h3, h4⟩
    · exact h1
    · exfalso
      by_cases hi0 : i = 0
      · subst hi0
        have h5 := ho.1
        have h6 : sq F n (fun _ => false) 0 = 0 := rfl
        omega
      · have h5 := step (i - 1) (h1 _ (by omega))
        rw [show i - 1 + 1 = i by omega] at h5
        have h6 := ho.1
        omega
    · exfalso
      rcases h4 with rfl | h4
      · have h6 : sq F n (fun _ => false) 0 = 0 := rfl
        omega
      · have h5 := step (j - 1) h4
        by_cases e : j = 0
        · subst e
          have h6 : sq F n (fun _ => false) 0 = 0 := rfl
          omega
        · rw [show j - 1 + 1 = j by omega] at h5
          omega
/-- Behind a chain's rule that is tried and does not hold the next one is not tried. -/
theorem chains_skip {F : Nat → Flg} {n : Nat} {H : Nat → Bool} (hc : ∀ k, chkF (F k) = 0) {i : Nat} (ho : Over F n H i) (k : Nat) (hk : k + 1 < n) (h1 : (F k).chain = true) (h2 : inL (sqL F n H i) k = true) (h3 : H k = false) : inL (sqL F n H i) (k + 1) = false := by
  unfold inL at h2 ⊢
  rw [decide_eq_true_eq, mem_sqL] at h2
  rw [decide_eq_false_iff_not, mem_sqL]
  obtain ⟨j, hj, rfl⟩ := h2
  rintro ⟨j', hj', e⟩
  have hs : sq F n H j + 2 ≤ sq F n H (j + 1) := by
    show _ ≤ nextP F n (sq F n H j) (H (sq F n H j))
    rw [h3]
    unfold nextP
    rw [if_neg (by decide)]
    have he := chainTo_end F n n (sq F n H j) (by omega) (by omega)
    have : sq F n H j < chainTo F n n (sq F n H j) := by
      rcases Nat.lt_or_ge (sq F n H j) (chainTo F n n (sq F n H j)) with hl | hl
      · exact hl
      · have e2 : chainTo F n n (sq F n H j) = sq F n H j := by have := he.1; omega
        have := he.2.2.2 (by rw [e2]; omega)
        rw [e2, h1] at this; cases this
    omega
  rcases Nat.lt_or_ge j j' with hl | hl
  · have := sq_le_over hc ho (j + 1) j' (by omega) (by omega)
    omega
  · have := sq_le_over hc ho j' j hl (by omega)
    omega
end Go.Proofs.YtjkmkpehnnkpiaaDoor
