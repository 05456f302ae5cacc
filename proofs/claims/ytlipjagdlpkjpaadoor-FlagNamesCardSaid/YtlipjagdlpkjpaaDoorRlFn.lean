/-
  Request lines, as plain functions on bytes by number: where the spaces lie, which byte is the first wrong one; no program is in sight; no condition.
-/
import Derived.Test.YtlipjagdlpkjpaaDoorBase
namespace Go.Proofs.YtlipjagdlpkjpaaDoor
set_option linter.unusedVariables false
set_option linter.unusedSimpArgs false

/-- The first number below n with a property; n if there is none. -/
def firstN (P : Nat → Bool) : Nat → Nat
  | 0 => 0
  | n + 1 => if firstN P n < n then firstN P n else if P n then n else n + 1
theorem firstN_spec (P : Nat → Bool) (n : Nat) : firstN P n ≤ n ∧ (∀ x, x < firstN P n → P x = false) ∧ (firstN P n < n → P (firstN P n) = true) := by
  induction n with
  | zero => exact ⟨Nat.le_refl _, fun x hx => absurd hx (by unfold firstN; omega), fun h => absurd h (by unfold firstN; omega)⟩
  | succ n ih =>
    obtain ⟨h1, h2, h3⟩ := ih
    unfold firstN
    by_cases ha : firstN P n < n
    · rw [if_pos ha]
      exact ⟨by omega, h2, fun _ => h3 ha⟩
    · have hn : firstN P n = n := by omega
      rw [hn] at h2
      rw [if_neg ha]
      by_cases hb : P n = true
      · rw [if_pos hb]; exact ⟨by omega, h2, fun _ => hb⟩
      · rw [if_neg hb]
        refine ⟨Nat.le_refl _, fun x hx => ?_, fun h => absurd h (by omega)⟩
        by_cases e : x = n
        · subst e; exact Bool.eq_false_iff.2 hb
        · exact h2 x (by omega)
theorem firstN_le (P : Nat → Bool) (n : Nat) : firstN P n ≤ n := (firstN_spec P n).1
theorem firstN_lt {P : Nat → Bool} {n x : Nat} (h : x < firstN P n) : P x = false := (firstN_spec P n).2.1 x h
theorem firstN_at {P : Nat → Bool} {n : Nat} (h : firstN P n < n) : P (firstN P n) = true := (firstN_spec P n).2.2 h
theorem firstN_is {P : Nat → Bool} {n p : Nat} (hp : p ≤ n) (h1 : ∀ x, x < p → P x = false) (h2 : p < n → P p = true) : firstN P n = p := by
  rcases Nat.lt_trichotomy (firstN P n) p with h | h | h
  · have a := firstN_at (show firstN P n < n by omega)
    rw [h1 _ h] at a; cases a
  · exact h
  · have a := firstN_lt h
    have b := firstN_le P n
    rw [h2 (by omega)] at a; cases a
theorem firstN_congr {P Q : Nat → Bool} {n : Nat} (h : ∀ x, x < n → P x = Q x) : firstN P n = firstN Q n := by
  have a := firstN_le Q n
  exact firstN_is a (fun x hx => by rw [h x (by omega)]; exact firstN_lt hx) (fun hx => by rw [h _ hx]; exact firstN_at hx)
theorem firstN_part {P : Nat → Bool} {n k : Nat} (h : k ≤ n) : firstN P k = min k (firstN P n) := by
  have a := firstN_le P n
  refine firstN_is (by omega) (fun x hx => firstN_lt (show x < firstN P n by omega)) (fun hx => ?_)
  have e : min k (firstN P n) = firstN P n := by omega
  rw [e]
  exact firstN_at (by omega)
theorem firstN_none {P : Nat → Bool} {n : Nat} (h : ∀ x, x < n → P x = false) : firstN P n = n := firstN_is (Nat.le_refl _) h (fun hx => absurd hx (by omega))

/-- Where the first space lies; the length if there is none. -/
def spA (G : Nat → Nat) (n : Nat) : Nat := firstN (fun x => decide (G x = 32)) n
/-- Where the second one lies. -/
def spB (G : Nat → Nat) (n : Nat) : Nat := firstN (fun x => decide (spA G n < x) && decide (G x = 32)) n
/-- How many parts a line has. -/
def partN (G : Nat → Nat) (n : Nat) : Nat := if spA G n = n then 1 else if spB G n = n then 2 else 3
theorem spA_le (G : Nat → Nat) (n : Nat) : spA G n ≤ n := firstN_le _ _
theorem spB_le (G : Nat → Nat) (n : Nat) : spB G n ≤ n := firstN_le _ _
theorem spA_at {G : Nat → Nat} {n : Nat} (h : spA G n < n) : G (spA G n) = 32 := of_decide_eq_true (firstN_at h)
theorem spB_at {G : Nat → Nat} {n : Nat} (h : spB G n < n) : spA G n < spB G n ∧ G (spB G n) = 32 := by
  have h1 := firstN_at h
  rw [Bool.and_eq_true, decide_eq_true_eq, decide_eq_true_eq] at h1
  exact h1
theorem spA_lt {G : Nat → Nat} {n x : Nat} (h : x < spA G n) : G x ≠ 32 := by simpa using firstN_lt h
theorem spB_lt {G : Nat → Nat} {n x : Nat} (h1 : spA G n < x) (h2 : x < spB G n) : G x ≠ 32 := by
  have := firstN_lt h2
  simpa [h1] using this
theorem spB_gt (G : Nat → Nat) (n : Nat) (h : spA G n < n) : spA G n < spB G n := by
  by_cases e : spB G n < n
  · exact (spB_at e).1
  · have := spB_le G n; omega
theorem spB_end (G : Nat → Nat) (n : Nat) (h : spA G n = n) : spB G n = n := by
  by_cases e : spB G n < n
  · have := (spB_at e).1; omega
  · have := spB_le G n; omega
theorem spA_part {G : Nat → Nat} {n k : Nat} (h : k ≤ n) : spA G k = min k (spA G n) := firstN_part h
theorem spB_part {G : Nat → Nat} {n k : Nat} (h : k ≤ n) : spB G k = min k (spB G n) := by
  have ha := spA_part (G := G) h
  have hb := spB_le G n
  refine firstN_is (by omega) (fun x hx => ?_) (fun hx => ?_)
  · have := firstN_lt (P := fun x => decide (spA G n < x) && decide (G x = 32)) (n := n) (x := x) (by show x < spB G n; omega)
    by_cases hs : spA G n < x
    · by_cases hg : G x = 32
      · simp [hs, hg] at this
      · simp [hg]
    · have : ¬ spA G k < x := by omega
      simp [this]
  · have e : min k (spB G n) = spB G n := by omega
    rw [e]
    have := spB_at (G := G) (n := n) (by omega)
    have h3 : spA G k < spB G n := by omega
    simp [h3, this.2]
/-- How long the second and the third part are. -/
def lenB (G : Nat → Nat) (n : Nat) : Nat := spB G n - (spA G n + 1)
def lenC (G : Nat → Nat) (n : Nat) : Nat := n - (spB G n + 1)
/-- Whether a line is too long, and where. -/
def longS (G : Nat → Nat) (n : Nat) : Int := if 16 < spA G n then 400 else if 1024 < lenB G n then 414 else if 512 < lenC G n then 400 else 0
def longP (G : Nat → Nat) (n : Nat) : Nat := if 16 < spA G n then 16 else if 1024 < lenB G n then spA G n + 1 + 1024 else if 512 < lenC G n then spB G n + 1 + 512 else n
theorem longS_cases (G : Nat → Nat) (n : Nat) : longS G n = 0 ∧ longP G n = n ∧ spA G n ≤ 16 ∧ lenB G n ≤ 1024 ∧ lenC G n ≤ 512 ∨ longS G n = 400 ∧ longP G n < n ∨ longS G n = 414 ∧ longP G n < n := by
  have h1 := spA_le G n
  have h2 := spB_le G n
  unfold longS longP
  by_cases a : 16 < spA G n
  · rw [if_pos a, if_pos a]; right; left; exact ⟨rfl, by omega⟩
  · rw [if_neg a, if_neg a]
    by_cases b : 1024 < lenB G n
    · rw [if_pos b, if_pos b]; right; right; exact ⟨rfl, by unfold lenB at b; omega⟩
    · rw [if_neg b, if_neg b]
      by_cases c : 512 < lenC G n
      · rw [if_pos c, if_pos c]; right; left; exact ⟨rfl, by unfold lenC at c; omega⟩
      · rw [if_neg c, if_neg c]; left; exact ⟨rfl, rfl, by omega, by omega, by omega⟩

/-- The bytes of tokens. -/
def tokB (c : Nat) : Bool := decide (48 ≤ c ∧ c ≤ 57) || (decide (97 ≤ c ∧ c ≤ 122) || (decide (65 ≤ c ∧ c ≤ 90) || decide (c ∈ [33, 35, 36, 37, 38, 39, 42, 43, 45, 46, 94, 95, 96, 124, 126])))
/-- The bytes of targets. -/
def chrB (c : Nat) : Bool := decide (33 ≤ c ∧ c ≤ 126 ∧ c ≠ 35)
/-- The version's bytes. -/
def verB (x : Nat) : Nat := [72, 84, 84, 80, 47, 49, 46, 49].getD x 0
/-- Whether a line goes wrong at a byte. -/
def badB (G : Nat → Nat) (n x : Nat) : Bool :=
  if x < spA G n then !tokB (G x)
  else if x = spA G n then decide (spA G n = 0)
  else if x < spB G n then !chrB (G x) || (decide (x = spA G n + 1) && decide (G x ≠ 47))
  else if x = spB G n then decide (lenB G n = 0)
  else decide (8 ≤ x - (spB G n + 1)) || decide (G x ≠ verB (x - (spB G n + 1)))
/-- The first wrong byte. -/
def wrongN (G : Nat → Nat) (n : Nat) : Nat := firstN (badB G n) n
theorem badB_part {G : Nat → Nat} {n k x : Nat} (h : k ≤ n) (hx : x < k) : badB G k x = badB G n x := by
  have ha := spA_part (G := G) h
  have hb := spB_part (G := G) h
  have ga := spA_le G n
  have gb := spB_le G n
  unfold badB
  by_cases h1 : x < spA G n
  · rw [if_pos h1, if_pos (by omega)]
  · have e1 : spA G k = spA G n := by omega
    rw [e1, if_neg h1, if_neg h1]
    by_cases h2 : x = spA G n
    · rw [if_pos h2, if_pos h2]
    · rw [if_neg h2, if_neg h2]
      by_cases h3 : x < spB G n
      · rw [if_pos h3, if_pos (by omega)]
      · have e2 : spB G k = spB G n := by omega
        unfold lenB
        rw [e1, e2]
theorem wrong_part {G : Nat → Nat} {n k : Nat} (h : k ≤ n) : wrongN G k = min k (wrongN G n) := by
  unfold wrongN
  rw [firstN_congr (fun x hx => badB_part h hx)]
  exact firstN_part h
/-- Status and place of a line. -/
def parS (G : Nat → Nat) (n : Nat) : Int := if longS G n ≠ 0 then longS G n else if wrongN G n < n then 400 else if lenC G n = 8 then 0 else 400
def parP (G : Nat → Nat) (n : Nat) : Nat := if longS G n ≠ 0 then longP G n else wrongN G n
end Go.Proofs.YtlipjagdlpkjpaaDoor
