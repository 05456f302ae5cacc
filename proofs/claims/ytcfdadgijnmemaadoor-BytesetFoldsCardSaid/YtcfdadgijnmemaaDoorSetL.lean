/-
  The numbers of a set in order, and how a word gives them one by one: plain; no program is in sight; no condition.
-/
import Derived.Test.YtcfdadgijnmemaaDoorSetFn
import Derived.Lib.TrailingZeros
namespace Go.Proofs.YtcfdadgijnmemaaDoor
set_option linter.unusedVariables false
set_option linter.unusedSimpArgs false

theorem ctz_bits (x : Nat) (h0 : x ≠ 0) (hx : x < 18446744073709551616) : Lib.ctz 64 x < 64 ∧ x.testBit (Lib.ctz 64 x) = true ∧ (∀ j, j < Lib.ctz 64 x → x.testBit j = false) ∧ ∀ j, (x &&& (x - 1)).testBit j = (x.testBit j && !decide (j = Lib.ctz 64 x)) := by
  obtain ⟨m, hm, hk⟩ := Lib.ctzFrom_spec 64 x (by omega) (by omega)
  have e : Lib.ctz 64 x = Lib.ctzFrom 64 x := by unfold Lib.ctz; rw [if_neg h0]
  rw [e]
  generalize Lib.ctzFrom 64 x = t at hm hk
  have bx : ∀ j, x.testBit j = (decide (t ≤ j) && (2 * m + 1).testBit (j - t)) := fun j => by rw [hm, Nat.testBit_two_pow_mul]
  have e1 : x - 1 = 2 ^ t * (2 * m) + (2 ^ t - 1) := by
    rw [hm, Nat.mul_add, Nat.mul_one]
    have := Nat.two_pow_pos t
    omega
  have b1 : ∀ j, (x - 1).testBit j = if j < t then (2 ^ t - 1).testBit j else (2 * m).testBit (j - t) := fun j => by
    rw [e1, Nat.testBit_two_pow_mul_add _ (by have := Nat.two_pow_pos t; omega)]
  refine ⟨hk, ?_, ?_, ?_⟩
  · rw [bx]; simp
  · intro j hj
    rw [bx, decide_eq_false (by omega), Bool.false_and]
  · intro j
    rw [Nat.testBit_and, b1, bx]
    by_cases h : j < t
    · rw [decide_eq_false (by omega)]; simp
    · rw [if_neg h, decide_eq_true (by omega), Bool.true_and]
      by_cases hj : j = t
      · subst hj; simp
      · obtain ⟨d, rfl⟩ : ∃ d, j = t + (d + 1) := ⟨j - t - 1, by omega⟩
        rw [show t + (d + 1) - t = d + 1 by omega, Nat.testBit_succ, Nat.testBit_succ, show (2 * m + 1) / 2 = m by omega, show 2 * m / 2 = m by omega]
        simp [show t + (d + 1) ≠ t by omega]

/-- What is in a set from m on. -/
def geP (p : Nat → Bool) (m : Nat) : Nat → Bool := fun c => p c && decide (m ≤ c)
theorem geP_bit (p : Nat → Bool) (m i k : Nat) (hk : k < 64) : (setW (geP p m) i).testBit k = (p (64 * i + k) && decide (m ≤ 64 * i + k)) := by
  rw [setW_bit, decide_eq_true hk, Bool.true_and]; rfl
theorem word_zero (p : Nat → Bool) (m i : Nat) (hx : setW (geP p m) i = 0) (c : Nat) (h1 : 64 * i ≤ c) (h2 : c < 64 * (i + 1)) (hm : m ≤ c) : p c = false := by
  have := geP_bit p m i (c - 64 * i) (by omega)
  rw [hx, Nat.zero_testBit, show 64 * i + (c - 64 * i) = c by omega, decide_eq_true hm, Bool.and_true] at this
  exact this.symm
theorem word_next (p : Nat → Bool) (m i : Nat) (hx : setW (geP p m) i ≠ 0) :
    ∃ t, Lib.ctz 64 (setW (geP p m) i) = t ∧ t < 64 ∧ m ≤ 64 * i + t ∧ p (64 * i + t) = true ∧ (∀ c, 64 * i ≤ c → m ≤ c → c < 64 * i + t → p c = false) ∧
      setW (geP p m) i &&& (setW (geP p m) i - 1) = setW (geP p (64 * i + t + 1)) i ∧ setW (geP p (64 * i + t + 1)) i < setW (geP p m) i := by
  obtain ⟨h1, h2, h3, h4⟩ := ctz_bits (setW (geP p m) i) hx (setW_lt _ _)
  refine ⟨_, rfl, h1, ?_⟩
  generalize Lib.ctz 64 (setW (geP p m) i) = t at h1 h2 h3 h4
  rw [geP_bit p m i t h1, Bool.and_eq_true, decide_eq_true_eq] at h2
  have hlow : ∀ c, 64 * i ≤ c → m ≤ c → c < 64 * i + t → p c = false := fun c c1 c2 c3 => by
    have := h3 (c - 64 * i) (by omega)
    rw [geP_bit p m i (c - 64 * i) (by omega), show 64 * i + (c - 64 * i) = c by omega, decide_eq_true c2, Bool.and_true] at this
    exact this
  have he : setW (geP p m) i &&& (setW (geP p m) i - 1) = setW (geP p (64 * i + t + 1)) i := by
    apply Nat.eq_of_testBit_eq
    intro k
    rw [h4]
    by_cases hk : k < 64
    · rw [geP_bit _ _ _ _ hk, geP_bit _ _ _ _ hk]
      by_cases hkt : k = t
      · subst hkt
        rw [decide_eq_true rfl, decide_eq_false (by omega : ¬ 64 * i + k + 1 ≤ 64 * i + k)]; simp
      · rw [decide_eq_false hkt]
        by_cases hlt : k < t
        · rw [decide_eq_false (by omega : ¬ 64 * i + t + 1 ≤ 64 * i + k)]
          by_cases hm : m ≤ 64 * i + k
          · rw [hlow _ (by omega) hm (by omega)]; rfl
          · rw [decide_eq_false hm]; simp
        · rw [decide_eq_true (by omega : 64 * i + t + 1 ≤ 64 * i + k), decide_eq_true (by omega : m ≤ 64 * i + k)]; simp
    · rw [setW_bit, setW_bit, decide_eq_false hk]; rfl
  refine ⟨h2.2, h2.1, hlow, he, ?_⟩
  rw [← he]
  have : setW (geP p m) i &&& (setW (geP p m) i - 1) ≤ setW (geP p m) i - 1 := Nat.and_le_right
  omega
theorem geP_word0 (p : Nat → Bool) (m i : Nat) (hm : m ≤ 64 * i) : setW (geP p m) i = setW p i := by
  apply Nat.eq_of_testBit_eq
  intro k
  rw [setW_bit, setW_bit]
  by_cases hk : k < 64
  · simp [geP, hk, show m ≤ 64 * i + k by omega]
  · simp [hk]

/-- The numbers below n in a set, in order. -/
def lstP (p : Nat → Bool) : Nat → List (Fin 256)
  | 0 => []
  | n + 1 => if h : n < 256 then (if p n then lstP p n ++ [⟨n, h⟩] else lstP p n) else lstP p n
theorem lstP_yes (p : Nat → Bool) (n : Nat) (h : n < 256) (hp : p n = true) : lstP p (n + 1) = lstP p n ++ [⟨n, h⟩] := by
  show (if h : n < 256 then _ else _) = _
  rw [dif_pos h, if_pos hp]
theorem lstP_no (p : Nat → Bool) (n : Nat) (hp : p n = false) : lstP p (n + 1) = lstP p n := by
  show (if h : n < 256 then _ else _) = _
  split
  · rw [if_neg (by rw [hp]; decide)]
  · rfl
theorem lstP_skip (p : Nat → Bool) (m d : Nat) (h : ∀ c, m ≤ c → c < m + d → p c = false) : lstP p (m + d) = lstP p m := by
  induction d with
  | zero => rfl
  | succ d ih => rw [← Nat.add_assoc, lstP_no p _ (h _ (by omega) (by omega)), ih (fun c h1 h2 => h c h1 (by omega))]
theorem lstP_to (p : Nat → Bool) (m b : Nat) (hm : m ≤ b) (h : ∀ c, m ≤ c → c < b → p c = false) : lstP p b = lstP p m := by
  have := lstP_skip p m (b - m) (fun c h1 h2 => h c h1 (by omega))
  rwa [show m + (b - m) = b by omega] at this
theorem lstP_len (p : Nat → Bool) (n : Nat) : (lstP p n).length ≤ n := by
  induction n with
  | zero => exact Nat.le_refl _
  | succ n ih =>
    unfold lstP
    split
    · split
      · simp; omega
      · omega
    · omega
theorem lstP_mem (p : Nat → Bool) (n : Nat) (x : Fin 256) : x ∈ lstP p n ↔ x.val < n ∧ p x.val = true := by
  induction n with
  | zero => simp [lstP]
  | succ n ih =>
    unfold lstP
    split
    · rename_i h
      split
      · rename_i hp
        rw [List.mem_append, ih]
        simp only [List.mem_singleton]
        constructor
        · rintro (⟨h1, h2⟩ | rfl)
          · exact ⟨by omega, h2⟩
          · exact ⟨by simp, hp⟩
        · rintro ⟨h1, h2⟩
          by_cases e : x.val = n
          · exact .inr (Fin.ext e)
          · exact .inl ⟨by omega, h2⟩
      · rename_i hp
        rw [ih]
        constructor
        · rintro ⟨h1, h2⟩; exact ⟨by omega, h2⟩
        · rintro ⟨h1, h2⟩
          have : x.val ≠ n := fun e => hp (e ▸ h2)
          exact ⟨by omega, h2⟩
    · rw [ih]
      constructor
      · rintro ⟨h1, h2⟩; exact ⟨by omega, h2⟩
      · rintro ⟨h1, h2⟩; exact ⟨by omega, h2⟩
end Go.Proofs.YtcfdadgijnmemaaDoor
