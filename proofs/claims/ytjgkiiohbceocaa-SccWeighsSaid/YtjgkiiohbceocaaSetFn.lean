/-
  Sets of bytes, as plain functions: four words by the membership of the numbers 0 to 255; no program is in sight; no condition.
-/
import Derived.Test.YtjgkiiohbceocaaBase
namespace Go.Proofs.Ytjgkiiohbceocaa
set_option linter.unusedVariables false
set_option linter.unusedSimpArgs false

/-- The number whose first n bits are p's. -/
def wordP (p : Nat → Bool) : Nat → Nat
  | 0 => 0
  | n + 1 => wordP p n ||| (if p n then 2 ^ n else 0)
theorem wordP_lt (p : Nat → Bool) (n : Nat) : wordP p n < 2 ^ n := by
  induction n with
  | zero => simp [wordP]
  | succ n ih =>
    unfold wordP
    refine Nat.or_lt_two_pow (Nat.lt_trans ih (Nat.pow_lt_pow_right (by decide) (Nat.lt_succ_self n))) ?_
    split
    · exact Nat.pow_lt_pow_right (by decide) (Nat.lt_succ_self n)
    · exact Nat.two_pow_pos _
theorem wordP_bit (p : Nat → Bool) (n k : Nat) : (wordP p n).testBit k = (decide (k < n) && p k) := by
  induction n with
  | zero => simp [wordP]
  | succ n ih =>
    unfold wordP
    rw [Nat.testBit_or, ih]
    by_cases hp : p n
    · rw [if_pos hp, Nat.testBit_two_pow]
      by_cases hk : n = k
      · subst hk; simp [hp]
      · have e : decide (k < n + 1) = decide (k < n) := by rw [decide_eq_decide]; omega
        simp [hk, e]
    · rw [if_neg hp, Nat.zero_testBit, Bool.or_false]
      by_cases hk : k = n
      · subst hk; simp [hp]
      · have e : decide (k < n + 1) = decide (k < n) := by rw [decide_eq_decide]; omega
        simp [e]
/-- Word i of a set. -/
def setW (p : Nat → Bool) (i : Nat) : Nat := wordP (fun k => p (64 * i + k)) 64
theorem setW_lt (p : Nat → Bool) (i : Nat) : setW p i < 2 ^ 64 := wordP_lt _ _
theorem setW_bit (p : Nat → Bool) (i k : Nat) : (setW p i).testBit k = (decide (k < 64) && p (64 * i + k)) := wordP_bit _ _ _
/-- Whether a number is in four words. -/
def bitS (S : Nat → Nat) (c : Nat) : Bool := (S (c / 64)).testBit (c % 64)
theorem bit_setW (p : Nat → Bool) (c : Nat) : bitS (setW p) c = p c := by
  unfold bitS
  rw [setW_bit, decide_eq_true (Nat.mod_lt _ (by decide)), Bool.true_and]
  congr 1
  omega
theorem setW_ext {p q : Nat → Bool} (h : ∀ c, c < 256 → p c = q c) (i : Nat) (hi : i < 4) : setW p i = setW q i := by
  apply Nat.eq_of_testBit_eq
  intro k
  rw [setW_bit, setW_bit]
  by_cases hk : k < 64
  · rw [h _ (by omega)]
  · simp [hk]
theorem setW_inj {p q : Nat → Bool} (h : ∀ i, i < 4 → setW p i = setW q i) (c : Nat) (hc : c < 256) : p c = q c := by
  rw [← bit_setW p c, ← bit_setW q c]
  unfold bitS
  rw [h _ (by omega)]
/-- Four words are their own bits. -/
theorem setW_self (S : Nat → Nat) (hS : ∀ k, S k < 2 ^ 64) (i : Nat) : setW (bitS S) i = S i := by
  apply Nat.eq_of_testBit_eq
  intro k
  rw [setW_bit]
  by_cases hk : k < 64
  · rw [decide_eq_true hk, Bool.true_and]
    unfold bitS
    congr 2 <;> omega
  · rw [decide_eq_false hk, Bool.false_and, Nat.testBit_lt_two_pow (Nat.lt_of_lt_of_le (hS i) (Nat.pow_le_pow_right (by decide) (by omega)))]

/-- The cells of a set; its value. -/
def setC (p : Nat → Bool) : Array Value := #[.int .u64 (setW p 0 : Int), .int .u64 (setW p 1 : Int), .int .u64 (setW p 2 : Int), .int .u64 (setW p 3 : Int)]
def setV (p : Nat → Bool) : Value := .agg (setC p)
theorem setC_get (p : Nat → Bool) (k : Nat) (hk : k < 4) : (setC p)[k]? = some (.int .u64 (setW p k : Int)) := by
  match k, hk with
  | 0, _ => rfl
  | 1, _ => rfl
  | 2, _ => rfl
  | 3, _ => rfl
theorem setC_ext {p q : Nat → Bool} (h : ∀ c, c < 256 → p c = q c) : setC p = setC q := by
  unfold setC
  rw [setW_ext h 0 (by decide), setW_ext h 1 (by decide), setW_ext h 2 (by decide), setW_ext h 3 (by decide)]
/-- One word is turned. -/
theorem setC_set {p q : Nat → Bool} {k x : Nat} (hk : k < 4) (hx : x = setW q k) (h : ∀ i, i < 4 → i ≠ k → setW p i = setW q i) : (setC p).setIfInBounds k (.int .u64 (x : Int)) = setC q := by
  subst hx
  unfold setC
  match k, hk with
  | 0, _ => rw [h 1 (by decide) (by decide), h 2 (by decide) (by decide), h 3 (by decide) (by decide)]; rfl
  | 1, _ => rw [h 0 (by decide) (by decide), h 2 (by decide) (by decide), h 3 (by decide) (by decide)]; rfl
  | 2, _ => rw [h 0 (by decide) (by decide), h 1 (by decide) (by decide), h 3 (by decide) (by decide)]; rfl
  | 3, _ => rw [h 0 (by decide) (by decide), h 1 (by decide) (by decide), h 2 (by decide) (by decide)]; rfl
/-- A byte more. -/
def insP (p : Nat → Bool) (b : Nat) : Nat → Bool := fun c => decide (c = b) || p c
theorem insP_word (p : Nat → Bool) (b i : Nat) : setW (insP p b) i = if i = b / 64 then setW p i ||| 2 ^ (b % 64) else setW p i := by
  apply Nat.eq_of_testBit_eq
  intro k
  rw [setW_bit]
  split
  · rename_i hi
    rw [Nat.testBit_or, setW_bit, Nat.testBit_two_pow]
    by_cases hk : k < 64
    · have e : decide (64 * i + k = b) = decide (b % 64 = k) := by rw [decide_eq_decide]; omega
      simp [insP, hk, e, Bool.or_comm]
    · have e : ¬ (b % 64 = k) := by omega
      simp [hk, e]
  · rename_i hi
    rw [setW_bit]
    by_cases hk : k < 64
    · have e : decide (64 * i + k = b) = false := decide_eq_false (by omega)
      simp [insP, e]
    · simp [hk]
theorem setC_ins (p : Nat → Bool) (b : Nat) (hb : b < 256) : (setC p).setIfInBounds (b / 64) (.int .u64 ((setW p (b / 64) ||| 2 ^ (b % 64) : Nat) : Int)) = setC (insP p b) :=
  setC_set (by omega) (by rw [insP_word, if_pos rfl]) (fun i _ hne => by rw [insP_word, if_neg hne])

def noP : Nat → Bool := fun _ => false
def fullP : Nat → Bool := fun _ => true
def notP (p : Nat → Bool) : Nat → Bool := fun c => !p c
def orP (p q : Nat → Bool) : Nat → Bool := fun c => p c || q c
def andP (p q : Nat → Bool) : Nat → Bool := fun c => p c && q c
theorem setW_no (i : Nat) : setW noP i = 0 := by
  apply Nat.eq_of_testBit_eq
  intro k
  rw [setW_bit]
  simp [noP]
theorem setW_or (p q : Nat → Bool) (i : Nat) : setW (orP p q) i = setW p i ||| setW q i := by
  apply Nat.eq_of_testBit_eq
  intro k
  rw [Nat.testBit_or, setW_bit, setW_bit, setW_bit]
  cases decide (k < 64) <;> simp [orP]
theorem setW_and (p q : Nat → Bool) (i : Nat) : setW (andP p q) i = setW p i &&& setW q i := by
  apply Nat.eq_of_testBit_eq
  intro k
  rw [Nat.testBit_and, setW_bit, setW_bit, setW_bit]
  cases decide (k < 64) <;> simp [andP]
theorem setW_not (p : Nat → Bool) (i : Nat) : setW (notP p) i = 18446744073709551615 - setW p i := by
  have h : setW p i < 2 ^ 64 := setW_lt p i
  apply Nat.eq_of_testBit_eq
  intro k
  rw [setW_bit, show 18446744073709551615 - setW p i = 2 ^ 64 - (setW p i + 1) by omega, Nat.testBit_two_pow_sub_succ h, setW_bit]
  cases decide (k < 64) <;> simp [notP]
/-- The first k words are q's, the others p's. -/
def mixP (k : Nat) (p q : Nat → Bool) : Nat → Bool := fun c => if c / 64 < k then q c else p c
theorem mixP_word (k i : Nat) (p q : Nat → Bool) : setW (mixP k p q) i = if i < k then setW q i else setW p i := by
  apply Nat.eq_of_testBit_eq
  intro j
  split
  · rename_i h
    rw [setW_bit, setW_bit]
    by_cases hj : j < 64
    · simp [mixP, hj, show (64 * i + j) / 64 = i by omega, h]
    · simp [hj]
  · rename_i h
    rw [setW_bit, setW_bit]
    by_cases hj : j < 64
    · simp [mixP, hj, show (64 * i + j) / 64 = i by omega, h]
    · simp [hj]
theorem setC_mix (k : Nat) (hk : k < 4) (p q : Nat → Bool) : (setC (mixP k p q)).setIfInBounds k (.int .u64 (setW q k : Int)) = setC (mixP (k + 1) p q) :=
  setC_set hk (by rw [mixP_word, if_pos (Nat.lt_succ_self k)]) (fun i _ hne => by
    rw [mixP_word, mixP_word]
    by_cases h : i < k
    · rw [if_pos h, if_pos (by omega)]
    · rw [if_neg h, if_neg (by omega)])
theorem setC_mix0 (p q : Nat → Bool) : setC (mixP 0 p q) = setC p := setC_ext (fun c _ => by simp [mixP])
theorem setC_mix4 (p q : Nat → Bool) : setC (mixP 4 p q) = setC q := setC_ext (fun c hc => by simp [mixP, show c / 64 < 4 by omega])
theorem mixP_at (k : Nat) (p q : Nat → Bool) : setW (mixP k p q) k = setW p k := by rw [mixP_word, if_neg (Nat.lt_irrefl k)]
/-- The sets of lists. -/
def ofP (Z : Nat → Nat) : Nat → Nat → Bool
  | 0 => noP
  | k + 1 => insP (ofP Z k) (Z k)
def orL (Z : Nat → Nat → Bool) : Nat → Nat → Bool
  | 0 => noP
  | k + 1 => orP (orL Z k) (Z k)
def andL (Z : Nat → Nat → Bool) : Nat → Nat → Bool
  | 0 => fullP
  | k + 1 => andP (andL Z k) (Z k)
theorem setC_no : setC noP = #[.int .u64 0, .int .u64 0, .int .u64 0, .int .u64 0] := by
  unfold setC
  rw [setW_no, setW_no, setW_no, setW_no]; rfl
theorem notno : notP noP = fullP := rfl
end Go.Proofs.Ytjgkiiohbceocaa
