/-
  Flags of rules, as plain data: their error, and what is next after a rule was tried; no program is in sight; no condition.
-/
import Derived.Test.YtlipjagdlpkjpaaDoorRow
import Derived.Lib.ItoaNum
namespace Go.Proofs.YtlipjagdlpkjpaaDoor
set_option linter.unusedVariables false

structure Flg where
  last : Bool
  next : Bool
  chain : Bool
  fin : Bool
  forb : Bool
  gone : Bool
  app : Bool
  disc : Bool
  skip : Int
  red : Int
instance : Inhabited Flg := ⟨⟨false, false, false, false, false, false, false, false, 0, 0⟩⟩

/-- A code of a redirect. -/
def codeR (n : Int) : Bool := n == 301 || n == 302 || n == 303 || n == 307 || n == 308
/-- The first six of the ways to end. -/
def way6 (f : Flg) : Nat → Bool
  | 0 => f.last
  | 1 => f.next
  | 2 => f.chain
  | 3 => f.fin
  | 4 => f.forb
  | 5 => f.gone
  | _ => false
/-- The letters of the ways among the first k. -/
def wayL (f : Flg) : Nat → List ByteArray
  | 0 => []
  | k + 1 => wayL f k ++ (if way6 f k then [⟨#[([76, 78, 67, 69, 70, 71] : List UInt8).getD k 0]⟩] else [])
def skipL (f : Flg) : List ByteArray := if f.skip = 0 then [] else [⟨#[83, 61]⟩ ++ ⟨(Lib.itoa f.skip).toArray⟩]
def redL (f : Flg) : List ByteArray := if f.red = 0 then [] else [⟨#[82, 61]⟩ ++ ⟨(Lib.itoa f.red).toArray⟩]
def waysL (f : Flg) : List ByteArray := wayL f 6 ++ skipL f ++ redL f
/-- Which ways there are. -/
def endB (f : Flg) : Nat → Bool
  | 6 => !(f.skip == 0)
  | 7 => !(f.red == 0)
  | k => way6 f k
/-- How many of the first k ways there are. -/
def endN (f : Flg) : Nat → Nat
  | 0 => 0
  | k + 1 => endN f k + (endB f k).toNat
theorem wayL_len (f : Flg) (k : Nat) (hk : k ≤ 6) : (wayL f k).length = endN f k := by
  induction k with
  | zero => rfl
  | succ k ih =>
    unfold wayL endN
    rw [List.length_append, ih (by omega)]
    have : endB f k = way6 f k := by
      match k, hk with
      | 0, _ => rfl
      | 1, _ => rfl
      | 2, _ => rfl
      | 3, _ => rfl
      | 4, _ => rfl
      | 5, _ => rfl
    rw [this]
    cases way6 f k <;> rfl
theorem waysL_len (f : Flg) : (waysL f).length = endN f 8 := by
  unfold waysL
  rw [List.length_append, List.length_append, wayL_len f 6 (by decide)]
  show _ = endN f 6 + (!(f.skip == 0)).toNat + (!(f.red == 0)).toNat
  unfold skipL redL
  have e1 : (if f.skip = 0 then ([] : List ByteArray) else [⟨#[83, 61]⟩ ++ ⟨(Lib.itoa f.skip).toArray⟩]).length = (!(f.skip == 0)).toNat := by
    by_cases h : f.skip = 0
    · rw [if_pos h, h]; rfl
    · rw [if_neg h, beq_eq_false_iff_ne.2 h]; rfl
  have e2 : (if f.red = 0 then ([] : List ByteArray) else [⟨#[82, 61]⟩ ++ ⟨(Lib.itoa f.red).toArray⟩]).length = (!(f.red == 0)).toNat := by
    by_cases h : f.red = 0
    · rw [if_pos h, h]; rfl
    · rw [if_neg h, beq_eq_false_iff_ne.2 h]; rfl
  rw [e1, e2]
theorem wayL_le (f : Flg) (k : Nat) : (wayL f k).length ≤ k := by
  induction k with
  | zero => exact Nat.le_refl _
  | succ k ih =>
    unfold wayL
    rw [List.length_append]
    split <;> simp <;> omega

def badNum (f : Flg) : Bool := decide (f.skip < 0) || decide (64 ≤ f.skip) || !(codeR f.red || f.red == 0)
def badWay (f : Flg) : Bool := decide (1 < endN f 8) || (f.app && f.disc) || ((f.app || f.disc) && (f.forb || f.gone))
/-- The error of flags. -/
def chkF (f : Flg) : Int := if badNum f then 2 else if badWay f then 15 else 0
/-- The error of the first k rules. -/
def chkL (F : Nat → Flg) : Nat → Int
  | 0 => 0
  | k + 1 => if chkL F k = 0 then chkF (F k) else chkL F k
/-- The error of so many rules. -/
def flagsE (F : Nat → Flg) (n : Nat) : Int := if 64 < n then 5 else chkL F n
/-- A pass's error. -/
def passE (F : Nat → Flg) (n : Nat) (t : Int) (e : Bool) : Int :=
  if flagsE F n = 0 then (if t < 0 ∨ (n : Int) < t then 2 else if e = true ∧ t < n then 9 else 0) else flagsE F n
theorem chkF_cases (f : Flg) : chkF f = 0 ∨ chkF f = 2 ∨ chkF f = 15 := by
  unfold chkF
  split
  · exact Or.inr (Or.inl rfl)
  · split
    · exact Or.inr (Or.inr rfl)
    · exact Or.inl rfl
theorem chkL_first {F : Nat → Flg} {k n : Nat} (hk : k < n) (h0 : chkL F k = 0) (h : chkF (F k) ≠ 0) : chkL F n = chkF (F k) := by
  induction n with
  | zero => omega
  | succ n ih =>
    unfold chkL
    by_cases hkn : k = n
    · subst hkn; rw [if_pos h0]
    · have := ih (by omega)
      rw [this, if_neg h]
theorem chkL_zero {F : Nat → Flg} {n : Nat} (h : chkL F n = 0) : ∀ k, k < n → chkF (F k) = 0 := by
  induction n with
  | zero => intro k hk; omega
  | succ n ih =>
    unfold chkL at h
    split at h
    · rename_i h0
      intro k hk
      by_cases e : k = n
      · subst e; exact h
      · exact ih h0 k (by omega)
    · rename_i h0
      exact absurd h h0
/-- Flags without error have at most one way, no skip below 0. -/
theorem chkF_zero {f : Flg} (h : chkF f = 0) : 0 ≤ f.skip ∧ f.skip < 64 ∧ (codeR f.red || f.red == 0) = true ∧ endN f 8 ≤ 1 := by
  unfold chkF at h
  split at h
  · cases h
  · rename_i h1
    split at h
    · cases h
    · rename_i h2
      unfold badNum at h1
      unfold badWay at h2
      simp only [Bool.or_eq_true, decide_eq_true_eq, not_or, Bool.not_eq_true', Bool.not_eq_false] at h1 h2
      exact ⟨by omega, by omega, by simpa using h1.2, by omega⟩

/-- The end of a chain. -/
def chainTo (F : Nat → Flg) (n : Nat) : Nat → Nat → Nat
  | 0, k => k
  | m + 1, k => if k < n ∧ (F k).chain = true then chainTo F n m (k + 1) else k
/-- What is next after a rule was tried. -/
def nextP (F : Nat → Flg) (n k : Nat) (h : Bool) : Nat :=
  if h = true then
    if (F k).next = true then 0
    else if ((F k).fin || (F k).forb || (F k).gone || !((F k).red == 0)) = true then n
    else if (F k).last = true then n
    else min (k + 1 + (F k).skip.toNat) n
  else min (chainTo F n n k + 1) n
/-- Whether all rounds are over then. -/
def overP (F : Nat → Flg) (k : Nat) (h : Bool) : Bool := h && !(F k).next && ((F k).fin || (F k).forb || (F k).gone || !((F k).red == 0))
theorem nextP_le (F : Nat → Flg) (n k : Nat) (h : Bool) : nextP F n k h ≤ n := by
  unfold nextP
  split
  · split
    · omega
    · split
      · omega
      · split <;> omega
  · omega
end Go.Proofs.YtlipjagdlpkjpaaDoor
