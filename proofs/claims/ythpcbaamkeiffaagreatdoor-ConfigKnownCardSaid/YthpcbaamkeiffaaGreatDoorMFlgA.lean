/-
  Decimal numerals: which string a number is, read and written; no program is in sight; no condition.
  Request lines, as plain functions on bytes by number: where the spaces lie, which byte is the first wrong one; no program is in sight; no condition.
  Flags' texts as plain functions: which part says what; no program is in sight; no condition.
  The parts of flags' texts, plain; no program is in sight; no condition.
  How a part's number is read, program and reference, walked; no condition.
  flag.code, ways and Check, walked: the plain functions; condition: the two tables lie as they are laid.
-/
import Derived.Lib.ItoaNum
import Derived.Lib.AtoiAll
import Derived.Lib.Join
import Derived.Lib.IndexMore
import Derived.Lib.IndexLaws
import Derived.WalkKit
import Derived.Lib.LaidTab
import Derived.Lib.SmallJoins
import Derived.KernelRfl
import Derived.Test.YthpcbaamkeiffaaGreatDoorMRwFn
import Derived.Test.YthpcbaamkeiffaaGreatDoorMRxA
import Derived.Test.YthpcbaamkeiffaaGreatDoorMRwQt
import Derived.Test.YthpcbaamkeiffaaGreatDoorMInw
import Derived.Test.YthpcbaamkeiffaaGreatDoorMShelf
import Derived.Test.YthpcbaamkeiffaaGreatDoorProg
namespace Go.Proofs.YthpcbaamkeiffaaGreatDoor
set_option linter.unusedVariables false
set_option linter.unusedSimpArgs false

def isD (c : UInt8) : Bool := decide (48 ≤ c.toNat) && decide (c.toNat ≤ 57)
def valF (a : Nat) (l : List UInt8) : Nat := l.foldl (fun a c => 10 * a + (c.toNat - 48)) a
theorem valF_nil (a : Nat) : valF a [] = a := rfl
theorem valF_cons (a : Nat) (c : UInt8) (t : List UInt8) : valF a (c :: t) = valF (10 * a + (c.toNat - 48)) t := by unfold valF; rw [List.foldl_cons]
theorem valF_snoc (a : Nat) (l : List UInt8) (c : UInt8) : valF a (l ++ [c]) = 10 * valF a l + (c.toNat - 48) := by unfold valF; rw [List.foldl_append]; rfl
def trimM (l : List UInt8) : List UInt8 := if l.head? = some 45 then l.tail else l
/-- The number that a string is. -/
def numS (l : List UInt8) : Option Int :=
  if trimM l = [] ∨ 9 < (trimM l).length ∨ ((trimM l).head? = some 48 ∧ (1 < (trimM l).length ∨ l.head? = some 45)) then none
  else if (trimM l).all isD = true then some (if l.head? = some 45 then -(valF 0 (trimM l) : Int) else (valF 0 (trimM l) : Int))
  else none
theorem isD_iff {c : UInt8} : isD c = true ↔ 48 ≤ c.toNat ∧ c.toNat ≤ 57 := by unfold isD; rw [Bool.and_eq_true, decide_eq_true_eq, decide_eq_true_eq]
theorem valF_bound : ∀ (l : List UInt8) (a : Nat), l.all isD = true → valF a l + 1 ≤ (a + 1) * 10 ^ l.length
  | [], a, _ => by simp [valF_nil]
  | c :: t, a, h => by
    rw [List.all_cons, Bool.and_eq_true] at h
    have hc := isD_iff.1 h.1
    rw [valF_cons, List.length_cons, Nat.pow_succ]
    refine Nat.le_trans (valF_bound t _ h.2) ?_
    have h1 : 10 * a + (c.toNat - 48) + 1 ≤ (a + 1) * 10 := by omega
    calc (10 * a + (c.toNat - 48) + 1) * 10 ^ t.length ≤ (a + 1) * 10 * 10 ^ t.length := Nat.mul_le_mul_right _ h1
      _ = (a + 1) * (10 ^ t.length * 10) := by rw [Nat.mul_assoc, Nat.mul_comm 10]
theorem parse_ok : ∀ (l : List UInt8) (a : Nat), l.all isD = true → (a + 1) * 10 ^ l.length ≤ 1000000000 → Lib.parseUint10 a l = .ok (valF a l)
  | [], a, _, _ => rfl
  | c :: t, a, h, hb => by
    rw [List.all_cons, Bool.and_eq_true] at h
    have hc := isD_iff.1 h.1
    rw [List.length_cons, Nat.pow_succ] at hb
    have hp : 1 ≤ 10 ^ t.length := Nat.one_le_pow _ _ (by decide)
    have h2 : (a + 1) * 10 * 10 ^ t.length ≤ 1000000000 := by rw [Nat.mul_assoc, Nat.mul_comm 10]; exact hb
    have h3 : (a + 1) * 10 ≤ 1000000000 := Nat.le_trans (Nat.le_mul_of_pos_right _ hp) h2
    have h1 : 10 * a + (c.toNat - 48) + 1 ≤ (a + 1) * 10 := by omega
    have e : a * 10 + (c.toNat - 48) = 10 * a + (c.toNat - 48) := by omega
    unfold Lib.parseUint10
    rw [if_pos hc, if_neg (by omega), if_neg (by omega), e]
    exact parse_ok t _ h.2 (Nat.le_trans (Nat.mul_le_mul_right _ h1) h2)
theorem dig_of {c : UInt8} (h : 48 ≤ c.toNat ∧ c.toNat ≤ 57) : UInt8.ofNat (48 + (c.toNat - 48)) = c := by
  apply UInt8.toNat_inj.1
  have : 48 + (c.toNat - 48) = c.toNat := by omega
  rw [this]
  simp
/-- What is a numeral in its shortest form is written so. -/
theorem dec_val (n : Nat) : ∀ l : List UInt8, l.length = n → l ≠ [] → l.all isD = true → (l.head? ≠ some 48 ∨ l.length = 1) → Lib.decDigits (valF 0 l) = l ∧ (l.head? ≠ some 48 → 1 ≤ valF 0 l) := by
  induction n with
  | zero => intro l hl hne; exact absurd (List.length_eq_zero_iff.1 hl) hne
  | succ n ih =>
    intro l hl hne hall hh
    obtain ⟨m, c, rfl⟩ : ∃ m c, l = m ++ [c] := ⟨l.dropLast, l.getLast hne, (List.dropLast_concat_getLast hne).symm⟩
    rw [List.all_append, Bool.and_eq_true] at hall
    have hc := isD_iff.1 (show isD c = true by simpa using hall.2)
    rw [valF_snoc]
    cases hm : m with
    | nil =>
      subst hm
      rw [valF_nil, Nat.mul_zero, Nat.zero_add, Lib.decDigits_one (by omega), dig_of hc]
      refine ⟨rfl, fun h => ?_⟩
      have : c ≠ 48 := by simpa using h
      have : c.toNat ≠ 48 := fun e => this (UInt8.toNat_inj.1 (by rw [e]; rfl))
      omega
    | cons a t =>
      have hmne : m ≠ [] := by rw [hm]; simp
      have hhd : (m ++ [c]).head? = m.head? := by rw [hm]; rfl
      have hlm : m.length = n := by rw [List.length_append, List.length_singleton] at hl; omega
      have hlen1 : (m ++ [c]).length ≠ 1 := by rw [List.length_append, List.length_singleton, hm]; simp
      have hmh : m.head? ≠ some 48 := by rw [← hhd]; exact hh.resolve_right hlen1
      obtain ⟨h1, h2⟩ := ih m hlm hmne hall.1 (.inl hmh)
      have hv := h2 hmh
      rw [← hm]
      refine ⟨?_, fun _ => by omega⟩
      rw [Lib.decDigits, dif_neg (by omega), show (10 * valF 0 m + (c.toNat - 48)) / 10 = valF 0 m by omega, show (10 * valF 0 m + (c.toNat - 48)) % 10 = c.toNat - 48 by omega, h1, dig_of hc]
/-- What is written is a numeral in its shortest form. -/
theorem dec_form (n : Nat) : (Lib.decDigits n).all isD = true ∧ valF 0 (Lib.decDigits n) = n ∧ Lib.decDigits n ≠ [] ∧ (1 ≤ n → (Lib.decDigits n).head? ≠ some 48) ∧ (n = 0 → (Lib.decDigits n).length = 1) := by
  induction n using Nat.strongRecOn with
  | ind n ih =>
    by_cases h : n < 10
    · rw [Lib.decDigits_one h]
      have hu : (UInt8.ofNat (48 + n)).toNat = 48 + n := by simp; omega
      refine ⟨?_, ?_, by simp, fun h1 e => ?_, fun _ => rfl⟩
      · show (isD _ && true) = true
        rw [isD_iff.2 (by rw [hu]; omega)]; rfl
      · rw [valF_cons, valF_nil, hu]; omega
      · have e : UInt8.ofNat (48 + n) = 48 := by simpa using e
        have := congrArg UInt8.toNat e
        rw [hu] at this
        have : 48 + n = 48 := this
        omega
    · obtain ⟨h1, h2, h3, h4, _⟩ := ih (n / 10) (by omega)
      rw [Lib.decDigits, dif_neg h]
      have hu : (UInt8.ofNat (48 + n % 10)).toNat = 48 + n % 10 := by simp; omega
      refine ⟨?_, ?_, by simp, fun _ => ?_, fun e => by omega⟩
      · rw [List.all_append, h1]
        show (true && (isD _ && true)) = true
        rw [isD_iff.2 (by rw [hu]; omega)]; rfl
      · rw [valF_snoc, h2, hu]; omega
      · have := h4 (by omega)
        cases e : Lib.decDigits (n / 10) with
        | nil => exact absurd e h3
        | cons a t => rw [e] at this; exact this
theorem itoa_num (v : Int) (h9 : (trimM (Lib.itoa v)).length ≤ 9) : numS (Lib.itoa v) = some v := by
  unfold Lib.itoa at h9 ⊢
  by_cases hv : v < 0
  · rw [if_pos hv] at h9 ⊢
    obtain ⟨h1, h2, h3, h4, _⟩ := dec_form v.natAbs
    have ht : trimM (45 :: Lib.decDigits v.natAbs) = Lib.decDigits v.natAbs := rfl
    rw [ht] at h9
    unfold numS
    rw [ht, if_neg (by
      rintro (h | h | ⟨h, _⟩)
      · exact h3 h
      · omega
      · exact h4 (by omega) h), if_pos h1, h2, if_pos (show (45 :: Lib.decDigits v.natAbs : List UInt8).head? = some 45 from rfl)]
    congr 1; omega
  · rw [if_neg hv] at h9 ⊢
    obtain ⟨h1, h2, h3, h4, h5⟩ := dec_form v.toNat
    have hh : (Lib.decDigits v.toNat).head? ≠ some 45 := by
      cases e : Lib.decDigits v.toNat with
      | nil => simp
      | cons a t =>
        rw [e, List.all_cons, Bool.and_eq_true] at h1
        have := isD_iff.1 h1.1
        intro e2
        have e3 : a = 45 := by simpa using e2
        rw [e3] at this
        exact absurd this.1 (by decide)
    have ht : trimM (Lib.decDigits v.toNat) = Lib.decDigits v.toNat := by unfold trimM; rw [if_neg hh]
    rw [ht] at h9
    unfold numS
    rw [ht, if_neg (by
      rintro (h | h | ⟨h, h6⟩)
      · exact h3 h
      · omega
      · rcases Nat.eq_zero_or_pos v.toNat with h0 | h0
        · have := h5 h0
          rcases h6 with h6 | h6
          · omega
          · exact hh h6
        · exact h4 h0 h), if_pos h1, h2, if_neg hh]
    congr 1; omega
theorem num_itoa {l : List UInt8} {v : Int} (h : numS l = some v) : Lib.atoiAll l = .ok v ∧ Lib.itoa v = l ∧ (trimM l).length ≤ 9 ∧ -1000000000 < v ∧ v < 1000000000 := by
  unfold numS at h
  split at h
  · cases h
  · rename_i hn
    split at h
    · rename_i hall
      cases h
      have h1 : trimM l ≠ [] := fun e => hn (.inl e)
      have h2 : (trimM l).length ≤ 9 := by rcases Nat.lt_or_ge 9 (trimM l).length with e | e; exact absurd (.inr (.inl e)) hn; exact e
      have h3 : ¬ ((trimM l).head? = some 48 ∧ (1 < (trimM l).length ∨ l.head? = some 45)) := fun e => hn (.inr (.inr e))
      have hlp := List.length_pos_iff.2 h1
      have hcan : (trimM l).head? ≠ some 48 ∨ (trimM l).length = 1 := by
        by_cases e : (trimM l).head? = some 48
        · right
          rcases Nat.lt_or_ge 1 (trimM l).length with e2 | e2
          · exact absurd ⟨e, .inl e2⟩ h3
          · omega
        · exact .inl e
      obtain ⟨d1, d2⟩ := dec_val _ (trimM l) rfl h1 hall hcan
      have hb := valF_bound (trimM l) 0 hall
      rw [Nat.zero_add, Nat.one_mul] at hb
      have h10 : 10 ^ (trimM l).length ≤ 10 ^ 9 := Nat.pow_le_pow_right (by decide) h2
      have hb9 : valF 0 (trimM l) < 1000000000 := by have : (10 : Nat) ^ 9 = 1000000000 := by decide
                                                     omega
      have hp := parse_ok (trimM l) 0 hall (by rw [Nat.zero_add, Nat.one_mul]; have : (10 : Nat) ^ 9 = 1000000000 := by decide
                                               omega)
      have hpm : Lib.parseMag (trimM l) = .ok (valF 0 (trimM l)) := by unfold Lib.parseMag; rw [if_neg h1]; exact hp
      cases l with
      | nil => exact absurd rfl h1
      | cons c r =>
        by_cases hc : c = 45
        · subst hc
          have ht : trimM (45 :: r) = r := rfl
          rw [ht] at hn hall h1 h2 h3 hlp hcan d1 d2 hb h10 hb9 hp hpm
          rw [ht]
          have hhd : (45 :: r : List UInt8).head? = some 45 := rfl
          rw [if_pos hhd]
          have hpos : 1 ≤ valF 0 r := d2 (fun e => h3 ⟨e, .inr rfl⟩)
          refine ⟨?_, ?_, h2, by omega, by omega⟩
          · unfold Lib.atoiAll
            dsimp only
            rw [if_pos (.inr (by decide)), hpm]
            dsimp only
            rw [if_neg (by rintro ⟨e, _⟩; exact e (by decide)), if_neg (by rintro ⟨_, e⟩; omega), if_pos (by decide)]
          · unfold Lib.itoa
            rw [if_pos (by omega), show (-(valF 0 r : Int)).natAbs = valF 0 r by omega, d1]
        · have hhd : (c :: r : List UInt8).head? ≠ some 45 := by simpa using hc
          have ht : trimM (c :: r) = c :: r := by unfold trimM; rw [if_neg hhd]
          rw [ht] at hn hall h1 h2 h3 hlp hcan d1 d2 hb h10 hb9 hp hpm
          rw [ht]
          rw [if_neg hhd]
          have hcd : isD c = true := by rw [List.all_cons, Bool.and_eq_true] at hall; exact hall.1
          have hcn := isD_iff.1 hcd
          refine ⟨?_, ?_, h2, by omega, by omega⟩
          · unfold Lib.atoiAll
            dsimp only
            rw [if_neg (by omega), hpm]
            dsimp only
            rw [if_neg (by rintro ⟨_, e⟩; omega), if_neg (by rintro ⟨e, _⟩; omega), if_neg (by omega)]
          · unfold Lib.itoa
            rw [if_neg (by omega), show ((valF 0 (c :: r) : Int)).toNat = valF 0 (c :: r) by omega, d1]
    · cases h
/-- A number within bounds, or which error. -/
def numX (o : Option Int) (lo hi : Int) : Int × Int := match o with
  | none => (0, 3)
  | some v => if v < lo ∨ hi < v then (0, 2) else (v, 0)
def numR (l : List UInt8) (lo hi : Int) : Int × Int := numX (numS l) lo hi
end Go.Proofs.YthpcbaamkeiffaaGreatDoor
namespace Go.Proofs.YthpcbaamkeiffaaGreatDoor
set_option linter.unusedVariables false
set_option linter.unusedSimpArgs false

/-- The first number below n with a property; n if there is none. -/
def firstN (P : Nat → Bool) : Nat → Nat
  | 0 => 0
  | n + 1 => if firstN P n < n then firstN P n else if P n then n else n + 1
theorem firstN_spec (P : Nat → Bool) (n : Nat) : firstN P n ≤ n ∧ (∀ x, x < firstN P n → P x = false) ∧ (firstN P n < n → P (firstN P n) = true) := by
  induction n with
  | zero => exact ⟨Nat.le_refl _, fun x hx => absurd hx (by unfold firstN; omega), fun h => absurd h (by unfold firstN; omega)⟩
  | succ n ih =>
    obtain ⟨h1, h2, h3⟩ := ih
    unfold firstN
    by_cases ha : firstN P n < n
    · rw [if_pos ha]
      exact ⟨by omega, h2, fun _ => h3 ha⟩
    · have hn : firstN P n = n := by omega
      rw [hn] at h2
      rw [if_neg ha]
      by_cases hb : P n = true
      · rw [if_pos hb]; exact ⟨by omega, h2, fun _ => hb⟩
      · rw [if_neg hb]
        refine ⟨Nat.le_refl _, fun x hx => ?_, fun h => absurd h (by omega)⟩
        by_cases e : x = n
        · subst e; exact Bool.eq_false_iff.2 hb
        · exact h2 x (by omega)
theorem firstN_le (P : Nat → Bool) (n : Nat) : firstN P n ≤ n := (firstN_spec P n).1
theorem firstN_lt {P : Nat → Bool} {n x : Nat} (h : x < firstN P n) : P x = false := (firstN_spec P n).2.1 x h
theorem firstN_at {P : Nat → Bool} {n : Nat} (h : firstN P n < n) : P (firstN P n) = true := (firstN_spec P n).2.2 h
theorem firstN_is {P : Nat → Bool} {n p : Nat} (hp : p ≤ n) (h1 : ∀ x, x < p → P x = false) (h2 : p < n → P p = true) : firstN P n = p := by
  rcases Nat.lt_trichotomy (firstN P n) p with h | h | h
  · have a := firstN_at (show firstN P n < n by omega)
    rw [h1 _ h] at a; cases a
  · exact h
  · have a := firstN_lt h
    have b := firstN_le P n
    rw [h2 (by omega)] at a; cases a
theorem firstN_none {P : Nat → Bool} {n : Nat} (h : ∀ x, x < n → P x = false) : firstN P n = n := firstN_is (Nat.le_refl _) h (fun hx => absurd hx (by omega))

end Go.Proofs.YthpcbaamkeiffaaGreatDoor
namespace Go.Proofs.YthpcbaamkeiffaaGreatDoor
set_option linter.unusedVariables false
set_option linter.unusedSimpArgs false

/-- The flags by number: the six ways, Append, Discard. -/
def get8 (f : Flg) : Nat → Bool
  | 0 => f.last
  | 1 => f.next
  | 2 => f.chain
  | 3 => f.fin
  | 4 => f.forb
  | 5 => f.gone
  | 6 => f.app
  | 7 => f.disc
  | _ => false
def set8 (f : Flg) : Nat → Flg
  | 0 => { f with last := true }
  | 1 => { f with next := true }
  | 2 => { f with chain := true }
  | 3 => { f with fin := true }
  | 4 => { f with forb := true }
  | 5 => { f with gone := true }
  | 6 => { f with app := true }
  | 7 => { f with disc := true }
  | _ => f
/-- Their letters. -/
def let8 (k : Nat) : Nat := [76, 78, 67, 69, 70, 71, 65, 68].getD k 0
/-- Which letter a part is; 8 if it is none. -/
def letK (p : ByteArray) : Nat := if p.size = 1 then firstN (fun k => decide (let8 k = byS p 0)) 8 else 8
/-- The first n bytes as a decimal number. -/
def decN (G : Nat → Nat) : Nat → Nat
  | 0 => 0
  | n + 1 => 10 * decN G n + (G n - 48)
def badD (G : Nat → Nat) (x : Nat) : Bool := decide (G x < 48) || decide (57 < G x)
/-- The number of a part; -1 if it is none. -/
def numP (s : ByteArray) : Int :=
  if s.size = 0 ∨ 4 < s.size ∨ (1 < s.size ∧ byS s 0 = 48) then -1
  else if firstN (badD (byS s)) s.size < s.size then -1
  else (decN (byS s) s.size : Int)
theorem decN_bound (G : Nat → Nat) : ∀ n, n ≤ 4 → (∀ x, x < n → badD G x = false) → decN G n < 10 ^ n := by
  intro n
  induction n with
  | zero => intro _ _; exact Nat.zero_lt_one
  | succ n ih =>
    intro hn h
    have h1 := ih (by omega) (fun x hx => h x (by omega))
    have h2 := h n (by omega)
    unfold badD at h2
    rw [Bool.or_eq_false_iff, decide_eq_false_iff_not, decide_eq_false_iff_not] at h2
    unfold decN
    rw [Nat.pow_succ]
    omega
theorem decN_small {G : Nat → Nat} {n : Nat} (hn : n ≤ 4) (h : ∀ x, x < n → badD G x = false) : decN G n < 10000 :=
  Nat.lt_of_lt_of_le (decN_bound G n hn h) (Nat.pow_le_pow_right (by decide) hn)
theorem numP_bounds (s : ByteArray) : -1 ≤ numP s ∧ numP s < 10000 := by
  unfold numP
  by_cases h1 : s.size = 0 ∨ 4 < s.size ∨ (1 < s.size ∧ byS s 0 = 48)
  · rw [if_pos h1]; omega
  · rw [if_neg h1]
    by_cases h2 : firstN (badD (byS s)) s.size < s.size
    · rw [if_pos h2]; omega
    · rw [if_neg h2]
      have hle := firstN_le (badD (byS s)) s.size
      have := decN_small (G := byS s) (n := s.size) (by omega) (fun x hx => firstN_lt (n := s.size) (by omega))
      omega

/-- Flags that are collected: whether Skip and Redirect were named. -/
structure Put where
  f : Flg
  sk : Bool
  rd : Bool
instance : Inhabited Put := ⟨⟨default, false, false⟩⟩
def skP (s : Put) (n : Int) : Put × Int := if n < 0 then (s, 3) else if s.sk = true then (s, 7) else (⟨{ s.f with skip := n }, true, s.rd⟩, 0)
def rdP (s : Put) (n : Int) : Put × Int := if n < 0 then (s, 3) else if s.rd = true then (s, 7) else (⟨{ s.f with red := n }, s.sk, true⟩, 0)
def isS (p : ByteArray) : Bool := decide (2 ≤ p.size) && (decide (byS p 0 = 83) && decide (byS p 1 = 61))
def isR (p : ByteArray) : Bool := decide (2 ≤ p.size) && (decide (byS p 0 = 82) && decide (byS p 1 = 61))
def rE : ByteArray := ⟨#[82]⟩
/-- A part more, or its error. -/
def putP (s : Put) (p : ByteArray) : Put × Int :=
  if letK p < 8 then (if get8 s.f (letK p) = true then (s, 7) else (⟨set8 s.f (letK p), s.sk, s.rd⟩, 0))
  else if isS p = true then skP s (numP (p.extract 2 p.size))
  else if p = rE then rdP s 302
  else if isR p = true then rdP s (numP (p.extract 2 p.size))
  else (s, 11)
/-- Parts, one after the other: the first error and where it is. -/
def runP : List ByteArray → Put → Nat → Put × Int × Nat
  | [], s, a => (s, 0, a)
  | p :: r, s, a => if (putP s p).2 = 0 then runP r (putP s p).1 (a + p.size + 1) else (s, (putP s p).2, a)
/-- The error behind all parts. -/
def wholeP (s : Put) : Int := if (s.sk = true ∧ s.f.skip = 0) ∨ (s.rd = true ∧ s.f.red = 0) then 2 else chkF s.f
def zeroF : Flg := ⟨false, false, false, false, false, false, false, false, 0, 0⟩
def zeroPut : Put := ⟨zeroF, false, false⟩
/-- What a text is, after its parts. -/
def doneR (r : Put × Int × Nat) : Flg × Int × Nat := if r.2.1 = 0 then (if wholeP r.1 = 0 then (r.1.f, 0, 0) else (zeroF, wholeP r.1, 0)) else (zeroF, r.2.1, r.2.2)
/-- The parts between the brackets. -/
def midS (s : ByteArray) : ByteArray := s.extract 1 (s.size - 1)
def parseF (L : List ByteArray) (s : ByteArray) : Flg × Int × Nat :=
  if s.size = 0 then (zeroF, 0, 0)
  else if byS s 0 ≠ 91 then (zeroF, 3, 0)
  else if s.size = 1 then (zeroF, 3, 1)
  else if byS s (s.size - 1) ≠ 93 then (zeroF, 3, s.size - 1)
  else doneR (runP L zeroPut 1)
theorem let8_ne : ∀ j k : Nat, j < 8 → k < 8 → let8 j = let8 k → j = k := by
  intro j k hj hk
  have h : ∀ j : Fin 8, ∀ k : Fin 8, let8 j.val = let8 k.val → j.val = k.val := by decide
  exact h ⟨j, hj⟩ ⟨k, hk⟩
/-- A part is letter k if it is this one byte. -/
theorem letK_is {p : ByteArray} {k : Nat} (hk : k < 8) : letK p = k ↔ p.size = 1 ∧ byS p 0 = let8 k := by
  unfold letK
  by_cases h : p.size = 1
  · rw [if_pos h]
    constructor
    · intro e
      have := firstN_at (P := fun k => decide (let8 k = byS p 0)) (n := 8) (by rw [e]; exact hk)
      rw [e] at this
      exact ⟨h, (of_decide_eq_true this).symm⟩
    · rintro ⟨_, e⟩
      refine firstN_is (by omega) (fun x hx => decide_eq_false fun e2 => ?_) (fun _ => decide_eq_true e.symm)
      have := let8_ne x k (by omega) hk (e2.trans e)
      omega
  · rw [if_neg h]
    exact ⟨fun e => by omega, fun e => absurd e.1 h⟩
/-- The skip and the code stay ints. -/
def PutOk (s : Put) : Prop := (-9223372036854775808 ≤ s.f.skip ∧ s.f.skip ≤ 9223372036854775807) ∧ (-9223372036854775808 ≤ s.f.red ∧ s.f.red ≤ 9223372036854775807)
theorem put_ok {s : Put} (h : PutOk s) (p : ByteArray) : PutOk (putP s p).1 := by
  have hn := numP_bounds (p.extract 2 p.size)
  have h1 : ∀ n : Int, -1 ≤ n ∧ n < 10000 → PutOk (skP s n).1 := fun n hn => by
    unfold skP
    split
    · exact h
    · split
      · exact h
      · exact ⟨⟨by show -9223372036854775808 ≤ n; omega, by show n ≤ 9223372036854775807; omega⟩, h.2⟩
  have h2 : ∀ n : Int, -1 ≤ n ∧ n < 10000 → PutOk (rdP s n).1 := fun n hn => by
    unfold rdP
    split
    · exact h
    · split
      · exact h
      · exact ⟨h.1, ⟨by show -9223372036854775808 ≤ n; omega, by show n ≤ 9223372036854775807; omega⟩⟩
  unfold putP
  split
  · rename_i hk
    split
    · exact h
    · have : letK p = 0 ∨ letK p = 1 ∨ letK p = 2 ∨ letK p = 3 ∨ letK p = 4 ∨ letK p = 5 ∨ letK p = 6 ∨ letK p = 7 := by omega
      rcases this with e | e | e | e | e | e | e | e <;> rw [e] <;> exact h
  · split
    · exact h1 _ hn
    · split
      · exact h2 _ (by omega)
      · split
        · exact h2 _ hn
        · exact h
end Go.Proofs.YthpcbaamkeiffaaGreatDoor
namespace Go.Proofs.YthpcbaamkeiffaaGreatDoor
set_option linter.unusedVariables false
set_option linter.unusedSimpArgs false

/-- Whether a part has a sign of equality. -/
def isEq (x : ByteArray) : Bool := Lib.contains x.data.toList [61]
def ad2 (f : Flg) : Nat → Bool
  | 0 => f.app
  | 1 => f.disc
  | _ => false
def letAD (k : Nat) : ByteArray := ⟨#[([65, 68] : List UInt8).getD k 0]⟩
/-- The letters of Append and Discard among the first k. -/
def adL (f : Flg) : Nat → List ByteArray
  | 0 => []
  | k + 1 => adL f k ++ (if ad2 f k then [letAD k] else [])
/-- All parts, in order. -/
def partsL (f : Flg) : List ByteArray := wayL f 6 ++ adL f 2 ++ (skipL f ++ redL f)
def joinT (l : List ByteArray) : ByteArray := ⟨(Lib.join (l.map (·.data.toList)) [44]).toArray⟩
/-- The text of parts. -/
def textL (l : List ByteArray) : ByteArray := if l = [] then ⟨#[]⟩ else ⟨#[91]⟩ ++ joinT l ++ ⟨#[93]⟩
def ftxF (f : Flg) : ByteArray := textL (partsL f)
theorem isEq_letter : ∀ k, k < 6 → isEq ⟨#[([76, 78, 67, 69, 70, 71] : List UInt8).getD k 0]⟩ = false := by decide +kernel
theorem isEq_at (a : UInt8) (r : List UInt8) (h : a ≠ 61) : isEq ⟨#[a, 61] ++ r.toArray⟩ = true := by
  unfold isEq Lib.contains
  have e : (⟨#[a, 61] ++ r.toArray⟩ : ByteArray).data.toList = a :: 61 :: r := by simp
  rw [e, Lib.index_one]
  unfold Lib.indexByte
  rw [if_neg (by simpa using h)]
  unfold Lib.indexByte
  simp
theorem isEq_skip (r : List UInt8) : isEq (⟨#[83, 61]⟩ ++ ⟨r.toArray⟩) = true := by
  have : (⟨#[83, 61]⟩ ++ ⟨r.toArray⟩ : ByteArray) = ⟨#[83, 61] ++ r.toArray⟩ := by apply str_ext; simp
  rw [this]
  exact isEq_at 83 r (by decide)
theorem isEq_red (r : List UInt8) : isEq (⟨#[82, 61]⟩ ++ ⟨r.toArray⟩) = true := by
  have : (⟨#[82, 61]⟩ ++ ⟨r.toArray⟩ : ByteArray) = ⟨#[82, 61] ++ r.toArray⟩ := by apply str_ext; simp
  rw [this]
  exact isEq_at 82 r (by decide)
theorem wayL_no (f : Flg) : ∀ k, k ≤ 6 → ∀ x ∈ wayL f k, isEq x = false := by
  intro k
  induction k with
  | zero => intro _ x hx; cases hx
  | succ k ih =>
    intro hk x hx
    unfold wayL at hx
    rcases List.mem_append.1 hx with h | h
    · exact ih (by omega) x h
    · by_cases hw : way6 f k = true
      · rw [if_pos hw] at h
        obtain rfl := List.mem_singleton.1 h
        exact isEq_letter k (by omega)
      · rw [if_neg hw] at h; cases h
theorem behL_yes (f : Flg) : ∀ x ∈ skipL f ++ redL f, isEq x = true := by
  intro x hx
  unfold skipL redL at hx
  rcases List.mem_append.1 hx with h | h
  · split at h
    · cases h
    · obtain rfl := List.mem_singleton.1 h
      exact isEq_skip _
  · split at h
    · cases h
    · obtain rfl := List.mem_singleton.1 h
      exact isEq_red _
theorem ways_behind (f : Flg) : (waysL f).filter isEq = skipL f ++ redL f := by
  unfold waysL
  rw [List.append_assoc, List.filter_append, List.filter_eq_nil_iff.2 (fun x hx => by rw [wayL_no f 6 (by decide) x hx]; decide), List.nil_append, List.filter_eq_self.2 (behL_yes f)]
theorem ways_before (f : Flg) : (waysL f).filter (fun x => !isEq x) = wayL f 6 := by
  unfold waysL
  rw [List.append_assoc, List.filter_append, List.filter_eq_self.2 (fun x hx => by rw [wayL_no f 6 (by decide) x hx]; rfl), List.filter_eq_nil_iff.2 (fun x hx => by rw [behL_yes f x hx]; decide), List.append_nil]
theorem filt_yes {p : ByteArray → Bool} {l : List ByteArray} {k : Nat} {x : ByteArray} (h : l[k]? = some x) (hp : p x = true) : (l.take (k + 1)).filter p = (l.take k).filter p ++ [x] := by
  rw [List.take_add_one, h]; simp [hp]
theorem filt_no {p : ByteArray → Bool} {l : List ByteArray} {k : Nat} {x : ByteArray} (h : l[k]? = some x) (hp : p x = false) : (l.take (k + 1)).filter p = (l.take k).filter p := by
  rw [List.take_add_one, h]; simp [hp]
/-- Sizes. -/
theorem wayL_size (f : Flg) : ∀ k, ∀ x ∈ wayL f k, x.size = 1 := by
  intro k
  induction k with
  | zero => intro x hx; cases hx
  | succ k ih =>
    intro x hx
    unfold wayL at hx
    rcases List.mem_append.1 hx with h | h
    · exact ih x h
    · split at h
      · obtain rfl := List.mem_singleton.1 h; rfl
      · cases h
theorem adL_size (f : Flg) : ∀ k, ∀ x ∈ adL f k, x.size = 1 := by
  intro k
  induction k with
  | zero => intro x hx; cases hx
  | succ k ih =>
    intro x hx
    unfold adL at hx
    rcases List.mem_append.1 hx with h | h
    · exact ih x h
    · split at h
      · obtain rfl := List.mem_singleton.1 h; rfl
      · cases h
theorem adL_len (f : Flg) : ∀ k, (adL f k).length ≤ k := by
  intro k
  induction k with
  | zero => exact Nat.le_refl _
  | succ k ih =>
    unfold adL
    rw [List.length_append]
    split <;> simp <;> omega
theorem lens_le {n : Nat} : ∀ (l : List ByteArray), (∀ x ∈ l, x.size ≤ n) → Lib.lens (l.map (·.data.toList)) ≤ n * l.length := by
  intro l
  induction l with
  | nil => intro _; exact Nat.zero_le _
  | cons x r ih =>
    intro h
    have h1 := ih (fun y hy => h y (by simp [hy]))
    have h2 := h x (by simp)
    rw [← size_data] at h2
    unfold Lib.lens at h1 ⊢
    rw [List.map_cons, List.map_cons, List.sum_cons, List.length_cons, Nat.mul_succ]
    omega
theorem join_le {n : Nat} (l : List ByteArray) (h : ∀ x ∈ l, x.size ≤ n) : (Lib.join (l.map (·.data.toList)) [44]).length ≤ (n + 1) * l.length := by
  cases l with
  | nil => exact Nat.zero_le _
  | cons x r =>
    rw [List.map_cons, Lib.join_cons, List.length_append, Lib.joinTail_length]
    have h1 := lens_le r (fun y hy => h y (by simp [hy]))
    have h2 := h x (by simp)
    rw [← size_data] at h2
    rw [List.length_map]
    simp only [List.length_cons, List.length_nil]
    have e : (n + 1) * (r.length + 1) = n * r.length + r.length + n + 1 := by rw [Nat.mul_succ, Nat.add_mul]; omega
    rw [e]
    omega
end Go.Proofs.YthpcbaamkeiffaaGreatDoor
namespace Go.Proofs.YthpcbaamkeiffaaGreatDoor
open Go.RowKit
set_option linter.unusedVariables false
set_option linter.unusedSimpArgs false

theorem numP_none {s : ByteArray} (h : s.size = 0 ∨ 4 < s.size ∨ (1 < s.size ∧ byS s 0 = 48)) : numP s = -1 := by unfold numP; rw [if_pos h]
theorem numP_bad {s : ByteArray} {k : Nat} (hk : k < s.size) (hb : badD (byS s) k = true) : numP s = -1 := by
  unfold numP
  by_cases h : s.size = 0 ∨ 4 < s.size ∨ (1 < s.size ∧ byS s 0 = 48)
  · rw [if_pos h]
  · rw [if_neg h, if_pos]
    rcases Nat.lt_or_ge (firstN (badD (byS s)) s.size) s.size with h1 | h1
    · exact h1
    · have := firstN_lt (P := badD (byS s)) (n := s.size) (x := k) (by omega)
      rw [hb] at this; cases this
theorem numP_ok {s : ByteArray} (h : ¬ (s.size = 0 ∨ 4 < s.size ∨ (1 < s.size ∧ byS s 0 = 48))) (hg : ∀ x, x < s.size → badD (byS s) x = false) : numP s = (decN (byS s) s.size : Int) := by
  unfold numP
  rw [if_neg h, firstN_none hg, if_neg (by omega)]
def numC (s : ByteArray) : Value := if numP s < 0 then .tuple #[.int .i64 0, .int .i64 3] else .tuple #[.int .i64 (numP s), .int .i64 0]
def fnumR (s : ByteArray) : Value := if numP s < 0 then .tuple #[.int .i64 0, .bool false] else .tuple #[.int .i64 (numP s), .bool true]
theorem numC_no {s : ByteArray} (h : numP s < 0) : numC s = .tuple #[.int .i64 0, .int .i64 3] := by unfold numC; rw [if_pos h]
theorem numR_no {s : ByteArray} (h : numP s < 0) : fnumR s = .tuple #[.int .i64 0, .bool false] := by unfold fnumR; rw [if_pos h]
theorem numC_is {s : ByteArray} (h : ¬ numP s < 0) : numC s = .tuple #[.int .i64 (numP s), .int .i64 0] := by unfold numC; rw [if_neg h]
theorem numR_is {s : ByteArray} (h : ¬ numP s < 0) : fnumR s = .tuple #[.int .i64 (numP s), .bool true] := by unfold fnumR; rw [if_neg h]
def NumRel (s : ByteArray) (n k : Value) : Prop := ∃ j : Nat, j ≤ s.size ∧ (∀ x, x < j → badD (byS s) x = false) ∧ k = .int .i64 (j : Int) ∧ n = .int .i64 (decN (byS s) j : Int)

set_option maxRecDepth 100000 in
set_option maxHeartbeats 4000000 in
theorem fnum (s : ByteArray) (hs : s.size ≤ 1000000) (w : World) :
    Calls Tryz.prog 189 #[.string s] w fun e W' => e = .returned (numC s) ∧ w = W' := by
  by_cases h0 : s.size = 0
  · have kk := Lib.hid (numP_none (.inl h0))
    obtain rfl := empty_of_size h0
    go_enter Tryz.func189, Tryz.ntmps189
    go_wp2_with (fail)
    go_ret2
    exact ⟨by rw [numC_no (by rw [kk.out]; decide)] <;> rfl, rfl⟩
  · have hne := nonempty_b s (by omega)
    by_cases h4 : (4 : Int) < (s.size : Int)
    · have kk := Lib.hid (numP_none (s := s) (.inr (.inl (by omega))))
      go_enter Tryz.func189, Tryz.ntmps189
      go_wp2_with (fail)
      go_ret2
      exact ⟨by rw [numC_no (by rw [kk.out]; decide)] <;> rfl, rfl⟩
    · have hps : 0 < s.size := by omega
      obtain ⟨d, hd⟩ : ∃ d, d = byS s 0 := ⟨_, rfl⟩
      have e0 := fun h' => get_byS s 0 h'
      simp only [← hd] at e0
      by_cases h1 : (1 : Int) < (s.size : Int) ∧ d = 48
      · obtain ⟨h1, h48⟩ := h1
        have kk := Lib.hid (numP_none (s := s) (.inr (.inr ⟨by omega, by rw [← hd]; exact h48⟩)))
        have q : ((d : Int) == 48) = true := by simp; omega
        clear hd h48
        go_enter Tryz.func189, Tryz.ntmps189
        go_wp2_with (fail)
        go_ret2
        exact ⟨by rw [numC_no (by rw [kk.out]; decide)] <;> rfl, rfl⟩
      · have hok : ¬ (s.size = 0 ∨ 4 < s.size ∨ (1 < s.size ∧ byS s 0 = 48)) := by rw [← hd]; omega
        have HOK := Lib.hid hok
        have hq : ¬ (1 : Int) < (s.size : Int) ∨ ((d : Int) == 48) = false := by
          by_cases h2 : (1 : Int) < (s.size : Int)
          · right; simp; omega
          · left; exact h2
        clear hok h1 hd
        go_enter Tryz.func189, Tryz.ntmps189
        rcases hq with hq | hq
        all_goals
          have hqi := hq
          (try by_cases hs1 : (1 : Int) < (s.size : Int))
          all_goals
            go_wp2_with (fail)
            clear e0 hq hqi
            go_loop [4, 25] (fun n k => NumRel s n k) (fun _ k => s.size - (intOf k).toNat)
            case atStart => exact ⟨0, by omega, fun x hx => absurd hx (by omega), rfl, rfl⟩
            case round =>
              obtain ⟨j, hj, hg, rfl, rfl⟩ := hrel
              have HG := Lib.hid hg
              by_cases hlt : j < s.size
              · obtain ⟨c, hc⟩ : ∃ c, c = byS s j := ⟨_, rfl⟩
                have e1 := fun h' => get_byS s j h'
                simp only [← hc] at e1
                have hsm : decN (byS s) j < 10000 := decN_small (by omega) hg
                have hc2 : c < 256 := by rw [hc]; exact byS_lt s j
                clear hg
                obtain ⟨m, hm⟩ : ∃ m, m = decN (byS s) j := ⟨_, rfl⟩
                rw [← hm] at hsm ⊢
                have HM := Lib.hid (And.intro hc hm)
                clear hc hm
                by_cases h48 : c < 48
                · have kk := Lib.hid (numP_bad hlt (by unfold badD; rw [← HM.out.1, decide_eq_true h48]; rfl))
                  go_wp2_with (fail)
                  go_ret2
                  exact ⟨by rw [numC_no (by rw [kk.out]; decide)] <;> rfl, rfl⟩
                · by_cases h57 : 57 < c
                  · have kk := Lib.hid (numP_bad hlt (by unfold badD; rw [← HM.out.1, decide_eq_true h57, Bool.or_true]))
                    go_wp2_with (fail)
                    go_ret2
                    exact ⟨by rw [numC_no (by rw [kk.out]; decide)] <;> rfl, rfl⟩
                  · have q2 : IntKind.u8.wrap ((c : Int) - 48) = (c : Int) - 48 := by rw [IntKind.wrap_u8]; omega
                    have nxt : Hid (∀ x, x < j + 1 → badD (byS s) x = false) := Lib.hid (fun x hx => by
                      by_cases e : x = j
                      · rw [e]; unfold badD; rw [← HM.out.1, decide_eq_false h48, decide_eq_false h57]; rfl
                      · exact HG.out x (by omega))
                    have hval : Hid ((decN (byS s) (j + 1) : Int) = 10 * (m : Int) + ((c : Int) - 48)) := Lib.hid (by unfold decN; rw [← HM.out.1, ← HM.out.2]; omega)
                    go_wp2_with (fail)
                    exact ⟨⟨j + 1, by omega, nxt.out, by go_num, by rw [hval.out]⟩, by simp [intOf]; omega⟩
              · obtain rfl : j = s.size := by omega
                have kk := Lib.hid (numP_ok HOK.out hg)
                have kn : ¬ ((decN (byS s) s.size : Int) < 0) := by omega
                clear hg
                go_wp2_with (fail)
                go_ret2
                exact ⟨by rw [numC_is (by rw [kk.out]; omega), kk.out] <;> rfl, rfl⟩

set_option maxRecDepth 100000 in
set_option maxHeartbeats 4000000 in
theorem rnum (s : ByteArray) (hs : s.size ≤ 1000000) (w : World) :
    Calls Tryz.prog 190 #[.string s] w fun e W' => e = .returned (fnumR s) ∧ w = W' := by
  by_cases h0 : s.size = 0
  · have kk := Lib.hid (numP_none (.inl h0))
    obtain rfl := empty_of_size h0
    go_enter Tryz.func190, Tryz.ntmps190
    go_wp2_with (fail)
    go_ret2
    exact ⟨by rw [numR_no (by rw [kk.out]; decide)] <;> rfl, rfl⟩
  · have hne := nonempty_b s (by omega)
    by_cases h4 : (4 : Int) < (s.size : Int)
    · have kk := Lib.hid (numP_none (s := s) (.inr (.inl (by omega))))
      go_enter Tryz.func190, Tryz.ntmps190
      go_wp2_with (fail)
      go_ret2
      exact ⟨by rw [numR_no (by rw [kk.out]; decide)] <;> rfl, rfl⟩
    · have hps : 0 < s.size := by omega
      obtain ⟨d, hd⟩ : ∃ d, d = byS s 0 := ⟨_, rfl⟩
      have e0 := fun h' => get_byS s 0 h'
      simp only [← hd] at e0
      by_cases h1 : (1 : Int) < (s.size : Int) ∧ d = 48
      · obtain ⟨h1, h48⟩ := h1
        have kk := Lib.hid (numP_none (s := s) (.inr (.inr ⟨by omega, by rw [← hd]; exact h48⟩)))
        have q : ((d : Int) == 48) = true := by simp; omega
        clear hd h48
        go_enter Tryz.func190, Tryz.ntmps190
        go_wp2_with (fail)
        go_ret2
        exact ⟨by rw [numR_no (by rw [kk.out]; decide)] <;> rfl, rfl⟩
      · have hok : ¬ (s.size = 0 ∨ 4 < s.size ∨ (1 < s.size ∧ byS s 0 = 48)) := by rw [← hd]; omega
        have HOK := Lib.hid hok
        have hq : ¬ (1 : Int) < (s.size : Int) ∨ ((d : Int) == 48) = false := by
          by_cases h2 : (1 : Int) < (s.size : Int)
          · right; simp; omega
          · left; exact h2
        clear hok h1 hd
        go_enter Tryz.func190, Tryz.ntmps190
        rcases hq with hq | hq
        all_goals
          have hqi := hq
          (try by_cases hs1 : (1 : Int) < (s.size : Int))
          all_goals
            go_wp2_with (fail)
            clear e0 hq hqi
            go_loop [4, 5] (fun n k => NumRel s n k) (fun _ k => s.size - (intOf k).toNat)
            case atStart => exact ⟨0, by omega, fun x hx => absurd hx (by omega), rfl, rfl⟩
            case round =>
              obtain ⟨j, hj, hg, rfl, rfl⟩ := hrel
              have HG := Lib.hid hg
              by_cases hlt : j < s.size
              · obtain ⟨c, hc⟩ : ∃ c, c = byS s j := ⟨_, rfl⟩
                have e1 := fun h' => get_byS s j h'
                simp only [← hc] at e1
                have hsm : decN (byS s) j < 10000 := decN_small (by omega) hg
                have hc2 : c < 256 := by rw [hc]; exact byS_lt s j
                clear hg
                obtain ⟨m, hm⟩ : ∃ m, m = decN (byS s) j := ⟨_, rfl⟩
                rw [← hm] at hsm ⊢
                have HM := Lib.hid (And.intro hc hm)
                clear hc hm
                by_cases h48 : c < 48
                · have kk := Lib.hid (numP_bad hlt (by unfold badD; rw [← HM.out.1, decide_eq_true h48]; rfl))
                  go_wp2_with (fail)
                  go_ret2
                  exact ⟨by rw [numR_no (by rw [kk.out]; decide)] <;> rfl, rfl⟩
                · by_cases h57 : 57 < c
                  · have kk := Lib.hid (numP_bad hlt (by unfold badD; rw [← HM.out.1, decide_eq_true h57, Bool.or_true]))
                    go_wp2_with (fail)
                    go_ret2
                    exact ⟨by rw [numR_no (by rw [kk.out]; decide)] <;> rfl, rfl⟩
                  · have q2 : IntKind.u8.wrap ((c : Int) - 48) = (c : Int) - 48 := by rw [IntKind.wrap_u8]; omega
                    have nxt : Hid (∀ x, x < j + 1 → badD (byS s) x = false) := Lib.hid (fun x hx => by
                      by_cases e : x = j
                      · rw [e]; unfold badD; rw [← HM.out.1, decide_eq_false h48, decide_eq_false h57]; rfl
                      · exact HG.out x (by omega))
                    have hval : Hid ((decN (byS s) (j + 1) : Int) = 10 * (m : Int) + ((c : Int) - 48)) := Lib.hid (by unfold decN; rw [← HM.out.1, ← HM.out.2]; omega)
                    go_wp2_with (fail)
                    exact ⟨⟨j + 1, by omega, nxt.out, by go_num, by rw [hval.out]⟩, by simp [intOf]; omega⟩
              · obtain rfl : j = s.size := by omega
                have kk := Lib.hid (numP_ok HOK.out hg)
                have kn : ¬ ((decN (byS s) s.size : Int) < 0) := by omega
                clear hg
                go_wp2_with (fail)
                go_ret2
                exact ⟨by rw [numR_is (by rw [kk.out]; omega), kk.out] <;> rfl, rfl⟩
end Go.Proofs.YthpcbaamkeiffaaGreatDoor
namespace Go.Proofs.YthpcbaamkeiffaaGreatDoor
open Go.RowKit Go.Joins
set_option linter.unusedVariables false
set_option linter.unusedSimpArgs false

/-- The tables that the walks read. -/
def Tabs (w : World) : Prop := Lib.TabIs Tryz.prog w "waypost/flag.codes" .i64 [301, 302, 303, 307, 308] ∧ Lib.TabIs Tryz.prog w "internal/strconv.uint64pow10" .u64 Lib.pow10Tab
theorem gCodes : Tryz.prog.globalNamed "waypost/flag.codes" = some 0 := by kernel_rfl
theorem gPow : Tryz.prog.globalNamed "internal/strconv.uint64pow10" = some 2 := by kernel_rfl
theorem Tabs.below {w w' : World} {B : Nat} (h : Tabs w) (hb : Below B w w') (hB : w.heap.size ≤ B) : Tabs w' := ⟨tab_stays gCodes h.1 hb hB, tab_stays gPow h.2 hb hB⟩
theorem infoStr : (Tryz.prog.info? 9).map (fun i => (i.zero, i.size, i.bytes)) = some (some (.string ⟨#[]⟩), 1, 16) := by kernel_rfl

theorem info_parts {P : Program} {t : TypeId} {z : Value} {s b : Nat} (h : (P.info? t).map (fun i => (i.zero, i.size, i.bytes)) = some (some z, s, b)) : ∃ i, P.info? t = some i ∧ i.zero = some z ∧ i.size = s ∧ i.bytes = b := by
  cases hi : P.info? t with
  | none => rw [hi] at h; cases h
  | some i =>
    rw [hi] at h
    simp only [Option.map_some, Option.some.injEq, Prod.mk.injEq] at h
    exact ⟨i, rfl, h.1, h.2.1, h.2.2⟩

def codeAt (k : Nat) : Int := ([301, 302, 303, 307, 308] : List Int).getD k 0
theorem idx_codes (k : Nat) (hk : k < 5) (w : World) : (Instr.index 175 (.agg #[.int .i64 301, .int .i64 302, .int .i64 303, .int .i64 307, .int .i64 308]) (.int .i64 (k : Int))).run Tryz.prog w = .ok (.int .i64 (codeAt k)) w := by
  have h : k = 0 ∨ k = 1 ∨ k = 2 ∨ k = 3 ∨ k = 4 := by omega
  rcases h with rfl | rfl | rfl | rfl | rfl
  · show (Instr.index 175 _ (.int .i64 0)).run Tryz.prog w = .ok (.int .i64 301) w
    kernel_rfl
  · show (Instr.index 175 _ (.int .i64 1)).run Tryz.prog w = .ok (.int .i64 302) w
    kernel_rfl
  · show (Instr.index 175 _ (.int .i64 2)).run Tryz.prog w = .ok (.int .i64 303) w
    kernel_rfl
  · show (Instr.index 175 _ (.int .i64 3)).run Tryz.prog w = .ok (.int .i64 307) w
    kernel_rfl
  · show (Instr.index 175 _ (.int .i64 4)).run Tryz.prog w = .ok (.int .i64 308) w
    kernel_rfl
theorem codeR_at {n : Int} {k : Nat} (hk : k < 5) (h : codeAt k = n) : codeR n = true := by
  subst h
  have h : k = 0 ∨ k = 1 ∨ k = 2 ∨ k = 3 ∨ k = 4 := by omega
  rcases h with rfl | rfl | rfl | rfl | rfl <;> rfl
theorem codeR_no {n : Int} (h : ∀ j, j < 5 → codeAt j ≠ n) : codeR n = false := by
  have h0 : (301 : Int) ≠ n := h 0 (by decide)
  have h1 : (302 : Int) ≠ n := h 1 (by decide)
  have h2 : (303 : Int) ≠ n := h 2 (by decide)
  have h3 : (307 : Int) ≠ n := h 3 (by decide)
  have h4 : (308 : Int) ≠ n := h 4 (by decide)
  unfold codeR
  rw [beq_eq_false_iff_ne.2 (Ne.symm h0), beq_eq_false_iff_ne.2 (Ne.symm h1), beq_eq_false_iff_ne.2 (Ne.symm h2), beq_eq_false_iff_ne.2 (Ne.symm h3), beq_eq_false_iff_ne.2 (Ne.symm h4)]
  rfl
def CodeRel (n : Int) (w : World) (i : Value) (wr : World) : Prop := wr = w ∧ ∃ k : Nat, k ≤ 5 ∧ i = .int .i64 (k : Int) ∧ ∀ j, j < k → codeAt j ≠ n

set_option maxRecDepth 100000 in
set_option maxHeartbeats 2000000 in
theorem fcode (n : Int) (w : World) (hT : Tabs w) : Calls Tryz.prog 90 #[.int .i64 n] w fun e w' => e = .returned (.bool (codeR n || n == 0)) ∧ w' = w := by
  have c0 := hT.1.cell gCodes 0 (by decide)
  have c1 := hT.1.cell gCodes 1 (by decide)
  have c2 := hT.1.cell gCodes 2 (by decide)
  have c3 := hT.1.cell gCodes 3 (by decide)
  have c4 := hT.1.cell gCodes 4 (by decide)
  simp only [List.getD_cons_zero, List.getD_cons_succ] at c0 c1 c2 c3 c4
  clear hT
  go_enter Tryz.func90, Tryz.ntmps90
  go_wp2_with (fail)
  go_loopw [6] (fun i wr => CodeRel n w i wr) (fun i _ => 5 - (intOf i).toNat)
  case atStart => exact ⟨rfl, 0, by decide, rfl, fun j hj => absurd hj (by omega)⟩
  case round =>
    obtain ⟨rfl, k, hk, rfl, hne⟩ := hrel
    clear c0 c1 c2 c3 c4
    by_cases hlt : k < 5
    · have hix := idx_codes k hlt
      have hcr := @codeR_at n k hlt
      have HN := Lib.hid hne
      clear hne
      generalize hc : codeAt k = c at hix hcr
      by_cases hcn : c = n
      · have HC := Lib.hid (hcr hcn)
        clear hcr
        go_wp2_with (fail)
        go_ret
        exact ⟨ret_bool (by rw [HC.out]; rfl), rfl⟩
      · clear hcr
        go_wp2_with (fail)
        refine ⟨⟨rfl, k + 1, by omega, by go_num, fun j hj => ?_⟩, by simp [intOf]; omega⟩
        by_cases hjk : j = k
        · subst hjk; rw [hc]; exact hcn
        · exact HN.out j (by omega)
    · obtain rfl : k = 5 := by omega
      have HC := Lib.hid (codeR_no hne)
      clear hne
      go_wp2_with (fail)
      go_ret
      exact ⟨ret_bool (by rw [HC.out]; simp), rfl⟩

/-! flag.ways. -/
def WayRel (f : Flg) (w : World) (v i : Value) (wr : World) : Prop :=
  ∃ k : Nat, k ≤ 6 ∧ i = .int .i64 (k : Int) ∧ wr.ownsRow w.heap.size 9 1 v (wayL f k).length ((wayL f k).map .string) ∧ Blk wr w.heap.size 64 #[Value.bool f.last, .bool f.next, .bool f.chain, .bool f.fin, .bool f.forb, .bool f.gone, .bool f.app, .bool f.disc, .int .i64 f.skip, .int .i64 f.red] ∧ Below w.heap.size w wr
theorem idx_way (f : Flg) (k : Nat) (hk : k < 6) (w : World) : (Instr.index 148 (.agg #[.bool f.last, .bool f.next, .bool f.chain, .bool f.fin, .bool f.forb, .bool f.gone]) (.int .i64 (k : Int))).run Tryz.prog w = .ok (.bool (way6 f k)) w := by
  have h : k = 0 ∨ k = 1 ∨ k = 2 ∨ k = 3 ∨ k = 4 ∨ k = 5 := by omega
  rcases h with rfl | rfl | rfl | rfl | rfl | rfl
  · show (Instr.index 148 _ (.int .i64 0)).run Tryz.prog w = .ok (.bool f.last) w
    kernel_rfl
  · show (Instr.index 148 _ (.int .i64 1)).run Tryz.prog w = .ok (.bool f.next) w
    kernel_rfl
  · show (Instr.index 148 _ (.int .i64 2)).run Tryz.prog w = .ok (.bool f.chain) w
    kernel_rfl
  · show (Instr.index 148 _ (.int .i64 3)).run Tryz.prog w = .ok (.bool f.fin) w
    kernel_rfl
  · show (Instr.index 148 _ (.int .i64 4)).run Tryz.prog w = .ok (.bool f.forb) w
    kernel_rfl
  · show (Instr.index 148 _ (.int .i64 5)).run Tryz.prog w = .ok (.bool f.gone) w
    kernel_rfl
def letter (k : Nat) : ByteArray := ⟨#[([76, 78, 67, 69, 70, 71] : List UInt8).getD k 0]⟩
theorem sub_letter (k : Nat) (hk : k < 6) (w : World) : (Instr.slice 9 (.string ⟨#[76, 78, 67, 69, 70, 71]⟩) (some (.int .i64 (k : Int))) (some (.int .i64 ((k : Int) + 1))) none).run Tryz.prog w = .ok (.string (letter k)) w := by
  have h : k = 0 ∨ k = 1 ∨ k = 2 ∨ k = 3 ∨ k = 4 ∨ k = 5 := by omega
  rcases h with rfl | rfl | rfl | rfl | rfl | rfl
  · show (Instr.slice 9 _ (some (.int .i64 0)) (some (.int .i64 1)) none).run Tryz.prog w = .ok (.string ⟨#[76]⟩) w
    kernel_rfl
  · show (Instr.slice 9 _ (some (.int .i64 1)) (some (.int .i64 2)) none).run Tryz.prog w = .ok (.string ⟨#[78]⟩) w
    kernel_rfl
  · show (Instr.slice 9 _ (some (.int .i64 2)) (some (.int .i64 3)) none).run Tryz.prog w = .ok (.string ⟨#[67]⟩) w
    kernel_rfl
  · show (Instr.slice 9 _ (some (.int .i64 3)) (some (.int .i64 4)) none).run Tryz.prog w = .ok (.string ⟨#[69]⟩) w
    kernel_rfl
  · show (Instr.slice 9 _ (some (.int .i64 4)) (some (.int .i64 5)) none).run Tryz.prog w = .ok (.string ⟨#[70]⟩) w
    kernel_rfl
  · show (Instr.slice 9 _ (some (.int .i64 5)) (some (.int .i64 6)) none).run Tryz.prog w = .ok (.string ⟨#[71]⟩) w
    kernel_rfl
end Go.Proofs.YthpcbaamkeiffaaGreatDoor
