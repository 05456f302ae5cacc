/-
  Decimal numerals: which string a number is, read and written; no program is in sight; no condition.
-/
import Derived.Test.YtpicenopiigfpaaDoorRwFn
import Derived.Lib.ItoaNum
import Derived.Lib.AtoiAll
namespace Go.Proofs.YtpicenopiigfpaaDoor
set_option linter.unusedVariables false
set_option linter.unusedSimpArgs false

def isD (c : UInt8) : Bool := decide (48 ≤ c.toNat) && decide (c.toNat ≤ 57)
def valF (a : Nat) (l : List UInt8) : Nat := l.foldl (fun a c => 10 * a + (c.toNat - 48)) a
theorem valF_nil (a : Nat) : valF a [] = a := rfl
theorem valF_cons (a : Nat) (c : UInt8) (t : List UInt8) : valF a (c :: t) = valF (10 * a + (c.toNat - 48)) t := by unfold valF; rw [List.foldl_cons]
theorem valF_snoc (a : Nat) (l : List UInt8) (c : UInt8) : valF a (l ++ [c]) = 10 * valF a l + (c.toNat - 48) := by unfold valF; rw [List.foldl_append]; rfl
def trimM (l : List UInt8) : List UInt8 := if l.head? = some 45 then l.tail else l
/-- The number that a string is. -/
def numS (l : List UInt8) : Option Int :=
  if trimM l = [] ∨ 9 < (trimM l).length ∨ ((trimM l).head? = some 48 ∧ (1 < (trimM l).length ∨ l.head? = some 45)) then none
  else if (trimM l).all isD = true then some (if l.head? = some 45 then -(valF 0 (trimM l) : Int) else (valF 0 (trimM l) : Int))
  else none
theorem isD_iff {c : UInt8} : isD c = true ↔ 48 ≤ c.toNat ∧ c.toNat ≤ 57 := by unfold isD; rw [Bool.and_eq_true, decide_eq_true_eq, decide_eq_true_eq]
theorem valF_bound : ∀ (l : List UInt8) (a : Nat), l.all isD = true → valF a l + 1 ≤ (a + 1) * 10 ^ l.length
  | [], a, _ => by simp [valF_nil]
  | c :: t, a, h => by
    rw [List.all_cons, Bool.and_eq_true] at h
    have hc := isD_iff.1 h.1
    rw [valF_cons, List.length_cons, Nat.pow_succ]
    refine Nat.le_trans (valF_bound t _ h.2) ?_
    have h1 : 10 * a + (c.toNat - 48) + 1 ≤ (a + 1) * 10 := by omega
    calc (10 * a + (c.toNat - 48) + 1) * 10 ^ t.length ≤ (a + 1) * 10 * 10 ^ t.length := Nat.mul_le_mul_right _ h1
      _ = (a + 1) * (10 ^ t.length * 10) := by rw [Nat.mul_assoc, Nat.mul_comm 10]
theorem parse_ok : ∀ (l : List UInt8) (a : Nat), l.all isD = true → (a + 1) * 10 ^ l.length ≤ 1000000000 → Lib.parseUint10 a l = .ok (valF a l)
  | [], a, _, _ => rfl
  | c :: t, a, h, hb => by
    rw [List.all_cons, Bool.and_eq_true] at h
    have hc := isD_iff.1 h.1
    rw [List.length_cons, Nat.pow_succ] at hb
    have hp : 1 ≤ 10 ^ t.length := Nat.one_le_pow _ _ (by decide)
    have h2 : (a + 1) * 10 * 10 ^ t.length ≤ 1000000000 := by rw [Nat.mul_assoc, Nat.mul_comm 10]; exact hb
    have h3 : (a + 1) * 10 ≤ 1000000000 := Nat.le_trans (Nat.le_mul_of_pos_right _ hp) h2
    have h1 : 10 * a + (c.toNat - 48) + 1 ≤ (a + 1) * 10 := by omega
    have e : a * 10 + (c.toNat - 48) = 10 * a + (c.toNat - 48) := by omega
    unfold Lib.parseUint10
    rw [if_pos hc, if_neg (by omega), if_neg (by omega), e]
    exact parse_ok t _ h.2 (Nat.le_trans (Nat.mul_le_mul_right _ h1) h2)
theorem dig_of {c : UInt8} (h : 48 ≤ c.toNat ∧ c.toNat ≤ 57) : UInt8.ofNat (48 + (c.toNat - 48)) = c := by
  apply UInt8.toNat_inj.1
  have : 48 + (c.toNat - 48) = c.toNat := by omega
  rw [this]
  simp
/-- What is a numeral in its shortest form is written so. -/
theorem dec_val (n : Nat) : ∀ l : List UInt8, l.length = n → l ≠ [] → l.all isD = true → (l.head? ≠ some 48 ∨ l.length = 1) → Lib.decDigits (valF 0 l) = l ∧ (l.head? ≠ some 48 → 1 ≤ valF 0 l) := by
  induction n with
  | zero => intro l hl hne; exact absurd (List.length_eq_zero_iff.1 hl) hne
  | succ n ih =>
    intro l hl hne hall hh
    obtain ⟨m, c, rfl⟩ : ∃ m c, l = m ++ [c] := ⟨l.dropLast, l.getLast hne, (List.dropLast_concat_getLast hne).symm⟩
    rw [List.all_append, Bool.and_eq_true] at hall
    have hc := isD_iff.1 (show isD c = true by simpa using hall.2)
    rw [valF_snoc]
    cases hm : m with
    | nil =>
      subst hm
      rw [valF_nil, Nat.mul_zero, Nat.zero_add, Lib.decDigits_one (by omega), dig_of hc]
      refine ⟨rfl, fun h => ?_⟩
      have : c ≠ 48 := by simpa using h
      have : c.toNat ≠ 48 := fun e => this (UInt8.toNat_inj.1 (by rw [e]; rfl))
      omega
    | cons a t =>
      have hmne : m ≠ [] := by rw [hm]; simp
      have hhd : (m ++ [c]).head? = m.head? := by rw [hm]; rfl
      have hlm : m.length = n := by rw [List.length_append, List.length_singleton] at hl; omega
      have hlen1 : (m ++ [c]).length ≠ 1 := by rw [List.length_append, List.length_singleton, hm]; simp
      have hmh : m.head? ≠ some 48 := by rw [← hhd]; exact hh.resolve_right hlen1
      obtain ⟨h1, h2⟩ := ih m hlm hmne hall.1 (.inl hmh)
      have hv := h2 hmh
      rw [← hm]
      refine ⟨?_, fun _ => by omega⟩
      rw [Lib.decDigits, dif_neg (by omega), show (10 * valF 0 m + (c.toNat - 48)) / 10 = valF 0 m by omega, show (10 * valF 0 m + (c.toNat - 48)) % 10 = c.toNat - 48 by omega, h1, dig_of hc]
/-- What is written is a numeral in its shortest form. -/
theorem dec_form (n : Nat) : (Lib.decDigits n).all isD = true ∧ valF 0 (Lib.decDigits n) = n ∧ Lib.decDigits n ≠ [] ∧ (1 ≤ n → (Lib.decDigits n).head? ≠ some 48) ∧ (n = 0 → (Lib.decDigits n).length = 1) := by
  induction n using Nat.strongRecOn with
  | ind n ih =>
    by_cases h : n < 10
    · rw [Lib.decDigits_one h]
      have hu : (UInt8.ofNat (48 + n)).toNat = 48 + n := by simp; omega
      refine ⟨?_, ?_, by simp, fun h1 e => ?_, fun _ => rfl⟩
      · show (isD _ && true) = true
        rw [isD_iff.2 (by rw [hu]; omega)]; rfl
      · rw [valF_cons, valF_nil, hu]; omega
      · have e : UInt8.ofNat (48 + n) = 48 := by simpa using e
        have := congrArg UInt8.toNat e
        rw [hu] at this
        have : 48 + n = 48 := this
        omega
    · obtain ⟨h1, h2, h3, h4, _⟩ := ih (n / 10) (by omega)
      rw [Lib.decDigits, dif_neg h]
      have hu : (UInt8.ofNat (48 + n % 10)).toNat = 48 + n % 10 := by simp; omega
      refine ⟨?_, ?_, by simp, fun _ => ?_, fun e => by omega⟩
      · rw [List.all_append, h1]
        show (true && (isD _ && true)) = true
        rw [isD_iff.2 (by rw [hu]; omega)]; rfl
      · rw [valF_snoc, h2, hu]; omega
      · have := h4 (by omega)
        cases e : Lib.decDigits (n / 10) with
        | nil => exact absurd e h3
        | cons a t => rw [e] at this; exact this
theorem itoa_num (v : Int) (h9 : (trimM (Lib.itoa v)).length ≤ 9) : numS (Lib.itoa v) = some v := by
  unfold Lib.itoa at h9 ⊢
  by_cases hv : v < 0
  · rw [if_pos hv] at h9 ⊢
    obtain ⟨h1, h2, h3, h4, _⟩ := dec_form v.natAbs
    have ht : trimM (45 :: Lib.decDigits v.natAbs) = Lib.decDigits v.natAbs := rfl
    rw [ht] at h9
    unfold numS
    rw [ht, if_neg (by
      rintro (h | h | ⟨h, _⟩)
      · exact h3 h
      · omega
      · exact h4 (by omega) h), if_pos h1, h2, if_pos (show (45 :: Lib.decDigits v.natAbs : List UInt8).head? = some 45 from rfl)]
    congr 1; omega
  · rw [if_neg hv] at h9 ⊢
    obtain ⟨h1, h2, h3, h4, h5⟩ := dec_form v.toNat
    have hh : (Lib.decDigits v.toNat).head? ≠ some 45 := by
      cases e : Lib.decDigits v.toNat with
      | nil => simp
      | cons a t =>
        rw [e, List.all_cons, Bool.and_eq_true] at h1
        have := isD_iff.1 h1.1
        intro e2
        have e3 : a = 45 := by simpa using e2
        rw [e3] at this
        exact absurd this.1 (by decide)
    have ht : trimM (Lib.decDigits v.toNat) = Lib.decDigits v.toNat := by unfold trimM; rw [if_neg hh]
    rw [ht] at h9
    unfold numS
    rw [ht, if_neg (by
      rintro (h | h | ⟨h, h6⟩)
      · exact h3 h
      · omega
      · rcases Nat.eq_zero_or_pos v.toNat with h0 | h0
        · have := h5 h0
          rcases h6 with h6 | h6
          · omega
          · exact hh h6
        · exact h4 h0 h), if_pos h1, h2, if_neg hh]
    congr 1; omega
theorem num_itoa {l : List UInt8} {v : Int} (h : numS l = some v) : Lib.atoiAll l = .ok v ∧ Lib.itoa v = l ∧ (trimM l).length ≤ 9 ∧ -1000000000 < v ∧ v < 1000000000 := by
  unfold numS at h
  split at h
  · cases h
  · rename_i hn
    split at h
    · rename_i hall
      cases h
      have h1 : trimM l ≠ [] := fun e => hn (.inl e)
      have h2 : (trimM l).length ≤ 9 := by rcases Nat.lt_or_ge 9 (trimM l).length with e | e; exact absurd (.inr (.inl e)) hn; exact e
      have h3 : ¬ ((trimM l).head? = some 48 ∧ (1 < (trimM l).length ∨ l.head? = some 45)) := fun e => hn (.inr (.inr e))
      have hlp := List.length_pos_iff.2 h1
      have hcan : (trimM l).head? ≠ some 48 ∨ (trimM l).length = 1 := by
        by_cases e : (trimM l).head? = some 48
        · right
          rcases Nat.lt_or_ge 1 (trimM l).length with e2 | e2
          · exact absurd ⟨e, .inl e2⟩ h3
          · omega
        · exact .inl e
      obtain ⟨d1, d2⟩ := dec_val _ (trimM l) rfl h1 hall hcan
      have hb := valF_bound (trimM l) 0 hall
      rw [Nat.zero_add, Nat.one_mul] at hb
      have h10 : 10 ^ (trimM l).length ≤ 10 ^ 9 := Nat.pow_le_pow_right (by decide) h2
      have hb9 : valF 0 (trimM l) < 1000000000 := by have : (10 : Nat) ^ 9 = 1000000000 := by decide
                                                     omega
      have hp := parse_ok (trimM l) 0 hall (by rw [Nat.zero_add, Nat.one_mul]; have : (10 : Nat) ^ 9 = 1000000000 := by decide
                                               omega)
      have hpm : Lib.parseMag (trimM l) = .ok (valF 0 (trimM l)) := by unfold Lib.parseMag; rw [if_neg h1]; exact hp
      cases l with
      | nil => exact absurd rfl h1
      | cons c r =>
        by_cases hc : c = 45
        · subst hc
          have ht : trimM (45 :: r) = r := rfl
          rw [ht] at hn hall h1 h2 h3 hlp hcan d1 d2 hb h10 hb9 hp hpm
          rw [ht]
          have hhd : (45 :: r : List UInt8).head? = some 45 := rfl
          rw [if_pos hhd]
          have hpos : 1 ≤ valF 0 r := d2 (fun e => h3 ⟨e, .inr rfl⟩)
          refine ⟨?_, ?_, h2, by omega, by omega⟩
          · unfold Lib.atoiAll
            dsimp only
            rw [if_pos (.inr (by decide)), hpm]
            dsimp only
            rw [if_neg (by rintro ⟨e, _⟩; exact e (by decide)), if_neg (by rintro ⟨_, e⟩; omega), if_pos (by decide)]
          · unfold Lib.itoa
            rw [if_pos (by omega), show (-(valF 0 r : Int)).natAbs = valF 0 r by omega, d1]
        · have hhd : (c :: r : List UInt8).head? ≠ some 45 := by simpa using hc
          have ht : trimM (c :: r) = c :: r := by unfold trimM; rw [if_neg hhd]
          rw [ht] at hn hall h1 h2 h3 hlp hcan d1 d2 hb h10 hb9 hp hpm
          rw [ht]
          rw [if_neg hhd]
          have hcd : isD c = true := by rw [List.all_cons, Bool.and_eq_true] at hall; exact hall.1
          have hcn := isD_iff.1 hcd
          refine ⟨?_, ?_, h2, by omega, by omega⟩
          · unfold Lib.atoiAll
            dsimp only
            rw [if_neg (by omega), hpm]
            dsimp only
            rw [if_neg (by rintro ⟨_, e⟩; omega), if_neg (by rintro ⟨e, _⟩; omega), if_neg (by omega)]
          · unfold Lib.itoa
            rw [if_neg (by omega), show ((valF 0 (c :: r) : Int)).toNat = valF 0 (c :: r) by omega, d1]
    · cases h
/-- A number within bounds, or which error. -/
def numX (o : Option Int) (lo hi : Int) : Int × Int := match o with
  | none => (0, 3)
  | some v => if v < lo ∨ hi < v then (0, 2) else (v, 0)
def numR (l : List UInt8) (lo hi : Int) : Int × Int := numX (numS l) lo hi
end Go.Proofs.YtpicenopiigfpaaDoor
