/-
  Request lines, plain laws: what stays when a line is longer or shorter, texts that are read back, the parts joined; no program is in sight; no condition.
-/
import Derived.Test.YtllhcfgddcjfkaaDoorRlG
namespace Go.Proofs.YtllhcfgddcjfkaaDoor
open Go.RowKit
set_option linter.unusedVariables false
set_option linter.unusedSimpArgs false

theorem longS_congr {G H : Nat → Nat} {n : Nat} (h : ∀ x, x < n → G x = H x) : longS G n = longS H n ∧ longP G n = longP H n := by
  unfold longS longP lenB lenC
  rw [spA_congr h, spB_congr h]
  exact ⟨rfl, rfl⟩
/-- Too long stays so. -/
theorem long_more {G : Nat → Nat} {n N : Nat} (h : n ≤ N) (hs : longS G n ≠ 0) : longS G N = longS G n ∧ longP G N = longP G n := by
  have a1 := spA_part (G := G) h
  have b1 := spB_part (G := G) h
  have a2 := spA_le G N
  have b2 := spB_le G N
  unfold longS longP lenB lenC at *
  by_cases c1 : 16 < spA G n
  · have c1' : 16 < spA G N := by omega
    simp only [if_pos c1, if_pos c1']
    exact ⟨trivial, trivial⟩
  · simp only [if_neg c1] at hs ⊢
    by_cases c2 : 1024 < spB G n - (spA G n + 1)
    · have d1 : ¬ 16 < spA G N := by omega
      have d2 : 1024 < spB G N - (spA G N + 1) := by omega
      simp only [if_pos c2, if_pos d2, if_neg d1]
      exact ⟨trivial, by omega⟩
    · simp only [if_neg c2] at hs ⊢
      by_cases c3 : 512 < n - (spB G n + 1)
      · have d1 : ¬ 16 < spA G N := by omega
        have d2 : ¬ 1024 < spB G N - (spA G N + 1) := by omega
        have d3 : 512 < N - (spB G N + 1) := by omega
        simp only [if_pos c3, if_neg d2, if_neg d1, if_pos d3]
        exact ⟨trivial, by omega⟩
      · simp only [if_neg c3] at hs
        exact absurd rfl hs
theorem long_less {G : Nat → Nat} {n k : Nat} (h : k ≤ n) (hs : longS G n = 0) : longS G k = 0 ∧ longP G k = k := by
  have h0 : longS G k = 0 := Decidable.byContradiction fun e => e (by rw [← (long_more h e).1]; exact hs)
  rcases longS_cases G k with ⟨_, h2, _⟩ | ⟨h1, _⟩ | ⟨h1, _⟩
  · exact ⟨h0, h2⟩
  · rw [h0] at h1; cases h1
  · rw [h0] at h1; cases h1
theorem parS_cases (G : Nat → Nat) (n : Nat) : parS G n = 0 ∧ longS G n = 0 ∧ wrongN G n = n ∧ lenC G n = 8 ∨ parS G n = 400 ∧ longS G n = 0 ∧ (wrongN G n < n ∨ lenC G n ≠ 8) ∨ (parS G n = longS G n ∧ longS G n ≠ 0) := by
  have hw : wrongN G n ≤ n := firstN_le _ _
  unfold parS
  by_cases h : longS G n ≠ 0
  · rw [if_pos h]; right; right; exact ⟨rfl, h⟩
  · rw [if_neg h]
    have h0 : longS G n = 0 := Decidable.byContradiction h
    by_cases h2 : wrongN G n < n
    · rw [if_pos h2]; right; left; exact ⟨rfl, h0, .inl h2⟩
    · rw [if_neg h2]
      by_cases h3 : lenC G n = 8
      · rw [if_pos h3]; left; exact ⟨rfl, h0, by omega, h3⟩
      · rw [if_neg h3]; right; left; exact ⟨rfl, h0, .inr h3⟩
theorem parP_le (G : Nat → Nat) (n : Nat) : parP G n ≤ n := by
  unfold parP
  by_cases h : longS G n ≠ 0
  · rw [if_pos h]
    rcases longS_cases G n with ⟨h1, _⟩ | ⟨_, h2⟩ | ⟨_, h2⟩
    · exact absurd h1 h
    · omega
    · omega
  · rw [if_neg h]; exact firstN_le _ _
theorem parP_zero {G : Nat → Nat} {n : Nat} (h : parS G n = 0) : parP G n = n := by
  unfold parP
  rcases parS_cases G n with ⟨_, h1, h2, _⟩ | ⟨h1, _⟩ | ⟨h1, h2⟩
  · rw [if_neg (by rw [h1]; decide), h2]
  · rw [h] at h1; cases h1
  · rw [h] at h1; exact absurd h1.symm h2
/-- No beginning up to the fault has an earlier one. -/
theorem par_begin {G : Nat → Nat} {n k : Nat} (hk : k ≤ parP G n) (hl : longS G n = 0) : (parS G k = 400 ∨ parS G k = 0) ∧ parP G k = k := by
  have h1 := parP_le G n
  have hk0 : k ≤ n := by omega
  have e0 := (long_less hk0 hl).1
  have hp : parP G n = wrongN G n := by unfold parP; rw [if_neg (by rw [hl]; decide)]
  have hw := wrong_part (G := G) hk0
  have e1 : wrongN G k = k := by omega
  refine ⟨?_, ?_⟩
  · unfold parS
    rw [if_neg (by rw [e0]; decide), if_neg (by omega)]
    split
    · right; rfl
    · left; rfl
  · unfold parP
    rw [if_neg (by rw [e0]; decide), e1]
/-- What stands behind a fault does not matter. -/
theorem par_more {G : Nat → Nat} {n N : Nat} (h : n ≤ N) (hp : parP G n < n) (hl : longS G n = 0 → longS G N = 0) : parS G N = parS G n ∧ parP G N = parP G n := by
  by_cases h0 : longS G n = 0
  · have e0 := hl h0
    have hpn : parP G n = wrongN G n := by unfold parP; rw [if_neg (by rw [h0]; decide)]
    have hw := wrong_part (G := G) h
    have hwN : wrongN G N ≤ N := firstN_le _ _
    have e1 : wrongN G N = wrongN G n := by omega
    have k1 : ¬ longS G n ≠ 0 := by rw [h0]; decide
    have k2 : ¬ longS G N ≠ 0 := by rw [e0]; decide
    have k3 : wrongN G n < n := by omega
    have k4 : wrongN G n < N := by omega
    unfold parS parP
    rw [if_neg k1, if_neg k2, if_neg k1, if_neg k2, e1, if_pos k3, if_pos k4]
    exact ⟨rfl, rfl⟩
  · obtain ⟨e1, e2⟩ := long_more h h0
    unfold parS parP
    rw [if_pos h0, if_pos h0, e1, e2, if_pos h0, if_pos h0]
    exact ⟨rfl, rfl⟩

theorem ver_prefix {s : ByteArray} (h : atC s = s.size) : s.size ≤ 8 ∧ ∀ x, x < s.size → byS s x = verB x := by
  have h1 : ∀ x, x < s.size → (decide (8 ≤ x) || decide (byS s x ≠ verB x)) = false := fun x hx => firstN_lt (P := fun x => decide (8 ≤ x) || decide (byS s x ≠ verB x)) (n := s.size) (by show x < atC s; omega)
  constructor
  · rcases Nat.lt_or_ge 8 s.size with h2 | h2
    · have := h1 8 h2
      simp at this
    · exact h2
  · intro x hx
    have := h1 x hx
    rw [Bool.or_eq_false_iff] at this
    simpa using this.2
/-- The version, as a string. -/
def verE : ByteArray := ⟨#[72, 84, 84, 80, 47, 49, 46, 49]⟩
theorem ver_byte (x : Nat) (h : x < 8) : byS verE x = verB x := by
  have : x = 0 ∨ x = 1 ∨ x = 2 ∨ x = 3 ∨ x = 4 ∨ x = 5 ∨ x = 6 ∨ x = 7 := by omega
  rcases this with rfl | rfl | rfl | rfl | rfl | rfl | rfl | rfl <;> rfl
theorem ver_size : verE.size = 8 := rfl
theorem ver_is {s : ByteArray} (h : atC s = s.size) : s = verE ↔ s.size = 8 := by
  constructor
  · rintro rfl; rfl
  · intro h8
    exact str_eq (by rw [h8]; rfl) fun i hi => by rw [(ver_prefix h).2 i hi, ver_byte i (by omega)]
theorem ver_at : atC verE = 8 := firstN_is (Nat.le_refl _) (fun x hx => by rw [ver_byte x hx]; simp; omega) (fun h => absurd h (Nat.lt_irrefl 8))
/-- A line without fault: its parts pass the three checks. -/
theorem wrong_full {s : ByteArray} (h : wrongN (byS s) s.size = s.size) : (spB (byS s) s.size < s.size → atA (pA s) = (pA s).size ∧ (pA s).size ≠ 0 ∧ atB (pB s) = (pB s).size ∧ (pB s).size ≠ 0 ∧ atC (pC s) = (pC s).size) := by
  intro hB
  have hA := (spB_at hB).1
  have h1 : atA (pA s) = (pA s).size := Decidable.byContradiction fun e => by
    have := wrong_1 (s := s) (by have := atA_le (pA s); omega)
    omega
  have h2 : (pA s).size ≠ 0 := fun e => by
    have hz := pA_size s
    have := wrong_2 (s := s) (by omega) (by omega)
    omega
  have h3 : atB (pB s) = (pB s).size := Decidable.byContradiction fun e => by
    have := wrong_4 (s := s) (by omega) h1 h2 (by have := atB_le (pB s); omega)
    omega
  have h4 : (pB s).size ≠ 0 := fun e => by
    have := wrong_5 (s := s) h1 h2 (by omega) e hB
    omega
  refine ⟨h1, h2, h3, h4, Decidable.byContradiction fun e => ?_⟩
  have := wrong_7 (s := s) h1 h2 h3 h4 hB (by have := atC_le (pC s); omega)
  omega
end Go.Proofs.YtllhcfgddcjfkaaDoor
