/-
  Which set a text is, as a plain function; no program is in sight; no condition.
-/
import Derived.Test.YtcfdadgijnmemaaDoorSetR
namespace Go.Proofs.YtcfdadgijnmemaaDoor
set_option linter.unusedVariables false
set_option linter.unusedSimpArgs false

/-- A range besides. -/
def addR (q : Nat → Bool) (lo hi : Nat) : Nat → Bool := orP q (rngV (fun _ => lo) (fun _ => hi) 1)
/-- What a text is, beside a set. -/
def prs : Nat → (Nat → Bool) → List UInt8 → (Nat → Bool) × Int
  | 0, q, _ => (q, 0)
  | f + 1, q, l => if l = [] then (q, 0) else if (rdB l).2 = 0 then (noP, 3) else
    match l.drop (rdB l).2 with
    | 45 :: u => if (rdB u).2 = 0 then (noP, 3) else if (rdB u).1 ≤ (rdB l).1 then (noP, 8) else prs f (addR q (rdB l).1 (rdB u).1) (u.drop (rdB u).2)
    | t => prs f (addR q (rdB l).1 (rdB l).1) t
theorem prs_fuel : ∀ (f g : Nat) (q : Nat → Bool) (l : List UInt8), l.length ≤ f → l.length ≤ g → prs f q l = prs g q l := by
  intro f
  induction f with
  | zero =>
    intro g q l h1 h2
    have hl : l = [] := List.eq_nil_of_length_eq_zero (by omega)
    subst hl
    cases g with
    | zero => rfl
    | succ g => rfl
  | succ f ih =>
    intro g q l h1 h2
    cases g with
    | zero =>
      have hl : l = [] := List.eq_nil_of_length_eq_zero (by omega)
      subst hl
      rfl
    | succ g =>
      by_cases hl : l = []
      · subst hl; rfl
      · have hpos : 0 < l.length := List.length_pos_iff.2 hl
        unfold prs
        rw [if_neg hl, if_neg hl]
        by_cases h0 : (rdB l).2 = 0
        · rw [if_pos h0, if_pos h0]
        · rw [if_neg h0, if_neg h0]
          have hd : (l.drop (rdB l).2).length = l.length - (rdB l).2 := List.length_drop
          split
          · rename_i u heq
            rw [heq] at hd
            simp only [List.length_cons] at hd
            by_cases h3 : (rdB u).2 = 0
            · rw [if_pos h3, if_pos h3]
            · rw [if_neg h3, if_neg h3]
              split
              · rfl
              · have hd2 : (u.drop (rdB u).2).length = u.length - (rdB u).2 := List.length_drop
                exact ih g _ _ (by omega) (by omega)
          · exact ih g _ _ (by omega) (by omega)
def prsL (q : Nat → Bool) (l : List UInt8) : (Nat → Bool) × Int := prs l.length q l
theorem prsL_at (f : Nat) (q : Nat → Bool) (l : List UInt8) (h : l.length ≤ f) : prs f q l = prsL q l := prs_fuel _ _ _ _ h (Nat.le_refl _)
theorem prsL_nil (q : Nat → Bool) : prsL q [] = (q, 0) := rfl
theorem prsL_bad (q : Nat → Bool) (l : List UInt8) (hl : l ≠ []) (h : (rdB l).2 = 0) : prsL q l = (noP, 3) := by
  rw [← prsL_at (l.length + 1) q l (by omega)]
  unfold prs
  rw [if_neg hl, if_pos h]
theorem prsL_one (q : Nat → Bool) (l : List UInt8) (hl : l ≠ []) (h : (rdB l).2 ≠ 0) (ht : ∀ u, l.drop (rdB l).2 ≠ 45 :: u) : prsL q l = prsL (addR q (rdB l).1 (rdB l).1) (l.drop (rdB l).2) := by
  rw [← prsL_at (l.length + 1) q l (by omega)]
  have hpos : 0 < l.length := List.length_pos_iff.2 hl
  unfold prs
  rw [if_neg hl, if_neg h]
  split
  · rename_i u heq
    exact absurd heq (ht u)
  · exact prsL_at _ _ _ (by rw [List.length_drop]; omega)
theorem prsL_two (q : Nat → Bool) (l u : List UInt8) (hl : l ≠ []) (h : (rdB l).2 ≠ 0) (ht : l.drop (rdB l).2 = 45 :: u) :
    prsL q l = if (rdB u).2 = 0 then (noP, 3) else if (rdB u).1 ≤ (rdB l).1 then (noP, 8) else prsL (addR q (rdB l).1 (rdB u).1) (u.drop (rdB u).2) := by
  rw [← prsL_at (l.length + 1) q l (by omega)]
  have hpos : 0 < l.length := List.length_pos_iff.2 hl
  have hlen : u.length + 1 = l.length - (rdB l).2 := by rw [← List.length_drop, ht]; rfl
  unfold prs
  rw [if_neg hl, if_neg h]
  split
  · rename_i u' heq
    rw [ht] at heq
    obtain rfl : u = u' := by injection heq
    rw [prsL_at _ _ _ (by rw [List.length_drop]; omega)]
  · rename_i h'
    exact absurd ht (h' u)
/-- Which set a text is, or which error. -/
def parseP (s : ByteArray) : (Nat → Bool) × Int := if 1024 < s.size then (noP, 4) else prsL noP s.data.toList
end Go.Proofs.YtcfdadgijnmemaaDoor
