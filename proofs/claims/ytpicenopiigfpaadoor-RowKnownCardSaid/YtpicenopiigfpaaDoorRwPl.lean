/-
  Rows of texts: how the plain functions go on, step by step; no program is in sight; no condition.
-/
import Derived.Test.YtpicenopiigfpaaDoorRwFn
namespace Go.Proofs.YtpicenopiigfpaaDoor
set_option linter.unusedVariables false
set_option linter.unusedSimpArgs false

/-! A line's words. -/
def consW (w : Wd) : Option (List Wd) × Nat → Option (List Wd) × Nat
  | (none, e) => (none, e)
  | (some ws, e) => (some (w :: ws), e)
def preW (xs : List Wd) : Option (List Wd) × Nat → Option (List Wd) × Nat
  | (none, e) => (none, e)
  | (some ws, e) => (some (xs ++ ws), e)
theorem preW_nil (r : Option (List Wd) × Nat) : preW [] r = r := by
  obtain ⟨a, b⟩ := r
  cases a <;> rfl
theorem preW_snoc (xs : List Wd) (w : Wd) (r : Option (List Wd) × Nat) : preW xs (consW w r) = preW (xs ++ [w]) r := by
  obtain ⟨a, b⟩ := r
  cases a with
  | none => rfl
  | some ws => show (some (xs ++ w :: ws), b) = (some ((xs ++ [w]) ++ ws), b); simp
theorem wordsL_succ (f o : Nat) (l : List UInt8) : wordsL (f + 1) o l = match l.drop (blN l) with
    | [] => (some [], 0)
    | c :: t => if c = 35 then (some [], 0) else match readW (c :: t) with
        | none => (none, o + blN l)
        | some r => consW ⟨((o + blN l : Nat) : Int), mkB r.1, decide (c = 34)⟩ (wordsL f (o + blN l + r.2) ((c :: t).drop r.2)) := by
  conv => lhs; unfold wordsL
  cases h : l.drop (blN l) with
  | nil => rfl
  | cons c t =>
    show (if c = 35 then _ else _) = (if c = 35 then _ else _)
    by_cases hc : c = 35
    · rw [if_pos hc, if_pos hc]
    · rw [if_neg hc, if_neg hc]
      cases e : readW (c :: t) with
      | none => rfl
      | some r =>
        show (match wordsL f (o + blN l + r.2) ((c :: t).drop r.2) with | (none, e) => (none, e) | (some ws, e) => _) = consW _ (wordsL f (o + blN l + r.2) ((c :: t).drop r.2))
        obtain ⟨x, y⟩ := wordsL f (o + blN l + r.2) ((c :: t).drop r.2)
        cases x <;> rfl
theorem wordsL_fuel (f : Nat) : ∀ (g o : Nat) (l : List UInt8), l.length < f → l.length < g → wordsL f o l = wordsL g o l := by
  induction f with
  | zero => intro g o l h; omega
  | succ f ih =>
    intro g o l h1 h2
    cases g with
    | zero => omega
    | succ g =>
      rw [wordsL_succ, wordsL_succ]
      have hd : (l.drop (blN l)).length ≤ l.length := by rw [List.length_drop]; omega
      cases e : l.drop (blN l) with
      | nil => rfl
      | cons c t =>
        rw [e] at hd
        show (if c = 35 then _ else _) = (if c = 35 then _ else _)
        by_cases hc : c = 35
        · rw [if_pos hc, if_pos hc]
        · rw [if_neg hc, if_neg hc]
          cases e2 : readW (c :: t) with
          | none => rfl
          | some r =>
            have := readW_le _ r e2
            show consW _ _ = consW _ _
            rw [ih g _ _ (by rw [List.length_drop]; omega) (by rw [List.length_drop]; omega)]
/-- The words of what is left of a line: nothing, or a remark. -/
theorem lineL_done {o : Nat} {l : List UInt8} (h : l.drop (blN l) = [] ∨ (l.drop (blN l)).head? = some 35) : lineL o l = (some [], 0) := by
  unfold lineL
  rw [wordsL_succ]
  cases e : l.drop (blN l) with
  | nil => rfl
  | cons c t =>
    rw [e] at h
    have hc : c = 35 := by rcases h with h | h; cases h; simpa using h
    show (if c = 35 then _ else _) = _
    rw [if_pos hc]
/-- The next word, or none. -/
theorem lineL_word {o : Nat} {l : List UInt8} {c : UInt8} {t : List UInt8} (h : l.drop (blN l) = c :: t) (hc : c ≠ 35) : lineL o l = match readW (c :: t) with
    | none => (none, o + blN l)
    | some r => consW ⟨((o + blN l : Nat) : Int), mkB r.1, decide (c = 34)⟩ (lineL (o + blN l + r.2) ((c :: t).drop r.2)) := by
  unfold lineL
  rw [wordsL_succ, h]
  show (if c = 35 then _ else _) = _
  rw [if_neg hc]
  cases e2 : readW (c :: t) with
  | none => rfl
  | some r =>
    have := readW_le _ r e2
    have hl := congrArg List.length h
    rw [List.length_drop] at hl
    show consW _ _ = consW _ _
    rw [wordsL_fuel l.length (((c :: t).drop r.2).length + 1) _ _ (by rw [List.length_drop]; omega) (by omega)]

theorem lineL_blank {o : Nat} {c : UInt8} {t : List UInt8} (h : isBl c = true) : lineL o (c :: t) = lineL (o + 1) t := by
  have hb : blN (c :: t) = blN t + 1 := by conv => lhs; unfold blN
                                           rw [h, if_pos rfl]
  have hd : (c :: t).drop (blN (c :: t)) = t.drop (blN t) := by rw [hb]; rfl
  cases e : t.drop (blN t) with
  | nil => rw [lineL_done (.inl (by rw [hd]; exact e)), lineL_done (.inl e)]
  | cons d u =>
    by_cases h35 : d = 35
    · rw [lineL_done (.inr (by rw [hd, e, h35]; rfl)), lineL_done (.inr (by rw [e, h35]; rfl))]
    · rw [lineL_word (by rw [hd]; exact e) h35, lineL_word e h35, hb, show o + (blN t + 1) = o + 1 + blN t by omega]
/-- What stands at the beginning is no blank: nothing, a remark, a word. -/
theorem lineL_at {o : Nat} {c : UInt8} {t : List UInt8} (h : isBl c = false) (hc : c ≠ 35) : lineL o (c :: t) = match readW (c :: t) with
    | none => (none, o)
    | some r => consW ⟨o, mkB r.1, decide (c = 34)⟩ (lineL (o + r.2) ((c :: t).drop r.2)) := by
  have hb : blN (c :: t) = 0 := by conv => lhs; unfold blN
                                   rw [h, if_neg (by decide)]
  have := lineL_word (o := o) (l := c :: t) (c := c) (t := t) (by rw [hb]; rfl) hc
  rw [hb, Nat.add_zero] at this
  exact this
theorem lineL_rem {o : Nat} {t : List UInt8} : lineL o (35 :: t) = (some [], 0) := lineL_done (.inr (by rfl))

/-! The rows of lines. -/
def preR (xs : List Rw) : Option (List Rw) × Int × Int → Option (List Rw) × Int × Int
  | (none, e) => (none, e)
  | (some ws, e) => (some (xs ++ ws), e)
theorem preR_nil (r : Option (List Rw) × Int × Int) : preR [] r = r := by
  obtain ⟨a, b⟩ := r
  cases a <;> rfl
theorem preR_pre (xs ys : List Rw) (r : Option (List Rw) × Int × Int) : preR xs (preR ys r) = preR (xs ++ ys) r := by
  obtain ⟨a, b⟩ := r
  cases a with
  | none => rfl
  | some ws => show (some (xs ++ (ys ++ ws)), b) = (some ((xs ++ ys) ++ ws), b); rw [List.append_assoc]
def rowOf (o : Nat) (ws : List Wd) : List Rw := if ws = [] then [] else [⟨o, ws⟩]
theorem rowsF_long {o : Nat} {p : List UInt8} {ps : List (List UInt8)} (h : 1000 < p.length) : rowsF o (p :: ps) = (none, 4, (o : Int)) := by
  conv => lhs; unfold rowsF
  rw [if_pos h]
theorem rowsF_bad {o : Nat} {p : List UInt8} {ps : List (List UInt8)} {e : Nat} (h : ¬ 1000 < p.length) (hl : lineL o p = (none, e)) : rowsF o (p :: ps) = (none, 3, (e : Int)) := by
  conv => lhs; unfold rowsF
  rw [if_neg h, hl]
theorem rowsF_line {o : Nat} {p : List UInt8} {ps : List (List UInt8)} {ws : List Wd} {e : Nat} (h : ¬ 1000 < p.length) (hl : lineL o p = (some ws, e)) : rowsF o (p :: ps) = preR (rowOf o ws) (rowsF (o + p.length + 1) ps) := by
  conv => lhs; unfold rowsF
  rw [if_neg h, hl]
  show (match rowsF (o + p.length + 1) ps with | (none, e) => (none, e) | (some rs, e) => _) = _
  obtain ⟨x, y⟩ := rowsF (o + p.length + 1) ps
  cases x <;> rfl
end Go.Proofs.YtpicenopiigfpaaDoor
