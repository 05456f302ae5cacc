/-
  Rows of texts, as plain functions on lists of bytes; no program is in sight; no condition.
-/
import Derived.Test.YtpicenopiigfpaaDoorPctFn
import Derived.Test.YtpicenopiigfpaaDoorSpl
namespace Go.Proofs.YtpicenopiigfpaaDoor
set_option linter.unusedVariables false
set_option linter.unusedSimpArgs false

/-! Bytes. -/
def isBl (c : UInt8) : Bool := decide (c.toNat = 32) || decide (c.toNat = 9)
def bareC (c : UInt8) : Bool := decide (33 ≤ c.toNat) && decide (c.toNat ≤ 126) && decide (c.toNat ≠ 34)
def blN : List UInt8 → Nat
  | [] => 0
  | c :: t => if isBl c then blN t + 1 else 0
def barN : List UInt8 → Nat
  | [] => 0
  | c :: t => if bareC c then barN t + 1 else 0
def endL : List UInt8 → Bool
  | [] => true
  | c :: _ => isBl c
theorem blN_le (l : List UInt8) : blN l ≤ l.length := by
  induction l with
  | nil => exact Nat.le_refl _
  | cons c t ih => unfold blN; split <;> simp <;> omega
theorem barN_le (l : List UInt8) : barN l ≤ l.length := by
  induction l with
  | nil => exact Nat.le_refl _
  | cons c t ih => unfold barN; split <;> simp <;> omega
theorem bar_bl {c : UInt8} (h : bareC c = true) : isBl c = false := by
  revert h
  exact u8_all (p := fun c => bareC c = true → isBl c = false) (by decide +kernel) c

/-! Quoted words: what stands behind the first quotation mark; how many bytes that takes, with the last one. -/
def quo : List UInt8 → Option (List UInt8 × Nat)
  | [] => none
  | c :: t =>
    if c = 34 then some ([], 1)
    else if c = 92 then
      match t with
      | [] => none
      | d :: u =>
        if d = 34 ∨ d = 92 then (quo u).map fun r => (d :: r.1, r.2 + 2)
        else if d = 120 then
          match u with
          | a :: b :: v => if 0 ≤ hexv a ∧ 0 ≤ hexv b then (quo v).map fun r => (escV a b :: r.1, r.2 + 4) else none
          | _ => none
        else none
    else if 32 ≤ c.toNat ∧ c.toNat ≤ 126 then (quo t).map fun r => (c :: r.1, r.2 + 1)
    else none
theorem quo_nil : quo [] = none := by unfold quo; rfl
theorem quo_end (t : List UInt8) : quo (34 :: t) = some ([], 1) := by rw [quo.eq_def]; simp
theorem quo_plain {c : UInt8} {t : List UInt8} (h1 : c ≠ 34) (h2 : c ≠ 92) (h3 : 32 ≤ c.toNat ∧ c.toNat ≤ 126) : quo (c :: t) = (quo t).map fun r => (c :: r.1, r.2 + 1) := by
  rw [quo.eq_def]; simp [h1, h2, h3]
theorem quo_wrong {c : UInt8} {t : List UInt8} (h3 : ¬ (32 ≤ c.toNat ∧ c.toNat ≤ 126)) : quo (c :: t) = none := by
  have h1 : c ≠ 34 := by rintro rfl; exact h3 (by decide)
  have h2 : c ≠ 92 := by rintro rfl; exact h3 (by decide)
  rw [quo.eq_def]; simp [h1, h2]; intro a b; exact absurd ⟨a, b⟩ h3
theorem quo_esc {d : UInt8} {u : List UInt8} (h : d = 34 ∨ d = 92) : quo (92 :: d :: u) = (quo u).map fun r => (d :: r.1, r.2 + 2) := by
  rw [quo.eq_def]; simp [h]
theorem quo_last : quo [92] = none := by rw [quo.eq_def]; simp
theorem quo_hex {a b : UInt8} {v : List UInt8} (h : 0 ≤ hexv a ∧ 0 ≤ hexv b) : quo (92 :: 120 :: a :: b :: v) = (quo v).map fun r => (escV a b :: r.1, r.2 + 4) := by
  rw [quo.eq_def]; simp [h]
theorem quo_nohex {a b : UInt8} {v : List UInt8} (h : ¬ (0 ≤ hexv a ∧ 0 ≤ hexv b)) : quo (92 :: 120 :: a :: b :: v) = none := by
  rw [quo.eq_def]; simp; intro x y; exact absurd ⟨x, y⟩ h
theorem quo_short {u : List UInt8} (h : u.length < 2) : quo (92 :: 120 :: u) = none := by
  match u, h with
  | [], _ => rw [quo.eq_def]; simp
  | [_], _ => rw [quo.eq_def]; simp
theorem quo_other {d : UInt8} {u : List UInt8} (h1 : d ≠ 34) (h2 : d ≠ 92) (h3 : d ≠ 120) : quo (92 :: d :: u) = none := by
  rw [quo.eq_def]; simp [h1, h2, h3]
/-- A list is one of these. -/
theorem quo_cases (l : List UInt8) : l = [] ∨ (∃ t, l = 34 :: t) ∨ (∃ c t, l = c :: t ∧ c ≠ 34 ∧ c ≠ 92 ∧ 32 ≤ c.toNat ∧ c.toNat ≤ 126) ∨ (∃ c t, l = c :: t ∧ ¬ (32 ≤ c.toNat ∧ c.toNat ≤ 126)) ∨ l = [92] ∨
    (∃ d u, l = 92 :: d :: u ∧ (d = 34 ∨ d = 92)) ∨ (∃ a b v, l = 92 :: 120 :: a :: b :: v ∧ 0 ≤ hexv a ∧ 0 ≤ hexv b) ∨ (∃ a b v, l = 92 :: 120 :: a :: b :: v ∧ ¬ (0 ≤ hexv a ∧ 0 ≤ hexv b)) ∨
    (∃ u, l = 92 :: 120 :: u ∧ u.length < 2) ∨ (∃ d u, l = 92 :: d :: u ∧ d ≠ 34 ∧ d ≠ 92 ∧ d ≠ 120) := by
  match l with
  | [] => exact .inl rfl
  | c :: t =>
    by_cases h1 : c = 34
    · subst h1; exact .inr (.inl ⟨t, rfl⟩)
    · by_cases h2 : c = 92
      · subst h2
        match t with
        | [] => exact .inr (.inr (.inr (.inr (.inl rfl))))
        | d :: u =>
          by_cases h3 : d = 34 ∨ d = 92
          · exact .inr (.inr (.inr (.inr (.inr (.inl ⟨d, u, rfl, h3⟩)))))
          · by_cases h4 : d = 120
            · subst h4
              match u with
              | [] => exact .inr (.inr (.inr (.inr (.inr (.inr (.inr (.inr (.inl ⟨[], rfl, by simp⟩))))))))
              | [a] => exact .inr (.inr (.inr (.inr (.inr (.inr (.inr (.inr (.inl ⟨[a], rfl, by simp⟩))))))))
              | a :: b :: v =>
                by_cases h5 : 0 ≤ hexv a ∧ 0 ≤ hexv b
                · exact .inr (.inr (.inr (.inr (.inr (.inr (.inl ⟨a, b, v, rfl, h5.1, h5.2⟩))))))
                · exact .inr (.inr (.inr (.inr (.inr (.inr (.inr (.inl ⟨a, b, v, rfl, h5⟩)))))))
            · exact .inr (.inr (.inr (.inr (.inr (.inr (.inr (.inr (.inr ⟨d, u, rfl, fun e => h3 (.inl e), fun e => h3 (.inr e), h4⟩))))))))
      · by_cases h3 : 32 ≤ c.toNat ∧ c.toNat ≤ 126
        · exact .inr (.inr (.inl ⟨c, t, rfl, h1, h2, h3⟩))
        · exact .inr (.inr (.inr (.inl ⟨c, t, rfl, h3⟩)))
theorem quo_ind {p : List UInt8 → Prop} (h : ∀ l, (∀ m : List UInt8, m.length < l.length → p m) → p l) (l : List UInt8) : p l := by
  have key : ∀ n (l : List UInt8), l.length ≤ n → p l := by
    intro n
    induction n with
    | zero => intro l hl; exact h l (fun m hm => absurd hm (by omega))
    | succ n ih => intro l hl; exact h l (fun m hm => ih m (by omega))
  exact key l.length l (Nat.le_refl _)
theorem quo_le (l : List UInt8) : ∀ r, quo l = some r → 1 ≤ r.2 ∧ r.2 ≤ l.length ∧ r.1.length < r.2 := by
  induction l using quo_ind with
  | h l ih =>
    intro r hr
    rcases quo_cases l with rfl | ⟨t, rfl⟩ | ⟨c, t, rfl, h1, h2, h3, h4⟩ | ⟨c, t, rfl, h3⟩ | rfl | ⟨d, u, rfl, h⟩ | ⟨a, b, v, rfl, ha, hb⟩ | ⟨a, b, v, rfl, h⟩ | ⟨u, rfl, h⟩ | ⟨d, u, rfl, h1, h2, h3⟩
    · rw [quo_nil] at hr; cases hr
    · rw [quo_end] at hr; cases hr; simp
    · rw [quo_plain h1 h2 ⟨h3, h4⟩] at hr
      cases e : quo t with
      | none => rw [e] at hr; cases hr
      | some x => rw [e] at hr; cases hr; have := ih t (by simp) x e; simp; omega
    · rw [quo_wrong h3] at hr; cases hr
    · rw [quo_last] at hr; cases hr
    · rw [quo_esc h] at hr
      cases e : quo u with
      | none => rw [e] at hr; cases hr
      | some x => rw [e] at hr; cases hr; have := ih u (by simp; omega) x e; simp; omega
    · rw [quo_hex ⟨ha, hb⟩] at hr
      cases e : quo v with
      | none => rw [e] at hr; cases hr
      | some x => rw [e] at hr; cases hr; have := ih v (by simp; omega) x e; simp; omega
    · rw [quo_nohex h] at hr; cases hr
    · rw [quo_short h] at hr; cases hr
    · rw [quo_other h1 h2 h3] at hr; cases hr

/-! A word at the beginning of a list; how many bytes it has. -/
def readQ (t : List UInt8) : Option (List UInt8 × Nat) := (quo t).bind fun r => if endL (t.drop r.2) = true then some (r.1, r.2 + 1) else none
def readB (l : List UInt8) : Option (List UInt8 × Nat) := if 0 < barN l ∧ endL (l.drop (barN l)) = true then some (l.take (barN l), barN l) else none
def readW : List UInt8 → Option (List UInt8 × Nat)
  | [] => none
  | c :: t => if c = 34 then readQ t else readB (c :: t)
theorem readQ_le (t : List UInt8) : ∀ r, readQ t = some r → 1 ≤ r.2 ∧ r.2 ≤ t.length + 1 ∧ r.1.length ≤ r.2 := by
  intro r hr
  unfold readQ at hr
  cases e : quo t with
  | none => rw [e] at hr; cases hr
  | some x =>
    rw [e] at hr
    have hr : (if endL (t.drop x.2) = true then some (x.1, x.2 + 1) else none) = some r := hr
    by_cases h : endL (t.drop x.2) = true
    · rw [if_pos h] at hr
      cases hr
      have := quo_le t x e
      show 1 ≤ x.2 + 1 ∧ x.2 + 1 ≤ t.length + 1 ∧ x.1.length ≤ x.2 + 1
      omega
    · rw [if_neg h] at hr; cases hr
theorem readB_le (l : List UInt8) : ∀ r, readB l = some r → 1 ≤ r.2 ∧ r.2 ≤ l.length ∧ r.1.length ≤ r.2 := by
  intro r hr
  unfold readB at hr
  by_cases h : 0 < barN l ∧ endL (l.drop (barN l)) = true
  · rw [if_pos h] at hr
    cases hr
    have := barN_le l
    simp only [List.length_take]
    omega
  · rw [if_neg h] at hr; cases hr
theorem readW_le (l : List UInt8) : ∀ r, readW l = some r → 1 ≤ r.2 ∧ r.2 ≤ l.length ∧ r.1.length ≤ r.2 := by
  intro r hr
  cases l with
  | nil => cases hr
  | cons c t =>
    have hr : (if c = 34 then readQ t else readB (c :: t)) = some r := hr
    by_cases h : c = 34
    · rw [if_pos h] at hr
      have := readQ_le t r hr
      simp; omega
    · rw [if_neg h] at hr
      exact readB_le _ r hr

/-- A word: where it begins, what it says, whether it is quoted. -/
structure Wd where
  a : Int
  t : ByteArray
  q : Bool
deriving DecidableEq
/-- A row: where its line begins, its words. -/
structure Rw where
  a : Int
  w : List Wd
deriving DecidableEq

/-- The words of a line, or where the first one that is none begins: o is the offset of the list. -/
def wordsL : Nat → Nat → List UInt8 → Option (List Wd) × Nat
  | 0, _, _ => (some [], 0)
  | f + 1, o, l =>
    match l.drop (blN l) with
    | [] => (some [], 0)
    | c :: t =>
      if c = 35 then (some [], 0)
      else match readW (c :: t) with
        | none => (none, o + blN l)
        | some r =>
          match wordsL f (o + blN l + r.2) ((c :: t).drop r.2) with
          | (none, e) => (none, e)
          | (some ws, e) => (some (⟨((o + blN l : Nat) : Int), mkB r.1, decide (c = 34)⟩ :: ws), e)
def lineL (o : Nat) (l : List UInt8) : Option (List Wd) × Nat := wordsL (l.length + 1) o l

/-- The rows of lines, or a fault: o is the offset of the first line. -/
def rowsF : Nat → List (List UInt8) → Option (List Rw) × Int × Int
  | _, [] => (some [], 0, 0)
  | o, p :: ps =>
    if 1000 < p.length then (none, 4, (o : Int))
    else match lineL o p with
      | (none, e) => (none, 3, (e : Int))
      | (some ws, _) =>
        match rowsF (o + p.length + 1) ps with
        | (none, e) => (none, e)
        | (some rs, e) => (some ((if ws = [] then [] else [⟨o, ws⟩]) ++ rs), e)

def rowsR (l : List UInt8) : Option (List Rw) × Int × Int := if 20000 < l.length then (none, 4, 20000) else rowsF 0 (splitL 10 l)
def rowsV (l : List UInt8) : List Rw := (rowsR l).1.getD []

/-! How words are written. -/
def bareW (l : List UInt8) : Bool := decide (l ≠ []) && l.all bareC && decide (l.head? ≠ some 35)
def hexl (n : Nat) : UInt8 := if n < 10 then (48 + n).toUInt8 else (87 + n).toUInt8
def wr1 (c : UInt8) : List UInt8 := if c = 34 ∨ c = 92 then [92, c] else if 32 ≤ c.toNat ∧ c.toNat ≤ 126 then [c] else [92, 120, hexl (c.toNat / 16), hexl (c.toNat % 16)]
def wrQ (l : List UInt8) : List UInt8 := l.flatMap wr1
def wrW (l : List UInt8) : List UInt8 := if bareW l then l else 34 :: (wrQ l ++ [34])

/-! Texts of rows. -/
def lineW (ws : List ByteArray) : List UInt8 := [32].intercalate (ws.map fun t => wrW t.data.toList)
def textF : List (List ByteArray) → List UInt8 → Option (List UInt8) × Int
  | [], out => (some out, 0)
  | r :: rs, out =>
    if r = [] then (none, 3)
    else if 1000 < (lineW r).length ∨ 20000 < out.length + (lineW r).length + 1 then (none, 4)
    else textF rs (out ++ lineW r ++ [10])
end Go.Proofs.YtpicenopiigfpaaDoor
