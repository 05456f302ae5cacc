/-
  Escapes, as plain functions on lists of bytes: what percent and its reference compute; no program is in sight; no condition.
-/
import Derived.Test.YtpicenopiigfpaaDoorBase
namespace Go.Proofs.YtpicenopiigfpaaDoor

/-- The value of a hexadecimal digit; -1 if it is none. -/
def hexv (c : UInt8) : Int :=
  if 48 ≤ (c.toNat : Int) ∧ (c.toNat : Int) ≤ 57 then (c.toNat : Int) - 48
  else if 65 ≤ (c.toNat : Int) ∧ (c.toNat : Int) ≤ 70 then (c.toNat : Int) - 55
  else if 97 ≤ (c.toNat : Int) ∧ (c.toNat : Int) ≤ 102 then (c.toNat : Int) - 87
  else -1
theorem hexv_bound (c : UInt8) : -1 ≤ hexv c ∧ hexv c ≤ 15 := by unfold hexv; split <;> (try split) <;> (try split) <;> omega
/-- The byte of two digits. -/
def escV (b c : UInt8) : UInt8 := (16 * hexv b + hexv c).toNat.toUInt8
theorem escV_int (b c : UInt8) (hb : 0 ≤ hexv b) (hc : 0 ≤ hexv c) : ((escV b c).toNat : Int) = 16 * hexv b + hexv c := by
  have h1 := hexv_bound b
  have h2 := hexv_bound c
  unfold escV
  rw [Nat.toUInt8_eq, UInt8.toNat_ofNat']
  omega
/-- Whether an escape stands at the beginning. -/
def escL : List UInt8 → Bool
  | a :: b :: c :: _ => decide (a = 37) && (decide (0 ≤ hexv b) && decide (0 ≤ hexv c))
  | _ => false
/-- What a list says up to its end or to the first escape that is none, how many bytes that took, and how many escapes they hold. -/
def scan : List UInt8 → List UInt8 × Nat × Nat
  | [] => ([], 0, 0)
  | a :: t =>
    if a = 37 then
      match t with
      | b :: c :: u => if 0 ≤ hexv b ∧ 0 ≤ hexv c then (escV b c :: (scan u).1, (scan u).2.1 + 3, (scan u).2.2 + 1) else ([], 0, 0)
      | _ => ([], 0, 0)
    else (a :: (scan t).1, (scan t).2.1 + 1, (scan t).2.2)
theorem scan_nil : scan [] = ([], 0, 0) := by unfold scan; rfl
theorem scan_plain (a : UInt8) (t : List UInt8) (h : a ≠ 37) : scan (a :: t) = (a :: (scan t).1, (scan t).2.1 + 1, (scan t).2.2) := by
  rw [scan.eq_def]; simp [h]
theorem scan_esc (b c : UInt8) (u : List UInt8) (h : 0 ≤ hexv b ∧ 0 ≤ hexv c) : scan (37 :: b :: c :: u) = (escV b c :: (scan u).1, (scan u).2.1 + 3, (scan u).2.2 + 1) := by
  rw [scan.eq_def]; simp [h]
theorem scan_bad (t : List UInt8) (h : escL (37 :: t) = false) : scan (37 :: t) = ([], 0, 0) := by
  rw [scan.eq_def]
  match t, h with
  | [], _ => simp
  | [_], _ => simp
  | b :: c :: u, h =>
    have h' : ¬ (0 ≤ hexv b ∧ 0 ≤ hexv c) := by
      rintro ⟨h1, h2⟩
      simp [escL, h1, h2] at h
    simp [h']
theorem escL_three (a b c : UInt8) (u : List UInt8) : escL (a :: b :: c :: u) = (decide (a = 37) && (decide (0 ≤ hexv b) && decide (0 ≤ hexv c))) := by rw [escL]
theorem escL_short (l : List UInt8) (h : l.length < 3) : escL l = false := by
  match l, h with
  | [], _ => rfl
  | [_], _ => rfl
  | [_, _], _ => rfl
/-- A list is nothing, begins with a plain byte, with an escape, or with a percent sign that begins none. -/
theorem four (l : List UInt8) : l = [] ∨ (∃ a t, l = a :: t ∧ a ≠ 37) ∨ (∃ b c u, l = 37 :: b :: c :: u ∧ 0 ≤ hexv b ∧ 0 ≤ hexv c) ∨ (∃ t, l = 37 :: t ∧ escL (37 :: t) = false) := by
  match l with
  | [] => exact .inl rfl
  | a :: t =>
    by_cases ha : a = 37
    · subst ha
      cases he : escL (37 :: t)
      · exact .inr (.inr (.inr ⟨t, rfl, he⟩))
      · match t, he with
        | b :: c :: u, he =>
          rw [escL_three] at he
          simp at he
          exact .inr (.inr (.inl ⟨b, c, u, rfl, he⟩))
    · exact .inr (.inl ⟨a, t, rfl, ha⟩)
/-- The four cases, as an induction. -/
theorem scan_ind {p : List UInt8 → Prop} (h0 : p []) (h1 : ∀ a t, a ≠ 37 → p t → p (a :: t)) (h2 : ∀ b c u, 0 ≤ hexv b → 0 ≤ hexv c → p u → p (37 :: b :: c :: u))
    (h3 : ∀ t, escL (37 :: t) = false → p (37 :: t)) (l : List UInt8) : p l := by
  have key : ∀ n (l : List UInt8), l.length ≤ n → p l := by
    intro n
    induction n with
    | zero => intro l hl; obtain rfl : l = [] := List.eq_nil_of_length_eq_zero (by omega); exact h0
    | succ n ih =>
      intro l hl
      rcases four l with rfl | ⟨a, t, rfl, ha⟩ | ⟨b, c, u, rfl, hb, hc⟩ | ⟨t, rfl, he⟩
      · exact h0
      · exact h1 a t ha (ih t (by simp at hl; omega))
      · exact h2 b c u hb hc (ih u (by simp at hl; omega))
      · exact h3 t he
  exact key l.length l (Nat.le_refl _)
theorem scan_le (l : List UInt8) : (scan l).2.1 ≤ l.length ∧ (scan l).1.length ≤ (scan l).2.1 ∧ (scan l).2.1 = (scan l).1.length + 2 * (scan l).2.2 := by
  induction l using scan_ind with
  | h0 => simp [scan_nil]
  | h1 a t ha ih => rw [scan_plain a t ha]; simp; omega
  | h2 b c u hb hc ih => rw [scan_esc b c u ⟨hb, hc⟩]; simp; omega
  | h3 t he => rw [scan_bad t he]; simp
/-- Whether a string is said to its end; the fault; what it says. -/
def okS (s : ByteArray) : Prop := (scan s.data.toList).2.1 = s.size
instance (s : ByteArray) : Decidable (okS s) := inferInstanceAs (Decidable ((scan s.data.toList).2.1 = s.size))
def rErr (s : ByteArray) : Int := if okS s then 0 else 3
def rAt (s : ByteArray) : Int := if okS s then 0 else ((scan s.data.toList).2.1 : Int)
def rOut (s : ByteArray) : ByteArray := if okS s then ⟨(scan s.data.toList).1.toArray⟩ else ⟨#[]⟩
def rEsc (s : ByteArray) : Int := if okS s then ((scan s.data.toList).2.2 : Int) else 0
/-- Whether a list is said to its end. -/
def okL (l : List UInt8) : Prop := (scan l).2.1 = l.length
theorem ok_cases (l : List UInt8) (h : okL l) : l = [] ∨ (∃ a t, l = a :: t ∧ a ≠ 37 ∧ okL t) ∨ (∃ b c u, l = 37 :: b :: c :: u ∧ 0 ≤ hexv b ∧ 0 ≤ hexv c ∧ okL u) := by
  unfold okL at *
  rcases four l with rfl | ⟨a, t, rfl, ha⟩ | ⟨b, c, u, rfl, hb, hc⟩ | ⟨t, rfl, he⟩
  · exact .inl rfl
  · rw [scan_plain a t ha] at h
    simp at h
    exact .inr (.inl ⟨a, t, rfl, ha, h⟩)
  · rw [scan_esc b c u ⟨hb, hc⟩] at h
    simp at h
    exact .inr (.inr ⟨b, c, u, rfl, hb, hc, h⟩)
  · rw [scan_bad t he] at h
    simp at h
theorem okS_L {s : ByteArray} : okS s ↔ okL s.data.toList := by unfold okS okL; rw [size_data]
/-- The longest beginning of at most n bytes that does not end within an escape. -/
def cutL : List UInt8 → Nat → Nat
  | [], _ => 0
  | a :: t, n =>
    if a = 37 then
      match t with
      | _ :: _ :: u => if 3 ≤ n then 3 + cutL u (n - 3) else 0
      | _ => 0
    else if 1 ≤ n then 1 + cutL t (n - 1) else 0
theorem cutL_nil (n : Nat) : cutL [] n = 0 := by unfold cutL; rfl
theorem cutL_plain (a : UInt8) (t : List UInt8) (n : Nat) (h : a ≠ 37) : cutL (a :: t) n = if 1 ≤ n then 1 + cutL t (n - 1) else 0 := by rw [cutL.eq_def]; simp [h]
theorem cutL_esc (b c : UInt8) (u : List UInt8) (n : Nat) : cutL (37 :: b :: c :: u) n = if 3 ≤ n then 3 + cutL u (n - 3) else 0 := by rw [cutL.eq_def]; simp
/-- Where the byte number n that is said begins. -/
def offL : List UInt8 → Nat → Nat
  | [], _ => 0
  | _, 0 => 0
  | a :: t, n + 1 =>
    if a = 37 then
      match t with
      | _ :: _ :: u => 3 + offL u n
      | _ => 0
    else 1 + offL t n
theorem offL_zero (l : List UInt8) : offL l 0 = 0 := by cases l <;> rfl
theorem offL_plain (a : UInt8) (t : List UInt8) (n : Nat) (h : a ≠ 37) : offL (a :: t) (n + 1) = 1 + offL t n := by rw [offL.eq_def]; simp [h]
theorem offL_esc (b c : UInt8) (u : List UInt8) (n : Nat) : offL (37 :: b :: c :: u) (n + 1) = 3 + offL u n := by rw [offL.eq_def]; simp
def cutE (s : ByteArray) (n : Int) : Int := if n < 0 then 2 else if okS s then 0 else 3
def cutS (s : ByteArray) (n : Int) : ByteArray := if n < 0 then ⟨#[]⟩ else if okS s then s.extract 0 (cutL s.data.toList n.toNat) else ⟨#[]⟩
def offE (s : ByteArray) (n : Int) : Int := if n < 0 then 2 else if okS s then (if n ≤ ((scan s.data.toList).1.length : Int) then 0 else 2) else 3
def offV (s : ByteArray) (n : Int) : Int := if n < 0 then 0 else if okS s then (if n ≤ ((scan s.data.toList).1.length : Int) then (offL s.data.toList n.toNat : Int) else 0) else 0
/-- The sign of a hexadecimal digit. -/
def hexd (n : Nat) : UInt8 := if n < 10 then (48 + n).toUInt8 else (55 + n).toUInt8
/-- A byte as it is written; a string as it is written. -/
def encB (S : Nat → Nat) (c : UInt8) : List UInt8 := if c ≠ 37 ∧ (S (c.toNat / 64)).testBit (c.toNat % 64) = true then [c] else [37, hexd (c.toNat / 16), hexd (c.toNat % 16)]
def encL (S : Nat → Nat) (l : List UInt8) : List UInt8 := l.flatMap (encB S)
theorem encB_len (S : Nat → Nat) (c : UInt8) : (encB S c).length ≤ 3 := by unfold encB; split <;> simp
theorem encL_len (S : Nat → Nat) (l : List UInt8) : (encL S l).length ≤ 3 * l.length := by
  induction l with
  | nil => simp [encL]
  | cons a t ih => have := encB_len S a; simp only [encL, List.flatMap_cons, List.length_append, List.length_cons] at *; omega
theorem encL_append (S : Nat → Nat) (a b : List UInt8) : encL S (a ++ b) = encL S a ++ encL S b := by simp [encL]
theorem encL_one (S : Nat → Nat) (c : UInt8) : encL S [c] = encB S c := by simp [encL]
end Go.Proofs.YtpicenopiigfpaaDoor
