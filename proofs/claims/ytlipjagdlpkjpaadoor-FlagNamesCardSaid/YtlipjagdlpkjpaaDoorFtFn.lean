/-
  Flags' texts as plain functions: which part says what; no program is in sight; no condition.
-/
import Derived.Test.YtlipjagdlpkjpaaDoorFlg
import Derived.Test.YtlipjagdlpkjpaaDoorByt
import Derived.Test.YtlipjagdlpkjpaaDoorRlFn
namespace Go.Proofs.YtlipjagdlpkjpaaDoor
set_option linter.unusedVariables false
set_option linter.unusedSimpArgs false

/-- The flags by number: the six ways, Append, Discard. -/
def get8 (f : Flg) : Nat → Bool
  | 0 => f.last
  | 1 => f.next
  | 2 => f.chain
  | 3 => f.fin
  | 4 => f.forb
  | 5 => f.gone
  | 6 => f.app
  | 7 => f.disc
  | _ => false
def set8 (f : Flg) : Nat → Flg
  | 0 => { f with last := true }
  | 1 => { f with next := true }
  | 2 => { f with chain := true }
  | 3 => { f with fin := true }
  | 4 => { f with forb := true }
  | 5 => { f with gone := true }
  | 6 => { f with app := true }
  | 7 => { f with disc := true }
  | _ => f
/-- Their letters. -/
def let8 (k : Nat) : Nat := [76, 78, 67, 69, 70, 71, 65, 68].getD k 0
/-- Which letter a part is; 8 if it is none. -/
def letK (p : ByteArray) : Nat := if p.size = 1 then firstN (fun k => decide (let8 k = byS p 0)) 8 else 8
/-- The first n bytes as a decimal number. -/
def decN (G : Nat → Nat) : Nat → Nat
  | 0 => 0
  | n + 1 => 10 * decN G n + (G n - 48)
def badD (G : Nat → Nat) (x : Nat) : Bool := decide (G x < 48) || decide (57 < G x)
/-- The number of a part; -1 if it is none. -/
def numP (s : ByteArray) : Int :=
  if s.size = 0 ∨ 4 < s.size ∨ (1 < s.size ∧ byS s 0 = 48) then -1
  else if firstN (badD (byS s)) s.size < s.size then -1
  else (decN (byS s) s.size : Int)
theorem decN_bound (G : Nat → Nat) : ∀ n, n ≤ 4 → (∀ x, x < n → badD G x = false) → decN G n < 10 ^ n := by
  intro n
  induction n with
  | zero => intro _ _; exact Nat.zero_lt_one
  | succ n ih =>
    intro hn h
    have h1 := ih (by omega) (fun x hx => h x (by omega))
    have h2 := h n (by omega)
    unfold badD at h2
    rw [Bool.or_eq_false_iff, decide_eq_false_iff_not, decide_eq_false_iff_not] at h2
    unfold decN
    rw [Nat.pow_succ]
    omega
theorem decN_small {G : Nat → Nat} {n : Nat} (hn : n ≤ 4) (h : ∀ x, x < n → badD G x = false) : decN G n < 10000 :=
  Nat.lt_of_lt_of_le (decN_bound G n hn h) (Nat.pow_le_pow_right (by decide) hn)
theorem numP_bounds (s : ByteArray) : -1 ≤ numP s ∧ numP s < 10000 := by
  unfold numP
  by_cases h1 : s.size = 0 ∨ 4 < s.size ∨ (1 < s.size ∧ byS s 0 = 48)
  · rw [if_pos h1]; omega
  · rw [if_neg h1]
    by_cases h2 : firstN (badD (byS s)) s.size < s.size
    · rw [if_pos h2]; omega
    · rw [if_neg h2]
      have hle := firstN_le (badD (byS s)) s.size
      have := decN_small (G := byS s) (n := s.size) (by omega) (fun x hx => firstN_lt (n := s.size) (by omega))
      omega

/-- Flags that are collected: whether Skip and Redirect were named. -/
structure Put where
  f : Flg
  sk : Bool
  rd : Bool
instance : Inhabited Put := ⟨⟨default, false, false⟩⟩
def skP (s : Put) (n : Int) : Put × Int := if n < 0 then (s, 3) else if s.sk = true then (s, 7) else (⟨{ s.f with skip := n }, true, s.rd⟩, 0)
def rdP (s : Put) (n : Int) : Put × Int := if n < 0 then (s, 3) else if s.rd = true then (s, 7) else (⟨{ s.f with red := n }, s.sk, true⟩, 0)
def isS (p : ByteArray) : Bool := decide (2 ≤ p.size) && (decide (byS p 0 = 83) && decide (byS p 1 = 61))
def isR (p : ByteArray) : Bool := decide (2 ≤ p.size) && (decide (byS p 0 = 82) && decide (byS p 1 = 61))
def rE : ByteArray := ⟨#[82]⟩
/-- A part more, or its error. -/
def putP (s : Put) (p : ByteArray) : Put × Int :=
  if letK p < 8 then (if get8 s.f (letK p) = true then (s, 7) else (⟨set8 s.f (letK p), s.sk, s.rd⟩, 0))
  else if isS p = true then skP s (numP (p.extract 2 p.size))
  else if p = rE then rdP s 302
  else if isR p = true then rdP s (numP (p.extract 2 p.size))
  else (s, 11)
/-- Parts, one after the other: the first error and where it is. -/
def runP : List ByteArray → Put → Nat → Put × Int × Nat
  | [], s, a => (s, 0, a)
  | p :: r, s, a => if (putP s p).2 = 0 then runP r (putP s p).1 (a + p.size + 1) else (s, (putP s p).2, a)
/-- The error behind all parts. -/
def wholeP (s : Put) : Int := if (s.sk = true ∧ s.f.skip = 0) ∨ (s.rd = true ∧ s.f.red = 0) then 2 else chkF s.f
def zeroF : Flg := ⟨false, false, false, false, false, false, false, false, 0, 0⟩
def zeroPut : Put := ⟨zeroF, false, false⟩
/-- What a text is, after its parts. -/
def doneR (r : Put × Int × Nat) : Flg × Int × Nat := if r.2.1 = 0 then (if wholeP r.1 = 0 then (r.1.f, 0, 0) else (zeroF, wholeP r.1, 0)) else (zeroF, r.2.1, r.2.2)
/-- The parts between the brackets. -/
def midS (s : ByteArray) : ByteArray := s.extract 1 (s.size - 1)
def parseF (L : List ByteArray) (s : ByteArray) : Flg × Int × Nat :=
  if s.size = 0 then (zeroF, 0, 0)
  else if byS s 0 ≠ 91 then (zeroF, 3, 0)
  else if s.size = 1 then (zeroF, 3, 1)
  else if byS s (s.size - 1) ≠ 93 then (zeroF, 3, s.size - 1)
  else doneR (runP L zeroPut 1)
theorem let8_ne : ∀ j k : Nat, j < 8 → k < 8 → let8 j = let8 k → j = k := by
  intro j k hj hk
  have h : ∀ j : Fin 8, ∀ k : Fin 8, let8 j.val = let8 k.val → j.val = k.val := by decide
  exact h ⟨j, hj⟩ ⟨k, hk⟩
theorem letK_le (p : ByteArray) : letK p ≤ 8 := by
  unfold letK
  split
  · exact firstN_le _ _
  · exact Nat.le_refl _
/-- A part is letter k if it is this one byte. -/
theorem letK_is {p : ByteArray} {k : Nat} (hk : k < 8) : letK p = k ↔ p.size = 1 ∧ byS p 0 = let8 k := by
  unfold letK
  by_cases h : p.size = 1
  · rw [if_pos h]
    constructor
    · intro e
      have := firstN_at (P := fun k => decide (let8 k = byS p 0)) (n := 8) (by rw [e]; exact hk)
      rw [e] at this
      exact ⟨h, (of_decide_eq_true this).symm⟩
    · rintro ⟨_, e⟩
      refine firstN_is (by omega) (fun x hx => decide_eq_false fun e2 => ?_) (fun _ => decide_eq_true e.symm)
      have := let8_ne x k (by omega) hk (e2.trans e)
      omega
  · rw [if_neg h]
    exact ⟨fun e => by omega, fun e => absurd e.1 h⟩
/-- The skip and the code stay ints. -/
def PutOk (s : Put) : Prop := (-9223372036854775808 ≤ s.f.skip ∧ s.f.skip ≤ 9223372036854775807) ∧ (-9223372036854775808 ≤ s.f.red ∧ s.f.red ≤ 9223372036854775807)
theorem put_ok {s : Put} (h : PutOk s) (p : ByteArray) : PutOk (putP s p).1 := by
  have hn := numP_bounds (p.extract 2 p.size)
  have h1 : ∀ n : Int, -1 ≤ n ∧ n < 10000 → PutOk (skP s n).1 := fun n hn => by
    unfold skP
    split
    · exact h
    · split
      · exact h
      · exact ⟨⟨by show -9223372036854775808 ≤ n; omega, by show n ≤ 9223372036854775807; omega⟩, h.2⟩
  have h2 : ∀ n : Int, -1 ≤ n ∧ n < 10000 → PutOk (rdP s n).1 := fun n hn => by
    unfold rdP
    split
    · exact h
    · split
      · exact h
      · exact ⟨h.1, ⟨by show -9223372036854775808 ≤ n; omega, by show n ≤ 9223372036854775807; omega⟩⟩
  unfold putP
  split
  · rename_i hk
    split
    · exact h
    · have : letK p = 0 ∨ letK p = 1 ∨ letK p = 2 ∨ letK p = 3 ∨ letK p = 4 ∨ letK p = 5 ∨ letK p = 6 ∨ letK p = 7 := by omega
      rcases this with e | e | e | e | e | e | e | e <;> rw [e] <;> exact h
  · split
    · exact h1 _ hn
    · split
      · exact h2 _ (by omega)
      · split
        · exact h2 _ hn
        · exact h
end Go.Proofs.YtlipjagdlpkjpaaDoor
