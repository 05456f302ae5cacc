/-
  Flags made of a number, the parts of a text, an order turned: plain; what is read back, by the kernel's own reckoning over the few flags that there are; no program is in sight; no condition.
-/
import Derived.Test.YtlipjagdlpkjpaaDoorFtP
import Derived.Test.YtlipjagdlpkjpaaDoorFtH
import Derived.Test.YtlipjagdlpkjpaaDoorFtJ
import Derived.Test.YtlipjagdlpkjpaaDoorFtK
namespace Go.Proofs.YtlipjagdlpkjpaaDoor
set_option linter.unusedVariables false
set_option linter.unusedSimpArgs false

def redAt (k : Nat) : Int := ([301, 302, 303, 307, 308] : List Int).getD k 0
/-- The way, by a number from 0 to 74; 0 to 3: letters; 4, 5: alone; 6: none; 7 to 69: skips; 70 to 74: codes. -/
def wayF (i : Nat) (a d : Bool) : Flg :=
  ⟨decide (i = 0), decide (i = 1), decide (i = 2), decide (i = 3), decide (i = 4), decide (i = 5), decide (i ≠ 4) && (decide (i ≠ 5) && a), decide (i ≠ 4) && (decide (i ≠ 5) && d), if 7 ≤ i ∧ i < 70 then (i : Int) - 6 else 0, if 70 ≤ i then redAt (i - 70) else 0⟩
def eqF (f g : Flg) : Bool := f.last == g.last && (f.next == g.next && (f.chain == g.chain && (f.fin == g.fin && (f.forb == g.forb && (f.gone == g.gone && (f.app == g.app && (f.disc == g.disc && (f.skip == g.skip && f.red == g.red))))))))
theorem eqF_eq {f g : Flg} (h : eqF f g = true) : f = g := by
  obtain ⟨a0, a1, a2, a3, a4, a5, a6, a7, a8, a9⟩ := f
  obtain ⟨b0, b1, b2, b3, b4, b5, b6, b7, b8, b9⟩ := g
  unfold eqF at h
  simp only [Bool.and_eq_true, beq_iff_eq] at h
  obtain ⟨h0, h1, h2, h3, h4, h5, h6, h7, h8, h9⟩ := h
  rw [h0, h1, h2, h3, h4, h5, h6, h7, h8, h9]
def parsesTo (s : ByteArray) (f : Flg) : Bool := eqF (parseS s).1 f && (decide ((parseS s).2.1 = 0) && decide ((parseS s).2.2 = 0))
theorem parsesTo_eq {s : ByteArray} {f : Flg} (h : parsesTo s f = true) : parseS s = (f, 0, 0) := by
  unfold parsesTo at h
  simp only [Bool.and_eq_true, decide_eq_true_eq] at h
  obtain ⟨h1, h2, h3⟩ := h
  have h4 := eqF_eq h1
  exact Prod.ext h4 (Prod.ext h2 h3)
/-- The parts of a text, and where the next begins, behind k bytes. -/
def namesK (s : ByteArray) : Nat → List ByteArray × Nat
  | 0 => ([], 1)
  | k + 1 => if byS s (k + 1) = 44 ∨ byS s (k + 1) = 93 then ((namesK s k).1 ++ [s.extract (namesK s k).2 (k + 1)], k + 2) else namesK s k
def namesP (s : ByteArray) : List ByteArray := (namesK s (s.size - 1)).1
/-- A list from another place on. -/
def rotL (l : List ByteArray) (o : Nat) : List ByteArray := (List.range l.length).map fun i => l.getD ((i + o) % l.length) ⟨#[]⟩
def foundK (l : List ByteArray) (way : ByteArray) : Nat → Bool
  | 0 => decide (way = ⟨#[]⟩)
  | k + 1 => foundK l way k || decide (l.getD k ⟨#[]⟩ = way)
/-- Flags with the first k of a list, one by one; whether each went in, and none twice. -/
def oneK (l : List ByteArray) : Nat → Flg
  | 0 => zeroF
  | k + 1 => (withR (oneK l k) [l.getD k ⟨#[]⟩]).1
def withTo (f : Flg) (l : List ByteArray) (g : Flg) : Bool := eqF (withR f l).1 g && decide ((withR f l).2 = 0)
theorem withTo_eq {f g : Flg} {l : List ByteArray} (h : withTo f l g = true) : withR f l = (g, 0) := by
  unfold withTo at h
  simp only [Bool.and_eq_true, decide_eq_true_eq] at h
  obtain ⟨h1, h2⟩ := h
  exact Prod.ext (eqF_eq h1) h2
def stepK (R : List ByteArray) (k : Nat) : Bool := decide ((withR (oneK R k) [R.getD k ⟨#[]⟩]).2 = 0) && decide ((withR (oneK R (k + 1)) [R.getD k ⟨#[]⟩]).2 = 7)
def goodL (f : Flg) (l R : List ByteArray) : Bool :=
  decide (l.length ≤ 2) && ((if l.length = 0 then decide (textV f = ⟨#[]⟩) && (decide (endsV f = ⟨#[]⟩) && eqF f zeroF) else parsesTo (growT R l.length ++ ⟨#[93]⟩) f && foundK R (endsV f) l.length) &&
  (withTo f [] f && (withTo zeroF R f && (eqF (oneK R l.length) f && (List.range l.length).all (stepK R)))))
/-- Everything that the two laws ask of flags, with an order turned by o. -/
def goodF (f : Flg) (o : Nat) : Bool := decide (chkF f = 0) && (parsesTo (textV f) f && (decide ((textV f).size ≤ 20) && goodL f (namesP (textV f)) (rotL (namesP (textV f)) o)))
theorem good_all : ∀ i : Fin 75, ∀ x : Fin 3, ∀ o : Fin 2, goodF (wayF i.val (x.val == 0) (x.val == 1)) o.val = true := by decide +kernel
theorem good_of {i : Nat} {a b : Bool} (hi : i < 75) (hab : a = true → b = false) {o : Nat} (ho : o < 2) : goodF (wayF i a b) o = true := by
  cases a
  · cases b
    · exact good_all ⟨i, hi⟩ 2 ⟨o, ho⟩
    · exact good_all ⟨i, hi⟩ 1 ⟨o, ho⟩
  · rw [hab rfl]
    exact good_all ⟨i, hi⟩ 0 ⟨o, ho⟩
theorem good_parts {f : Flg} {o : Nat} (h : goodF f o = true) : chkF f = 0 ∧ parseS (textV f) = (f, 0, 0) ∧ (textV f).size ≤ 20 ∧ (namesP (textV f)).length ≤ 2 ∧
    ((namesP (textV f)).length = 0 → textV f = ⟨#[]⟩ ∧ endsV f = ⟨#[]⟩ ∧ f = zeroF) ∧
    ((namesP (textV f)).length ≠ 0 → parseS (growT (rotL (namesP (textV f)) o) (namesP (textV f)).length ++ ⟨#[93]⟩) = (f, 0, 0) ∧ foundK (rotL (namesP (textV f)) o) (endsV f) (namesP (textV f)).length = true) ∧
    withR f [] = (f, 0) ∧ withR zeroF (rotL (namesP (textV f)) o) = (f, 0) ∧ oneK (rotL (namesP (textV f)) o) (namesP (textV f)).length = f ∧
    ∀ k, k < (namesP (textV f)).length → stepK (rotL (namesP (textV f)) o) k = true := by
  unfold goodF goodL at h
  simp only [Bool.and_eq_true, decide_eq_true_eq, List.all_eq_true, List.mem_range] at h
  obtain ⟨h1, h2, h3, h4, h5, h6, h7, h8, h9⟩ := h
  refine ⟨h1, parsesTo_eq h2, h3, h4, fun e => ?_, fun e => ?_, withTo_eq h6, withTo_eq h7, eqF_eq h8, h9⟩
  · rw [if_pos e] at h5
    simp only [Bool.and_eq_true, decide_eq_true_eq] at h5
    exact ⟨h5.1, h5.2.1, eqF_eq h5.2.2⟩
  · rw [if_neg e] at h5
    simp only [Bool.and_eq_true] at h5
    exact ⟨parsesTo_eq h5.1, h5.2⟩
theorem names_le (s : ByteArray) : ∀ k, (namesK s k).1.length ≤ k ∧ 1 ≤ (namesK s k).2 ∧ (namesK s k).2 ≤ k + 1 := by
  intro k
  induction k with
  | zero => exact ⟨Nat.le_refl _, Nat.le_refl _, Nat.le_refl _⟩
  | succ k ih =>
    unfold namesK
    split
    · refine ⟨?_, by show 1 ≤ k + 2; omega, by show k + 2 ≤ k + 2; omega⟩
      rw [List.length_append]; show _ + 1 ≤ k + 1; omega
    · omega
theorem names_hit {s : ByteArray} {k : Nat} (h : byS s (k + 1) = 44 ∨ byS s (k + 1) = 93) : namesK s (k + 1) = ((namesK s k).1 ++ [s.extract (namesK s k).2 (k + 1)], k + 2) := by
  conv => lhs; unfold namesK
  rw [if_pos h]
theorem names_miss {s : ByteArray} {k : Nat} (h : ¬ (byS s (k + 1) = 44 ∨ byS s (k + 1) = 93)) : namesK s (k + 1) = namesK s k := by
  conv => lhs; unfold namesK
  rw [if_neg h]
end Go.Proofs.YtlipjagdlpkjpaaDoor
