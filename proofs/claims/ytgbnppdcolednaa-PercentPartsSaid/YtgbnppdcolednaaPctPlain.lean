/-
  Escapes: the plain laws: an encoding is read back, two strings one behind the other, what a cut says; no program is in sight; no condition.
-/
import Derived.Test.YtgbnppdcolednaaPctC
import Derived.Test.YtgbnppdcolednaaPctO
namespace Go.Proofs.Ytgbnppdcolednaa
set_option linter.unusedVariables false
set_option linter.unusedSimpArgs false

theorem hexv_hexd : ∀ n : Nat, n < 16 → hexv (hexd n) = n := by decide +kernel
theorem escV_hexd (c : UInt8) : escV (hexd (c.toNat / 16)) (hexd (c.toNat % 16)) = c := by
  have hc : c.toNat < 256 := c.toNat_lt
  have h1 := hexv_hexd (c.toNat / 16) (by omega)
  have h2 := hexv_hexd (c.toNat % 16) (by omega)
  apply UInt8.toNat.inj
  have := escV_int (hexd (c.toNat / 16)) (hexd (c.toNat % 16)) (by omega) (by omega)
  omega

theorem scan_encB (S : Nat → Nat) (c : UInt8) (t : List UInt8) : scan (encB S c ++ t) = (c :: (scan t).1, (scan t).2.1 + (encB S c).length, (scan t).2.2 + (if c ≠ 37 ∧ hasS S c = true then 0 else 1)) := by
  have hc : c.toNat < 256 := c.toNat_lt
  by_cases h : c ≠ 37 ∧ hasS S c = true
  · rw [encB_stay h.1 h.2, List.singleton_append, scan_plain _ _ h.1, if_pos h]; simp
  · have h' : c = 37 ∨ hasS S c = false := by
      by_cases h37 : c = 37
      · exact .inl h37
      · right; cases hh : hasS S c
        · rfl
        · exact absurd ⟨h37, hh⟩ h
    rw [encB_esc h', if_neg h]
    show scan (37 :: hexd (c.toNat / 16) :: hexd (c.toNat % 16) :: t) = _
    have h1 := hexv_hexd (c.toNat / 16) (by omega)
    have h2 := hexv_hexd (c.toNat % 16) (by omega)
    rw [scan_esc _ _ _ ⟨by omega, by omega⟩, escV_hexd]; simp

/-- How many bytes are written as escapes. -/
def escN (S : Nat → Nat) : List UInt8 → Nat
  | [] => 0
  | c :: t => (if c ≠ 37 ∧ hasS S c = true then 0 else 1) + escN S t
theorem escN_append (S : Nat → Nat) (a b : List UInt8) : escN S (a ++ b) = escN S a + escN S b := by
  induction a with
  | nil => simp [escN]
  | cons c t ih => simp only [List.cons_append, escN, ih]; omega
theorem escN_le (S : Nat → Nat) (l : List UInt8) : escN S l ≤ l.length := by
  induction l with
  | nil => simp [escN]
  | cons c t ih => simp only [escN, List.length_cons]; split <;> omega

theorem encL_cons (S : Nat → Nat) (c : UInt8) (t : List UInt8) : encL S (c :: t) = encB S c ++ encL S t := by simp [encL]
theorem scan_encL (S : Nat → Nat) (l : List UInt8) : scan (encL S l) = (l, (encL S l).length, escN S l) := by
  induction l with
  | nil => simp [encL, scan_nil, escN]
  | cons c t ih => rw [encL_cons, scan_encB, ih]; simp [escN]; omega
theorem encL_length (S : Nat → Nat) (l : List UInt8) : (encL S l).length = l.length + 2 * escN S l := by
  induction l with
  | nil => simp [encL, escN]
  | cons c t ih => rw [encL_cons, List.length_append, ih, encB_length]; simp only [escN, List.length_cons]; split <;> omega

theorem okS_enc (S : Nat → Nat) (s : ByteArray) : okS (encS S s) := by
  show (scan (encL S s.data.toList)).2.1 = (encL S s.data.toList).toArray.size
  rw [scan_encL, List.size_toArray]
theorem rOut_enc (S : Nat → Nat) (s : ByteArray) : rOut (encS S s) = s := by
  rw [(rOk (okS_enc S s)).2.2.1]
  unfold encS
  rw [scan_encL]
theorem canS_enc (S : Nat → Nat) (s : ByteArray) : canS S (encS S s) = encS S s := by
  unfold canS
  rw [if_pos (okS_enc S s), rOut_enc]
theorem encS_size (S : Nat → Nat) (s : ByteArray) : (encS S s).size = s.size + 2 * escN S s.data.toList := by
  have := encL_length S s.data.toList
  rw [size_data] at this
  show (encL S s.data.toList).toArray.size = _
  rw [List.size_toArray, this]

/-! Two strings, one behind the other. -/
theorem append_list (a b : ByteArray) : (a ++ b).data.toList = a.data.toList ++ b.data.toList := by simp
theorem bytes_ext {a b : ByteArray} (h : a.data.toList = b.data.toList) : a = b := by
  cases a; cases b; simp at h; simpa using h
theorem encS_append (S : Nat → Nat) (a b : ByteArray) : encS S a ++ encS S b = encS S (a ++ b) := by
  apply bytes_ext
  rw [append_list]
  unfold encS
  simp only [append_list, encL_append]

theorem scan_append (l t : List UInt8) (h : okL l) : scan (l ++ t) = ((scan l).1 ++ (scan t).1, l.length + (scan t).2.1, (scan l).2.2 + (scan t).2.2) := by
  revert h
  induction l using scan_ind with
  | h0 => intro _; simp [scan_nil]
  | h1 a u ha ih =>
    intro h
    unfold okL at h ih
    rw [scan_plain a u ha] at h
    have := ih (by simpa using h)
    rw [List.cons_append, scan_plain a _ ha, this, scan_plain a u ha]
    simp; omega
  | h2 b c u hb hc ih =>
    intro h
    unfold okL at h ih
    rw [scan_esc b c u ⟨hb, hc⟩] at h
    have := ih (by simpa using h)
    rw [List.cons_append, List.cons_append, List.cons_append, scan_esc b c _ ⟨hb, hc⟩, this, scan_esc b c u ⟨hb, hc⟩]
    simp; omega
  | h3 u he =>
    intro h
    unfold okL at h
    rw [scan_bad u he] at h
    simp at h
theorem okL_append {l t : List UInt8} (h : okL l) (k : okL t) : okL (l ++ t) := by
  unfold okL
  rw [scan_append l t h]
  unfold okL at k
  simp [k]
theorem okS_append {a b : ByteArray} (h : okS a) (k : okS b) : okS (a ++ b) := by
  rw [okS_L] at *
  rw [append_list]
  exact okL_append h k
theorem rOut_append {a b : ByteArray} (h : okS a) (k : okS b) : rOut (a ++ b) = rOut a ++ rOut b := by
  rw [(rOk (okS_append h k)).2.2.1, (rOk h).2.2.1, (rOk k).2.2.1]
  apply bytes_ext
  rw [append_list, append_list, scan_append _ _ (okS_L.1 h)]

/-! A cut. -/
theorem cut_law (l : List UInt8) (h : okL l) : ∀ n : Nat, n ≤ l.length →
    okL (l.take (cutL l n)) ∧ cutL l n ≤ n ∧ n - cutL l n ≤ 2 ∧ (scan (l.take (cutL l n))).1 = (scan l).1.take (scan (l.take (cutL l n))).1.length ∧ (scan (l.take (cutL l n))).1.length ≤ (scan l).1.length ∧
    offL l (scan (l.take (cutL l n))).1.length = cutL l n ∧ (n - cutL l n = 0 ∨ l[cutL l n]? = some 37) := by
  revert h
  induction l using scan_ind with
  | h0 => intro _ n hn; simp at hn; subst hn; simp [cutL_nil, okL, scan_nil, offL_zero]
  | h1 a u ha ih =>
    intro h n hn
    have hu : okL u := by unfold okL at *; rw [scan_plain a u ha] at h; simpa using h
    rw [cutL_plain a u n ha]
    by_cases h1 : 1 ≤ n
    · rw [if_pos h1]
      obtain ⟨i1, i2, i3, i4, i5, i6, i7⟩ := ih hu (n - 1) (by simp at hn; omega)
      have e : (a :: u).take (1 + cutL u (n - 1)) = a :: u.take (cutL u (n - 1)) := by rw [Nat.add_comm]; rfl
      rw [e, scan_plain a _ ha, scan_plain a u ha]
      refine ⟨?_, by omega, by omega, ?_, ?_, ?_, ?_⟩
      · unfold okL at *; rw [scan_plain a _ ha]; simpa using i1
      · simp only [List.length_cons, List.take_succ_cons]; rw [← i4]
      · simpa using i5
      · simp only [List.length_cons]; rw [offL_plain a u _ ha, i6]
      · rcases i7 with i7 | i7
        · left; omega
        · right; rw [Nat.add_comm]; simpa using i7
    · rw [if_neg h1]
      have : n = 0 := by omega
      subst this
      simp [okL, scan_nil, offL_zero]
  | h2 b c u hb hc ih =>
    intro h n hn
    have hu : okL u := by unfold okL at *; rw [scan_esc b c u ⟨hb, hc⟩] at h; simpa using h
    rw [cutL_esc b c u n]
    by_cases h1 : 3 ≤ n
    · rw [if_pos h1]
      obtain ⟨i1, i2, i3, i4, i5, i6, i7⟩ := ih hu (n - 3) (by simp at hn; omega)
      have e : (37 :: b :: c :: u).take (3 + cutL u (n - 3)) = 37 :: b :: c :: u.take (cutL u (n - 3)) := by rw [Nat.add_comm]; rfl
      rw [e, scan_esc b c _ ⟨hb, hc⟩, scan_esc b c u ⟨hb, hc⟩]
      refine ⟨?_, by omega, by omega, ?_, ?_, ?_, ?_⟩
      · unfold okL at *; rw [scan_esc b c _ ⟨hb, hc⟩]; simpa using i1
      · simp only [List.length_cons, List.take_succ_cons]; rw [← i4]
      · simpa using i5
      · simp only [List.length_cons]; rw [offL_esc b c u _, i6]
      · rcases i7 with i7 | i7
        · left; omega
        · right; rw [Nat.add_comm]; simpa using i7
    · rw [if_neg h1]
      simp [okL, scan_nil, offL_zero]
      omega
  | h3 u he =>
    intro h
    unfold okL at h
    rw [scan_bad u he] at h
    simp at h
end Go.Proofs.Ytgbnppdcolednaa
