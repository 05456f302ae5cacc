/-
  Quoted words: how far a reader has come; no program is in sight; no condition.
-/
import Derived.Test.YtpicenopiigfpaaDoorRwLw
namespace Go.Proofs.YtpicenopiigfpaaDoor
set_option linter.unusedVariables false
set_option linter.unusedSimpArgs false

/-- How far it has come. -/
def QAt (s : ByteArray) (k0 : Nat) (xs : List UInt8) (k : Nat) : Prop :=
  k ≤ s.size ∧ k0 + 1 ≤ k ∧ xs.length ≤ k ∧ quo (s.data.toList.drop (k0 + 1)) = (quo (s.data.toList.drop k)).map fun r => (xs ++ r.1, r.2 + (k - (k0 + 1)))
theorem QAt.start {s : ByteArray} {k0 : Nat} (h : k0 < s.size) : QAt s k0 [] (k0 + 1) := by
  refine ⟨h, Nat.le_refl _, Nat.zero_le _, ?_⟩
  cases quo (s.data.toList.drop (k0 + 1)) with
  | none => rfl
  | some r => show some r = some ([] ++ r.1, r.2 + (k0 + 1 - (k0 + 1))); simp
theorem QAt.no {s : ByteArray} {k0 k : Nat} {xs : List UInt8} (h : QAt s k0 xs k) (hn : quo (s.data.toList.drop k) = none) : quo (s.data.toList.drop (k0 + 1)) = none := by
  rw [h.2.2.2, hn]; rfl
theorem QAt.done {s : ByteArray} {k0 k : Nat} {xs t : List UInt8} (h : QAt s k0 xs k) (hn : s.data.toList.drop k = 34 :: t) : quo (s.data.toList.drop (k0 + 1)) = some (xs, k + 1 - (k0 + 1)) := by
  rw [h.2.2.2, hn, quo_end]
  show some (xs ++ [], 1 + (k - (k0 + 1))) = _
  have := h.2.1
  rw [List.append_nil]; congr 2; omega
theorem QAt.step {s : ByteArray} {k0 k m : Nat} {xs u : List UInt8} {d : UInt8} (h : QAt s k0 xs k) (hm : k + m ≤ s.size) (h0 : 0 < m) (hu : s.data.toList.drop (k + m) = u) (hq : quo (s.data.toList.drop k) = (quo u).map fun r => (d :: r.1, r.2 + m)) : QAt s k0 (xs ++ [d]) (k + m) := by
  obtain ⟨h1, h2, h3, h4⟩ := h
  refine ⟨hm, by omega, by simp; omega, ?_⟩
  rw [h4, hu, hq]
  cases quo u with
  | none => rfl
  | some r => show some (xs ++ (d :: r.1), r.2 + m + (k - (k0 + 1))) = some (xs ++ [d] ++ r.1, r.2 + (k + m - (k0 + 1))); rw [List.append_assoc]; congr 2; omega
theorem at_two {s : ByteArray} {k : Nat} {a b : UInt8} {v : List UInt8} (h : s.data.toList.drop k = a :: b :: v) : k + 2 ≤ s.size ∧ (s.extract k (k + 2)).data.toList = [a, b] ∧ s.data.toList.drop (k + 2) = v := by
  have hl := congrArg List.length h
  rw [List.length_drop, size_data] at hl
  simp only [List.length_cons] at hl
  refine ⟨by omega, ?_, ?_⟩
  · rw [Lib.extract_data, show k + 2 - k = 2 by omega, h]; rfl
  · rw [← List.drop_drop, h]; rfl
theorem at_one {s : ByteArray} {k : Nat} {a : UInt8} {v : List UInt8} (h : s.data.toList.drop k = a :: v) : ∃ hk : k < s.size, s[k] = a ∧ s.data.toList.drop (k + 1) = v := by
  have hl := congrArg List.length h
  rw [List.length_drop, size_data] at hl
  simp only [List.length_cons] at hl
  have hk : k < s.size := by omega
  have := drop_at s k hk
  rw [h] at this
  exact ⟨hk, (List.cons.inj this).1.symm, (List.cons.inj this).2.symm⟩

theorem u8_ne {c : UInt8} {n : Nat} (h : n < 256) (hc : c ≠ n.toUInt8) : c.toNat ≠ n := fun e => hc (UInt8.toNat_inj.1 (by rw [e]; simp; omega))

theorem ext_one (s : ByteArray) (k : Nat) (h : k < s.size) : s.extract k (k + 1) = mkB [s[k]] := by
  apply str_ext
  rw [Lib.extract_data, mkB_data]
  rw [drop_at s k h]
  rw [show k + 1 - k = 1 by omega]
  rfl
end Go.Proofs.YtpicenopiigfpaaDoor
