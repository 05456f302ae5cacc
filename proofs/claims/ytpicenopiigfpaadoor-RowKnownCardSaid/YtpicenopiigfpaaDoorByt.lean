/-
  A string's bytes by number, parts of strings, strings one behind the other; no program is in sight; no condition.
-/
import Derived.Test.YtpicenopiigfpaaDoorBase
namespace Go.Proofs.YtpicenopiigfpaaDoor
set_option linter.unusedVariables false
set_option linter.unusedSimpArgs false

/-- The bytes of a string. -/
def byS (s : ByteArray) : Nat → Nat := fun i => (s.data.toList.getD i 0).toNat
theorem byS_lt (s : ByteArray) (i : Nat) : byS s i < 256 := (s.data.toList.getD i 0).toNat_lt
theorem byS_ext {s : ByteArray} {a b i : Nat} (h : a + i < b) (hb : b ≤ s.size) : byS (s.extract a b) i = byS s (a + i) := by
  unfold byS
  rw [Lib.extract_data]
  congr 1
  rw [List.getD_eq_getElem?_getD, List.getD_eq_getElem?_getD, List.getElem?_take, if_pos (by omega), List.getElem?_drop]
theorem ext_len {s : ByteArray} {a b : Nat} (hb : b ≤ s.size) : (s.extract a b).size = b - a := by
  rw [ByteArray.size_extract]; omega
theorem ext_ext {s : ByteArray} {a b c d : Nat} (h : a + d ≤ b) : (s.extract a b).extract c d = s.extract (a + c) (a + d) := by
  apply str_ext
  rw [Lib.extract_data, Lib.extract_data, Lib.extract_data, List.drop_take, List.drop_drop, List.take_take]
  congr 1
  omega
theorem ext_all (s : ByteArray) : s.extract 0 s.size = s := by simp
theorem ext_none {s : ByteArray} {a b : Nat} (h : b ≤ a) : s.extract a b = ByteArray.empty := by
  apply str_ext
  rw [Lib.extract_data, show b - a = 0 by omega]
  rfl
theorem byS_at {s : ByteArray} {i : Nat} (h : i < s.size) : s.data.toList[i]? = some (s.data.toList.getD i 0) := by
  rw [List.getD_eq_getElem?_getD, List.getElem?_eq_getElem (by rw [size_data]; exact h)]; rfl
theorem str_eq {s t : ByteArray} (hl : s.size = t.size) (h : ∀ i, i < s.size → byS s i = byS t i) : s = t := by
  apply str_ext
  apply List.ext_getElem?
  intro i
  by_cases hi : i < s.size
  · rw [byS_at hi, byS_at (by omega)]
    have := h i hi
    unfold byS at this
    rw [UInt8.toNat_inj.1 this]
  · rw [List.getElem?_eq_none (by rw [size_data]; omega), List.getElem?_eq_none (by rw [size_data]; omega)]
theorem get_byS (s : ByteArray) (i : Nat) (h : i < s.size) : (s[i]'h).toNat = byS s i := by
  unfold byS
  rw [List.getD_eq_getElem?_getD, List.getElem?_eq_getElem (by rw [size_data]; exact h)]
  rfl
theorem byS_left {a b : ByteArray} {x : Nat} (h : x < a.size) : byS (a ++ b) x = byS a x := by
  unfold byS
  rw [show (a ++ b).data.toList = a.data.toList ++ b.data.toList by simp, List.getD_eq_getElem?_getD, List.getD_eq_getElem?_getD, List.getElem?_append_left (by rw [size_data]; exact h)]
theorem byS_right {a b : ByteArray} {x y : Nat} (h : y = a.size + x) : byS (a ++ b) y = byS b x := by
  subst h
  unfold byS
  rw [show (a ++ b).data.toList = a.data.toList ++ b.data.toList by simp, List.getD_eq_getElem?_getD, List.getD_eq_getElem?_getD, List.getElem?_append_right (by rw [size_data]; omega), size_data, Nat.add_sub_cancel_left]
theorem empty_of_size {s : ByteArray} (h : s.size = 0) : s = ⟨#[]⟩ := by
  apply str_ext
  apply List.eq_nil_of_length_eq_zero
  rw [size_data]; exact h
theorem ne_toList (u : ByteArray) (h : 0 < u.size) : u.data.toList ≠ [] := by
  intro e
  have := size_data u
  rw [e] at this
  simp at this
  omega
theorem nonempty_b (u : ByteArray) (h : 0 < u.size) : (u.toList == []) = false := by
  rw [Lib.toList_data]
  have := ne_toList u h
  cases e : u.data.toList with
  | nil => exact absurd e this
  | cons => rfl
theorem beq_lit (s : ByteArray) (l : List UInt8) : (s.toList == l) = decide (s = ⟨l.toArray⟩) := by
  rw [← str_beq s ⟨l.toArray⟩, Lib.toList_data ⟨l.toArray⟩]
end Go.Proofs.YtpicenopiigfpaaDoor
