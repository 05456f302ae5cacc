/-
  The parts of a line, as substrings by number, and what strings.SplitN's list is; no program is in sight; no condition.
-/
import Derived.Test.YtllhcfgddcjfkaaDoorRlFn
import Derived.Test.YtllhcfgddcjfkaaDoorBstD
import Derived.Lib.Split
import Derived.Lib.IndexLaws
import Derived.Lib.CutLaws
namespace Go.Proofs.YtllhcfgddcjfkaaDoor
open Go.RowKit
set_option linter.unusedVariables false
set_option linter.unusedSimpArgs false

theorem byS_ext {s : ByteArray} {a b i : Nat} (h : a + i < b) (hb : b ≤ s.size) : byS (s.extract a b) i = byS s (a + i) := by
  unfold byS
  rw [Lib.extract_data]
  congr 1
  rw [List.getD_eq_getElem?_getD, List.getD_eq_getElem?_getD, List.getElem?_take, if_pos (by omega), List.getElem?_drop]
theorem ext_len {s : ByteArray} {a b : Nat} (hb : b ≤ s.size) : (s.extract a b).size = b - a := by
  rw [ByteArray.size_extract]; omega
theorem ext_ext {s : ByteArray} {a b c d : Nat} (h : a + d ≤ b) : (s.extract a b).extract c d = s.extract (a + c) (a + d) := by
  apply str_ext
  rw [Lib.extract_data, Lib.extract_data, Lib.extract_data, List.drop_take, List.drop_drop, List.take_take]
  congr 1
  omega
theorem ext_all (s : ByteArray) : s.extract 0 s.size = s := by simp
theorem ext_none {s : ByteArray} {a b : Nat} (h : b ≤ a) : s.extract a b = ByteArray.empty := by
  apply str_ext
  rw [Lib.extract_data, show b - a = 0 by omega]
  rfl
theorem byS_at {s : ByteArray} {i : Nat} (h : i < s.size) : s.data.toList[i]? = some (s.data.toList.getD i 0) := by
  rw [List.getD_eq_getElem?_getD, List.getElem?_eq_getElem (by rw [size_data]; exact h)]; rfl
theorem str_eq {s t : ByteArray} (hl : s.size = t.size) (h : ∀ i, i < s.size → byS s i = byS t i) : s = t := by
  apply str_ext
  apply List.ext_getElem?
  intro i
  by_cases hi : i < s.size
  · rw [byS_at hi, byS_at (by omega)]
    have := h i hi
    unfold byS at this
    rw [UInt8.toNat_inj.1 this]
  · rw [List.getElem?_eq_none (by rw [size_data]; omega), List.getElem?_eq_none (by rw [size_data]; omega)]

/-- The three parts. -/
def pA (s : ByteArray) : ByteArray := s.extract 0 (spA (byS s) s.size)
def pB (s : ByteArray) : ByteArray := s.extract (spA (byS s) s.size + 1) (spB (byS s) s.size)
def pC (s : ByteArray) : ByteArray := s.extract (spB (byS s) s.size + 1) s.size
theorem pA_size (s : ByteArray) : (pA s).size = spA (byS s) s.size := by unfold pA; rw [ext_len (spA_le _ _)]; omega
theorem pB_size (s : ByteArray) : (pB s).size = lenB (byS s) s.size := by unfold pB; rw [ext_len (spB_le _ _)]; rfl
theorem pC_size (s : ByteArray) : (pC s).size = lenC (byS s) s.size := by unfold pC; rw [ext_len (Nat.le_refl _)]; rfl
theorem byte_32 {s : ByteArray} {i : Nat} (h : byS s i = 32) : s.data.toList.getD i 0 = 32 := UInt8.toNat_inj.1 h
theorem idx_yes {s : ByteArray} (h : spA (byS s) s.size < s.size) : Lib.indexB s ⟨#[32]⟩ = (spA (byS s) s.size : Nat) := by
  show Lib.index s.data.toList [32] = _
  rw [Lib.index_one]
  rcases (show Lib.indexByte s.data.toList 32 = -1 ∨ ∃ o : Nat, Lib.indexByte s.data.toList 32 = o from by
    have := Lib.indexByte_ge s.data.toList 32
    rcases (show Lib.indexByte s.data.toList 32 < 0 ∨ 0 ≤ Lib.indexByte s.data.toList 32 by omega) with h | h
    · left; omega
    · right; exact ⟨_, (Int.toNat_of_nonneg h).symm⟩) with e | ⟨o, e⟩
  · have h1 := spA_at h
    have h2 := Lib.indexByte_none e (spA (byS s) s.size)
    rw [byS_at h] at h2
    exact absurd (congrArg some (byte_32 h1)) h2
  · obtain ⟨h1, h2⟩ := Lib.indexByte_some e
    have ho : o < s.size := by rw [← size_data]; exact (List.getElem?_eq_some_iff.1 h1).1
    rw [e]
    congr 1
    symm
    refine firstN_is (by omega) (fun x hx => ?_) (fun _ => ?_)
    · have h3 := h2 x hx
      rw [byS_at (by omega)] at h3
      exact decide_eq_false fun h4 => h3 (congrArg some (byte_32 h4))
    · rw [byS_at ho] at h1
      exact decide_eq_true (by unfold byS; rw [Option.some.inj h1]; rfl)
theorem idx_no {s : ByteArray} (h : spA (byS s) s.size = s.size) : Lib.indexB s ⟨#[32]⟩ = -1 := by
  show Lib.index s.data.toList [32] = _
  rw [Lib.index_one]
  have hge := Lib.indexByte_ge s.data.toList 32
  rcases (show Lib.indexByte s.data.toList 32 < 0 ∨ 0 ≤ Lib.indexByte s.data.toList 32 by omega) with h' | h'
  · omega
  · obtain ⟨h1, h2⟩ := Lib.indexByte_some (Int.toNat_of_nonneg h').symm
    have ho : (Lib.indexByte s.data.toList 32).toNat < s.size := by rw [← size_data]; exact (List.getElem?_eq_some_iff.1 h1).1
    have h3 := spA_lt (G := byS s) (n := s.size) (x := (Lib.indexByte s.data.toList 32).toNat) (by omega)
    rw [byS_at ho] at h1
    exact absurd (by unfold byS; rw [Option.some.inj h1]; rfl) h3
/-- The rest behind the first space has its first space where the line has its second. -/
theorem spA_rest {s : ByteArray} (h : spA (byS s) s.size < s.size) : spA (byS (s.extract (spA (byS s) s.size + 1) s.size)) (s.extract (spA (byS s) s.size + 1) s.size).size = spB (byS s) s.size - (spA (byS s) s.size + 1) := by
  have hg := spB_gt (byS s) s.size h
  have hl := spB_le (byS s) s.size
  rw [ext_len (Nat.le_refl _)]
  refine firstN_is (by omega) (fun x hx => ?_) (fun hx => ?_)
  · rw [byS_ext (s := s) (a := spA (byS s) s.size + 1) (b := s.size) (i := x) (by omega) (Nat.le_refl _)]
    exact decide_eq_false (spB_lt (G := byS s) (n := s.size) (by omega) (by omega))
  · rw [byS_ext (s := s) (a := spA (byS s) s.size + 1) (b := s.size) (i := spB (byS s) s.size - (spA (byS s) s.size + 1)) (by omega) (Nat.le_refl _), show spA (byS s) s.size + 1 + (spB (byS s) s.size - (spA (byS s) s.size + 1)) = spB (byS s) s.size by omega]
    exact decide_eq_true (spB_at (by omega)).2
/-- SplitN's list, at three. -/
theorem split_three (s : ByteArray) : ∃ L, Lib.splitB ⟨#[32]⟩ 0 (min 3 (s.size + 1) - 1) s = L ∧ L.length = partN (byS s) s.size ∧ L.length ≤ min 3 (s.size + 1) ∧ 1 ≤ L.length ∧
    (L ++ [ByteArray.empty, ByteArray.empty])[0]? = some (pA s) ∧ (L ++ [ByteArray.empty, ByteArray.empty])[1]? = some (pB s) ∧ (L ++ [ByteArray.empty, ByteArray.empty])[2]? = some (pC s) := by
  have hle := spA_le (byS s) s.size
  have hlb := spB_le (byS s) s.size
  refine ⟨_, rfl, ?_⟩
  by_cases h : spA (byS s) s.size = s.size
  · have hb := spB_end _ _ h
    rw [Lib.splitB_miss _ _ _ _ (idx_no h)]
    refine ⟨by unfold partN; rw [if_pos h]; rfl, by simp; omega, by simp, ?_, ?_, ?_⟩
    · show some s = _
      unfold pA; rw [h, ext_all]
    · show some ByteArray.empty = _
      unfold pB; rw [ext_none (by omega)]
    · show some ByteArray.empty = _
      unfold pC; rw [ext_none (by omega)]
  · have hlt : spA (byS s) s.size < s.size := by omega
    have hg := spB_gt _ _ hlt
    have hi := idx_yes hlt
    obtain ⟨k, hk⟩ : ∃ k, min 3 (s.size + 1) - 1 = k + 1 := ⟨min 3 (s.size + 1) - 2, by omega⟩
    rw [hk, Lib.splitB_hit _ _ _ _ _ hi]
    obtain ⟨t, ht⟩ : ∃ t, t = s.extract (spA (byS s) s.size + 1) s.size := ⟨_, rfl⟩
    have hsep : (⟨#[32]⟩ : ByteArray).size = 1 := rfl
    rw [hsep, Nat.add_zero, ← ht]
    have hts : t.size = s.size - (spA (byS s) s.size + 1) := by rw [ht]; exact ext_len (Nat.le_refl _)
    have hra := spA_rest hlt
    rw [← ht] at hra
    by_cases h2 : spB (byS s) s.size = s.size
    · rw [Lib.splitB_miss _ _ _ _ (idx_no (by rw [hra, hts, h2]))]
      refine ⟨by unfold partN; rw [if_neg h, if_pos h2]; rfl, by simp; omega, by simp, rfl, ?_, ?_⟩
      · show some t = _
        unfold pB; rw [ht, h2]
      · show some ByteArray.empty = _
        unfold pC; rw [ext_none (by omega)]
    · obtain ⟨k2, hk2⟩ : ∃ k2, k = k2 + 1 := ⟨k - 1, by omega⟩
      have hk0 : k2 = 0 := by omega
      subst hk0
      have hi2 := idx_yes (s := t) (by rw [hra, hts]; omega)
      rw [hk2, Lib.splitB_hit _ _ _ _ _ hi2, Lib.splitB_zero, hra, hsep, Nat.add_zero]
      refine ⟨by unfold partN; rw [if_neg h, if_neg h2]; rfl, by simp; omega, by simp, rfl, ?_, ?_⟩
      · show some (t.extract 0 _) = _
        rw [ht, ext_ext (by omega)]
        unfold pB
        congr 2
        omega
      · show some (t.extract _ t.size) = _
        rw [hts, ht, ext_ext (by omega)]
        unfold pC
        congr 2 <;> omega
end Go.Proofs.YtllhcfgddcjfkaaDoor
