/-
  Request lines: where the three checks stop and what the first wrong byte is; no program is in sight; no condition.
-/
import Derived.Test.YtllhcfgddcjfkaaDoorRlP
import Derived.Test.YtllhcfgddcjfkaaDoorTokS
namespace Go.Proofs.YtllhcfgddcjfkaaDoor
open Go.RowKit
set_option linter.unusedVariables false
set_option linter.unusedSimpArgs false

theorem tok_fin : ∀ c : Fin 256, tokP c.val = tokB c.val := by decide +kernel
theorem tok_256 (c : Nat) (h : c < 256) : tokP c = tokB c := tok_fin ⟨c, h⟩
theorem allS_iff (p : Nat → Bool) (s : ByteArray) : allS p s = true ↔ ∀ x, x < s.size → p (byS s x) = true := by
  unfold allS
  rw [List.all_eq_true]
  constructor
  · intro h x hx
    have h1 := byS_at hx
    exact h _ (List.mem_of_getElem? h1)
  · intro h c hc
    obtain ⟨i, hi, rfl⟩ := List.getElem_of_mem hc
    have h2 := h i (by rw [← size_data]; exact hi)
    unfold byS at h2
    rw [List.getD_eq_getElem?_getD, List.getElem?_eq_getElem hi] at h2
    exact h2
theorem isT_iff (s : ByteArray) : isT s = true ↔ s.size ≠ 0 ∧ ∀ x, x < s.size → tokB (byS s x) = true := by
  unfold isT
  rw [Bool.and_eq_true, decide_eq_true_eq, allS_iff]
  constructor
  · rintro ⟨h1, h2⟩
    exact ⟨h1, fun x hx => by rw [← tok_256 _ (byS_lt s x)]; exact h2 x hx⟩
  · rintro ⟨h1, h2⟩
    exact ⟨h1, fun x hx => by rw [tok_256 _ (byS_lt s x)]; exact h2 x hx⟩
theorem isT_one (s : ByteArray) (i : Nat) (h : i < s.size) : isT (s.extract i (i + 1)) = tokB (byS s i) := by
  have hz : (s.extract i (i + 1)).size = 1 := by rw [ext_len (by omega)]; omega
  have hb : byS (s.extract i (i + 1)) 0 = byS s i := by rw [byS_ext (by omega) (by omega)]; rfl
  rw [Bool.eq_iff_iff, isT_iff, hz]
  constructor
  · rintro ⟨_, h2⟩
    have := h2 0 (by omega)
    rwa [hb] at this
  · intro h2
    refine ⟨by omega, fun x hx => ?_⟩
    obtain rfl : x = 0 := by omega
    rw [hb]; exact h2

/-- Where the checks stop. -/
def atA (s : ByteArray) : Nat := firstN (fun x => !tokB (byS s x)) s.size
def atB (s : ByteArray) : Nat := firstN (fun x => !chrB (byS s x) || (decide (x = 0) && decide (byS s x ≠ 47))) s.size
def atC (s : ByteArray) : Nat := firstN (fun x => decide (8 ≤ x) || decide (byS s x ≠ verB x)) s.size
theorem atA_le (s : ByteArray) : atA s ≤ s.size := firstN_le _ _
theorem atB_le (s : ByteArray) : atB s ≤ s.size := firstN_le _ _
theorem atC_le (s : ByteArray) : atC s ≤ s.size := firstN_le _ _
theorem isT_atA (s : ByteArray) (h : s.size ≠ 0) : isT s = decide (atA s = s.size) := by
  rw [Bool.eq_iff_iff, isT_iff, decide_eq_true_eq]
  constructor
  · rintro ⟨_, h2⟩
    exact firstN_none fun x hx => by simp [h2 x hx]
  · intro e
    refine ⟨h, fun x hx => ?_⟩
    have := firstN_lt (P := fun x => !tokB (byS s x)) (n := s.size) (x := x) (by show x < atA s; omega)
    simpa using this

theorem spA_congr {G H : Nat → Nat} {n : Nat} (h : ∀ x, x < n → G x = H x) : spA G n = spA H n := firstN_congr fun x hx => by rw [h x hx]
theorem spB_congr {G H : Nat → Nat} {n : Nat} (h : ∀ x, x < n → G x = H x) : spB G n = spB H n := firstN_congr fun x hx => by rw [h x hx, spA_congr h]
theorem wrong_congr {G H : Nat → Nat} {n : Nat} (h : ∀ x, x < n → G x = H x) : wrongN G n = wrongN H n := firstN_congr fun x hx => by
  unfold badB lenB
  rw [h x hx, spA_congr h, spB_congr h]

section
variable {G : Nat → Nat} {n : Nat}
theorem bad_a {x : Nat} (h : x < spA G n) : badB G n x = !tokB (G x) := by unfold badB; rw [if_pos h]
theorem bad_a0 : badB G n (spA G n) = decide (spA G n = 0) := by unfold badB; rw [if_neg (by omega), if_pos rfl]
theorem bad_b {x : Nat} (h : x < lenB G n) : badB G n (spA G n + 1 + x) = (!chrB (G (spA G n + 1 + x)) || (decide (x = 0) && decide (G (spA G n + 1 + x) ≠ 47))) := by
  unfold lenB at h
  unfold badB
  rw [if_neg (by omega), if_neg (by omega), if_pos (by omega), show decide (spA G n + 1 + x = spA G n + 1) = decide (x = 0) from by rw [decide_eq_decide]; omega]
theorem bad_b0 (h : spA G n < spB G n) : badB G n (spB G n) = decide (lenB G n = 0) := by unfold badB; rw [if_neg (by omega), if_neg (by omega), if_neg (by omega), if_pos rfl]
theorem bad_c {x : Nat} (h : spA G n < spB G n) : badB G n (spB G n + 1 + x) = (decide (8 ≤ x) || decide (G (spB G n + 1 + x) ≠ verB x)) := by
  unfold badB
  rw [if_neg (by omega), if_neg (by omega), if_neg (by omega), if_neg (by omega), show spB G n + 1 + x - (spB G n + 1) = x by omega]
end

theorem byS_pA {s : ByteArray} {x : Nat} (h : x < spA (byS s) s.size) : byS (pA s) x = byS s x := by
  unfold pA; rw [byS_ext (by omega) (spA_le _ _), Nat.zero_add]
theorem byS_pB {s : ByteArray} {x : Nat} (h : x < lenB (byS s) s.size) : byS (pB s) x = byS s (spA (byS s) s.size + 1 + x) := by
  unfold lenB at h
  unfold pB; rw [byS_ext (by omega) (spB_le _ _)]
theorem byS_pC {s : ByteArray} {x : Nat} (h : x < lenC (byS s) s.size) : byS (pC s) x = byS s (spB (byS s) s.size + 1 + x) := by
  unfold lenC at h
  unfold pC; rw [byS_ext (by omega) (Nat.le_refl _)]
section
variable {s : ByteArray}
theorem good_a {x : Nat} (h : x < atA (pA s)) : badB (byS s) s.size x = false := by
  have h1 := atA_le (pA s)
  rw [pA_size] at h1
  rw [bad_a (by omega), ← byS_pA (by omega)]
  exact firstN_lt h
theorem good_b {x : Nat} (h : x < atB (pB s)) : badB (byS s) s.size (spA (byS s) s.size + 1 + x) = false := by
  have h1 := atB_le (pB s)
  rw [pB_size] at h1
  rw [bad_b (by omega), ← byS_pB (by omega)]
  exact firstN_lt h
theorem good_c {x : Nat} (hs : spA (byS s) s.size < spB (byS s) s.size) (h : x < atC (pC s)) : badB (byS s) s.size (spB (byS s) s.size + 1 + x) = false := by
  have h1 := atC_le (pC s)
  rw [pC_size] at h1
  rw [bad_c hs, ← byS_pC (by omega)]
  exact firstN_lt h
/-- The first wrong byte, step by step. -/
theorem wrong_1 (h : atA (pA s) < (pA s).size) : wrongN (byS s) s.size = atA (pA s) ∧ atA (pA s) < s.size := by
  have h0 := spA_le (byS s) s.size
  have hz := pA_size s
  refine ⟨firstN_is (by omega) (fun x hx => good_a hx) (fun _ => ?_), by omega⟩
  rw [bad_a (by omega), ← byS_pA (by omega)]
  exact firstN_at h
theorem wrong_2 (h : spA (byS s) s.size = 0) (hn : spA (byS s) s.size < s.size) : wrongN (byS s) s.size = 0 := by
  refine firstN_is (by omega) (fun x hx => absurd hx (by omega)) (fun _ => ?_)
  have := bad_a0 (G := byS s) (n := s.size)
  rw [h] at this
  exact this
theorem wrong_3 (h : spA (byS s) s.size = s.size) (ha : atA (pA s) = (pA s).size) : wrongN (byS s) s.size = s.size := by
  have hz := pA_size s
  exact firstN_none fun x hx => good_a (by omega)
theorem good_ab (ha : atA (pA s) = (pA s).size) (h0 : (pA s).size ≠ 0) {x : Nat} (hx : x < spA (byS s) s.size + 1 + atB (pB s)) : badB (byS s) s.size x = false := by
  have hz := pA_size s
  by_cases h1 : x < spA (byS s) s.size
  · exact good_a (by omega)
  · by_cases h2 : x = spA (byS s) s.size
    · rw [h2, bad_a0]; exact decide_eq_false (by omega)
    · obtain ⟨y, rfl⟩ : ∃ y, x = spA (byS s) s.size + 1 + y := ⟨x - (spA (byS s) s.size + 1), by omega⟩
      exact good_b (by omega)
theorem wrong_4 (hn : spA (byS s) s.size < s.size) (ha : atA (pA s) = (pA s).size) (h0 : (pA s).size ≠ 0) (hb : atB (pB s) < (pB s).size) : wrongN (byS s) s.size = (pA s).size + 1 + atB (pB s) ∧ (pA s).size + 1 + atB (pB s) < s.size := by
  have hz := pB_size s
  have hy := pA_size s
  have hl := spB_le (byS s) s.size
  have hb' := hb
  rw [hz] at hb'
  have hlt : spA (byS s) s.size + 1 + atB (pB s) < s.size := by unfold lenB at hb'; omega
  rw [hy]
  refine ⟨firstN_is (by omega) (fun x hx => good_ab ha h0 hx) (fun _ => ?_), hlt⟩
  rw [bad_b hb', ← byS_pB hb']
  exact firstN_at hb
theorem wrong_5 (ha : atA (pA s) = (pA s).size) (h0 : (pA s).size ≠ 0) (hb : atB (pB s) = 0) (hb0 : (pB s).size = 0) (hn : spB (byS s) s.size < s.size) : wrongN (byS s) s.size = (pA s).size + 1 ∧ (pA s).size + 1 < s.size := by
  have hz := pB_size s
  have hy := pA_size s
  have hg := (spB_at hn).1
  have e : spB (byS s) s.size = spA (byS s) s.size + 1 := by rw [hz] at hb0; unfold lenB at hb0; omega
  rw [hy, ← e]
  refine ⟨firstN_is (by omega) (fun x hx => good_ab ha h0 (by omega)) (fun _ => ?_), hn⟩
  rw [bad_b0 hg]
  exact decide_eq_true (by omega)
theorem wrong_6 (ha : atA (pA s) = (pA s).size) (h0 : (pA s).size ≠ 0) (hb : atB (pB s) = (pB s).size) (hn : spB (byS s) s.size = s.size) (hA : spA (byS s) s.size < s.size) : wrongN (byS s) s.size = s.size := by
  have hz := pB_size s
  have hg := spB_gt _ _ hA
  refine firstN_none fun x hx => good_ab ha h0 ?_
  rw [hb, hz]
  unfold lenB
  omega
theorem good_abc (ha : atA (pA s) = (pA s).size) (h0 : (pA s).size ≠ 0) (hb : atB (pB s) = (pB s).size) (hb0 : (pB s).size ≠ 0) (hn : spB (byS s) s.size < s.size) {x : Nat} (hx : x < spB (byS s) s.size + 1 + atC (pC s)) : badB (byS s) s.size x = false := by
  have hz := pB_size s
  have hg := (spB_at hn).1
  by_cases h1 : x < spB (byS s) s.size
  · refine good_ab ha h0 ?_
    rw [hb, hz]; unfold lenB; omega
  · by_cases h2 : x = spB (byS s) s.size
    · rw [h2, bad_b0 hg]; exact decide_eq_false (by omega)
    · obtain ⟨y, rfl⟩ : ∃ y, x = spB (byS s) s.size + 1 + y := ⟨x - (spB (byS s) s.size + 1), by omega⟩
      exact good_c hg (by omega)
theorem wrong_7 (ha : atA (pA s) = (pA s).size) (h0 : (pA s).size ≠ 0) (hb : atB (pB s) = (pB s).size) (hb0 : (pB s).size ≠ 0) (hn : spB (byS s) s.size < s.size) (hc : atC (pC s) < (pC s).size) : wrongN (byS s) s.size = (pA s).size + 1 + ((pB s).size + 1) + atC (pC s) ∧ (pA s).size + 1 + ((pB s).size + 1) + atC (pC s) < s.size := by
  have hz := pC_size s
  have hz2 := pB_size s
  have hz1 := pA_size s
  have hg := (spB_at hn).1
  have hc' := hc
  rw [hz] at hc'
  have e : (pA s).size + 1 + ((pB s).size + 1) + atC (pC s) = spB (byS s) s.size + 1 + atC (pC s) := by rw [hz2, hz1]; unfold lenB; omega
  rw [e]
  have hlt : spB (byS s) s.size + 1 + atC (pC s) < s.size := by unfold lenC at hc'; omega
  refine ⟨firstN_is (by omega) (fun x hx => good_abc ha h0 hb hb0 hn hx) (fun _ => ?_), hlt⟩
  rw [bad_c hg, ← byS_pC hc']
  exact firstN_at hc
theorem wrong_8 (ha : atA (pA s) = (pA s).size) (h0 : (pA s).size ≠ 0) (hb : atB (pB s) = (pB s).size) (hb0 : (pB s).size ≠ 0) (hn : spB (byS s) s.size < s.size) (hc : atC (pC s) = (pC s).size) : wrongN (byS s) s.size = s.size := by
  have hz := pC_size s
  refine firstN_none fun x hx => good_abc ha h0 hb hb0 hn ?_
  rw [hc, hz]; unfold lenC; omega
end
theorem partN_1 {G : Nat → Nat} {n : Nat} : partN G n = 1 ↔ spA G n = n := by
  unfold partN
  constructor
  · intro h
    by_cases a : spA G n = n
    · exact a
    · rw [if_neg a] at h; split at h <;> omega
  · intro h; rw [if_pos h]
theorem partN_2 {G : Nat → Nat} {n : Nat} : partN G n = 2 ↔ spA G n < n ∧ spB G n = n := by
  have h0 := spA_le G n
  unfold partN
  constructor
  · intro h
    by_cases a : spA G n = n
    · rw [if_pos a] at h; omega
    · rw [if_neg a] at h
      by_cases b : spB G n = n
      · exact ⟨by omega, b⟩
      · rw [if_neg b] at h; omega
  · rintro ⟨a, b⟩; rw [if_neg (by omega), if_pos b]
theorem partN_3 {G : Nat → Nat} {n : Nat} : partN G n = 3 ↔ spB G n < n := by
  have h0 := spA_le G n
  have h1 := spB_le G n
  unfold partN
  constructor
  · intro h
    by_cases a : spA G n = n
    · rw [if_pos a] at h; omega
    · rw [if_neg a] at h
      by_cases b : spB G n = n
      · rw [if_pos b] at h; omega
      · omega
  · intro b
    have := (spB_at b).1
    rw [if_neg (by omega), if_neg (by omega)]
theorem partN_ways (G : Nat → Nat) (n : Nat) : partN G n = 1 ∨ partN G n = 2 ∨ partN G n = 3 := by
  unfold partN; split
  · left; rfl
  · split
    · right; left; rfl
    · right; right; rfl
end Go.Proofs.YtllhcfgddcjfkaaDoor
