/-
  Request lines, plain laws: a text is read back, what is read has this text, the parts are the line; no program is in sight; no condition.
-/
import Derived.Test.YtllhcfgddcjfkaaDoorRlL
namespace Go.Proofs.YtllhcfgddcjfkaaDoor
open Go.RowKit
set_option linter.unusedVariables false
set_option linter.unusedSimpArgs false

theorem byS_left {a b : ByteArray} {x : Nat} (h : x < a.size) : byS (a ++ b) x = byS a x := by
  unfold byS
  rw [show (a ++ b).data.toList = a.data.toList ++ b.data.toList by simp, List.getD_eq_getElem?_getD, List.getD_eq_getElem?_getD, List.getElem?_append_left (by rw [size_data]; exact h)]
theorem byS_right {a b : ByteArray} {x y : Nat} (h : y = a.size + x) : byS (a ++ b) y = byS b x := by
  subst h
  unfold byS
  rw [show (a ++ b).data.toList = a.data.toList ++ b.data.toList by simp, List.getD_eq_getElem?_getD, List.getD_eq_getElem?_getD, List.getElem?_append_right (by rw [size_data]; omega), size_data, Nat.add_sub_cancel_left]
/-- The blank. -/
def spE : ByteArray := ⟨#[32]⟩
theorem sp_size : spE.size = 1 := rfl
theorem sp_byte : byS spE 0 = 32 := rfl
/-- A request line's text. -/
def textL (m t : ByteArray) : ByteArray := m ++ spE ++ t ++ spE ++ verE
theorem text_size (m t : ByteArray) : (textL m t).size = m.size + 1 + t.size + 1 + 8 := by
  unfold textL
  rw [ByteArray.size_append, ByteArray.size_append, ByteArray.size_append, ByteArray.size_append, sp_size, ver_size]
theorem text_m {m t : ByteArray} {x : Nat} (h : x < m.size) : byS (textL m t) x = byS m x := by
  unfold textL
  rw [byS_left (by rw [ByteArray.size_append, ByteArray.size_append, ByteArray.size_append]; omega), byS_left (by rw [ByteArray.size_append, ByteArray.size_append]; omega), byS_left (by rw [ByteArray.size_append]; omega), byS_left h]
theorem text_a (m t : ByteArray) : byS (textL m t) m.size = 32 := by
  unfold textL
  rw [byS_left (by rw [ByteArray.size_append, ByteArray.size_append, ByteArray.size_append, sp_size]; omega), byS_left (by rw [ByteArray.size_append, ByteArray.size_append, sp_size]; omega), byS_left (by rw [ByteArray.size_append, sp_size]; omega), byS_right (x := 0) (by omega)]
  exact sp_byte
theorem text_t {m t : ByteArray} {x : Nat} (h : x < t.size) : byS (textL m t) (m.size + 1 + x) = byS t x := by
  unfold textL
  rw [byS_left (by rw [ByteArray.size_append, ByteArray.size_append, ByteArray.size_append, sp_size]; omega), byS_left (by rw [ByteArray.size_append, ByteArray.size_append, sp_size]; omega), byS_right (x := x) (by rw [ByteArray.size_append, sp_size])]
theorem text_b (m t : ByteArray) : byS (textL m t) (m.size + 1 + t.size) = 32 := by
  unfold textL
  rw [byS_left (by rw [ByteArray.size_append, ByteArray.size_append, ByteArray.size_append, sp_size]; omega), byS_right (x := 0) (by rw [ByteArray.size_append, ByteArray.size_append, sp_size]; omega)]
  exact sp_byte
theorem text_v {m t : ByteArray} {x : Nat} (h : x < 8) : byS (textL m t) (m.size + 1 + t.size + 1 + x) = verB x := by
  unfold textL
  rw [byS_right (x := x) (by rw [ByteArray.size_append, ByteArray.size_append, ByteArray.size_append, sp_size]), ver_byte x h]
theorem tok_32 {c : Nat} (h : tokB c = true) : c ≠ 32 := by rintro rfl; revert h; decide
theorem chr_32 {c : Nat} (h : chrB c = true) : c ≠ 32 := by rintro rfl; revert h; decide
/-- What is wrong with a target, by number. -/
def tgtE (s : ByteArray) : Int := if 1024 < s.size then 4 else if s.size = 0 ∨ atB s < s.size then 3 else 0
def nameE (m : ByteArray) : Bool := decide (m.size ≤ 16) && isT m
def txtE (m t : ByteArray) : Int := if nameE m = true then tgtE t else 11
def txtS (m t : ByteArray) : ByteArray := if txtE m t = 0 then textL m t else ByteArray.empty
theorem txt_ok {m t : ByteArray} (h : txtE m t = 0) : m.size ≤ 16 ∧ isT m = true ∧ t.size ≤ 1024 ∧ t.size ≠ 0 ∧ atB t = t.size := by
  unfold txtE at h
  by_cases h1 : nameE m = true
  · rw [if_pos h1] at h
    unfold nameE at h1
    rw [Bool.and_eq_true, decide_eq_true_eq] at h1
    unfold tgtE at h
    by_cases h2 : 1024 < t.size
    · rw [if_pos h2] at h; cases h
    · rw [if_neg h2] at h
      by_cases h3 : t.size = 0 ∨ atB t < t.size
      · rw [if_pos h3] at h; cases h
      · have := atB_le t
        exact ⟨h1.1, h1.2, by omega, by omega, by omega⟩
  · rw [if_neg h1] at h; cases h
theorem txt_is {m t : ByteArray} (h1 : m.size ≤ 16) (h2 : isT m = true) (h3 : t.size ≤ 1024) (h4 : t.size ≠ 0) (h5 : atB t = t.size) : txtE m t = 0 := by
  unfold txtE nameE tgtE
  rw [if_pos (by rw [Bool.and_eq_true, decide_eq_true_eq]; exact ⟨h1, h2⟩), if_neg (by omega), if_neg (by omega)]
theorem ext_left (a b : ByteArray) : (a ++ b).extract 0 a.size = a := by
  refine str_eq (by rw [ext_len (by rw [ByteArray.size_append]; omega)]; omega) fun i hi => ?_
  rw [ext_len (by rw [ByteArray.size_append]; omega)] at hi
  rw [byS_ext (by omega) (by rw [ByteArray.size_append]; omega), Nat.zero_add, byS_left (by omega)]
theorem text_back {m t : ByteArray} (h : txtE m t = 0) : pA (textL m t) = m ∧ pB (textL m t) = t ∧ parS (byS (textL m t)) (textL m t).size = 0 := by
  obtain ⟨h1, h2, h3, h4, h5⟩ := txt_ok h
  rw [isT_iff] at h2
  have hsz := text_size m t
  have hb : ∀ x, x < t.size → chrB (byS t x) = true ∧ (x = 0 → byS t x = 47) := fun x hx => by
    have := firstN_lt (P := fun x => !chrB (byS t x) || (decide (x = 0) && decide (byS t x ≠ 47))) (n := t.size) (x := x) (by show x < atB t; omega)
    rw [Bool.or_eq_false_iff] at this
    refine ⟨by simpa using this.1, fun h0 => ?_⟩
    have h6 := this.2
    simp [h0] at h6
    rw [h0]; exact h6
  have ea : spA (byS (textL m t)) (textL m t).size = m.size := by
    refine firstN_is (by omega) (fun x hx => ?_) (fun _ => decide_eq_true (text_a m t))
    exact decide_eq_false (by rw [text_m hx]; exact tok_32 (h2.2 x hx))
  have eb : spB (byS (textL m t)) (textL m t).size = m.size + 1 + t.size := by
    refine firstN_is (by omega) (fun x hx => ?_) (fun _ => ?_)
    · rw [ea]
      by_cases hxm : m.size < x
      · obtain ⟨y, rfl⟩ : ∃ y, x = m.size + 1 + y := ⟨x - (m.size + 1), by omega⟩
        rw [text_t (by omega), decide_eq_false (chr_32 (hb y (by omega)).1), Bool.and_false]
      · rw [decide_eq_false hxm, Bool.false_and]
    · rw [ea, text_b, decide_eq_true (by omega), decide_eq_true rfl]; rfl
  have eA : pA (textL m t) = m := by
    refine str_eq (by rw [pA_size, ea]) fun i hi => ?_
    rw [pA_size] at hi
    rw [byS_pA hi, text_m (by omega)]
  have elB : lenB (byS (textL m t)) (textL m t).size = t.size := by unfold lenB; rw [ea, eb]; omega
  have elC : lenC (byS (textL m t)) (textL m t).size = 8 := by unfold lenC; rw [eb]; omega
  have eB : pB (textL m t) = t := by
    refine str_eq (by rw [pB_size, elB]) fun i hi => ?_
    rw [pB_size] at hi
    rw [byS_pB hi, ea, text_t (by omega)]
  refine ⟨eA, eB, ?_⟩
  have hl : longS (byS (textL m t)) (textL m t).size = 0 := by
    unfold longS
    rw [ea, elB, elC, if_neg (by omega), if_neg (by omega), if_neg (by omega)]
  have hC : atC (pC (textL m t)) = (pC (textL m t)).size := by
    refine firstN_none fun x hx => ?_
    have hx8 : x < 8 := by rw [pC_size, elC] at hx; exact hx
    rw [byS_pC (by omega), eb, text_v hx8]
    simp; omega
  have hw : wrongN (byS (textL m t)) (textL m t).size = (textL m t).size := by
    have hmz : (pA (textL m t)).size ≠ 0 := by rw [eA]; exact h2.1
    refine wrong_8 ?_ hmz ?_ ?_ (by omega) hC
    · rw [eA]; exact firstN_none fun x hx => by simp [h2.2 x hx]
    · rw [eB]; exact h5
    · rw [eB]; exact h4
  unfold parS
  rw [if_neg (by rw [hl]; decide), if_neg (by omega), if_pos elC]
/-- The parts, joined. -/
theorem join_1 {s : ByteArray} (h : partN (byS s) s.size = 1) : pA s = s := by
  unfold pA; rw [partN_1.1 h, ext_all]
theorem cut_at {s : ByteArray} {a b c : Nat} (hab : a < b) (hbc : b ≤ c) (hc : c ≤ s.size) (h32 : byS s a = 32) (p : ByteArray) (hp : p = s.extract 0 a) : p ++ spE ++ s.extract (a + 1) c = s.extract 0 c := by
  subst hp
  have z1 : (s.extract 0 a).size = a := by rw [ext_len (by omega)]; omega
  have z2 : (s.extract 0 a ++ spE).size = a + 1 := by rw [ByteArray.size_append, z1, sp_size]
  have z3 : (s.extract (a + 1) c).size = c - (a + 1) := ext_len hc
  refine str_eq (by rw [ByteArray.size_append, z2, z3, ext_len hc]; omega) fun i hi => ?_
  rw [ByteArray.size_append, z2, z3] at hi
  rw [byS_ext (by omega) hc, Nat.zero_add]
  by_cases h1 : i < a
  · rw [byS_left (by omega), byS_left (by omega), byS_ext (by omega) (by omega), Nat.zero_add]
  · by_cases h2 : i = a
    · rw [byS_left (by omega), byS_right (x := 0) (by omega), h2, h32]; rfl
    · rw [byS_right (x := i - (a + 1)) (by omega), byS_ext (by omega) hc]
      congr 1
      omega
theorem join_2 {s : ByteArray} (h : partN (byS s) s.size = 2) : pA s ++ spE ++ pB s = s := by
  obtain ⟨h1, h2⟩ := partN_2.1 h
  have := cut_at (s := s) (a := spA (byS s) s.size) (b := s.size) (c := s.size) h1 (Nat.le_refl _) (Nat.le_refl _) (spA_at h1) (pA s) rfl
  unfold pB
  rw [h2, this, ext_all]
theorem join_3 {s : ByteArray} (h : partN (byS s) s.size = 3) : pA s ++ spE ++ pB s ++ spE ++ pC s = s := by
  have h2 := partN_3.1 h
  have h3 := spB_at h2
  have e1 := cut_at (s := s) (a := spA (byS s) s.size) (b := spB (byS s) s.size) (c := spB (byS s) s.size) h3.1 (Nat.le_refl _) (by omega) (spA_at (by omega)) (pA s) rfl
  have e2 := cut_at (s := s) (a := spB (byS s) s.size) (b := s.size) (c := s.size) h2 (Nat.le_refl _) (Nat.le_refl _) h3.2 (pA s ++ spE ++ pB s) e1
  unfold pC
  rw [e2, ext_all]
theorem back_text {s : ByteArray} (h : parS (byS s) s.size = 0) : txtE (pA s) (pB s) = 0 ∧ textL (pA s) (pB s) = s := by
  rcases parS_cases (byS s) s.size with ⟨_, h1, h2, h3⟩ | ⟨h1, _⟩ | ⟨h1, h2⟩
  · have hB : spB (byS s) s.size < s.size := by unfold lenC at h3; omega
    obtain ⟨g1, g2, g3, g4, g5⟩ := wrong_full h2 hB
    rcases longS_cases (byS s) s.size with ⟨_, _, l1, l2, l3⟩ | ⟨e, _⟩ | ⟨e, _⟩
    · have hC : pC s = verE := (ver_is g5).2 (by rw [pC_size, h3])
      refine ⟨txt_is (by rw [pA_size]; exact l1) ?_ (by rw [pB_size]; exact l2) g4 g3, ?_⟩
      · rw [isT_atA _ g2]; exact decide_eq_true g1
      · unfold textL
        rw [← hC]
        exact join_3 (partN_3.2 hB)
    · rw [h1] at e; cases e
    · rw [h1] at e; cases e
  · rw [h] at h1; cases h1
  · rw [h] at h1; exact absurd h1.symm h2
end Go.Proofs.YtllhcfgddcjfkaaDoor
