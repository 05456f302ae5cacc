/-
  Strings of lists; the pieces of a list between bytes of one kind: cut, found, counted; no program is in sight; no condition.
-/
import Derived.Test.YtpicenopiigfpaaDoorByt
import Derived.Lib.CutLaws
import Derived.Lib.IndexLaws
namespace Go.Proofs.YtpicenopiigfpaaDoor
set_option linter.unusedVariables false
set_option linter.unusedSimpArgs false

theorem u8_all {p : UInt8 → Prop} (h : ∀ n : Nat, n < 256 → p n.toUInt8) (c : UInt8) : p c := by
  have := h c.toNat c.toNat_lt
  rwa [show c.toNat.toUInt8 = c by simp] at this

/-- A string of a list. -/
def mkB (l : List UInt8) : ByteArray := ⟨l.toArray⟩
theorem mkB_data (l : List UInt8) : (mkB l).data.toList = l := by simp [mkB]
theorem mkB_size (l : List UInt8) : (mkB l).size = l.length := by show l.toArray.size = _; simp
theorem mkB_of (s : ByteArray) : mkB s.data.toList = s := by unfold mkB; simp
theorem mkB_inj {a b : List UInt8} : mkB a = mkB b ↔ a = b := by
  constructor
  · intro h; rw [← mkB_data a, h, mkB_data]
  · rintro rfl; rfl
theorem mkB_append (a b : List UInt8) : mkB a ++ mkB b = mkB (a ++ b) := by
  apply str_ext
  rw [mkB_data]
  simp [mkB]

/-! Pieces. -/
def splitL (c : UInt8) : List UInt8 → List (List UInt8)
  | [] => [[]]
  | a :: t => if a = c then [] :: splitL c t else match splitL c t with
    | [] => [[a]]
    | p :: ps => (a :: p) :: ps
theorem splitL_ne (c : UInt8) (l : List UInt8) : splitL c l ≠ [] := by
  cases l with
  | nil => simp [splitL]
  | cons a t =>
    unfold splitL
    split
    · simp
    · split <;> simp
theorem splitL_at (c : UInt8) (t : List UInt8) : splitL c (c :: t) = [] :: splitL c t := by
  conv => lhs; unfold splitL
  rw [if_pos rfl]
theorem splitL_past {c x : UInt8} (t : List UInt8) (h : x ≠ c) {p : List UInt8} {ps : List (List UInt8)} (e : splitL c t = p :: ps) : splitL c (x :: t) = (x :: p) :: ps := by
  conv => lhs; unfold splitL
  rw [if_neg h, e]
theorem splitL_append (c : UInt8) (a b : List UInt8) : splitL c (a ++ c :: b) = splitL c a ++ splitL c b := by
  induction a with
  | nil => rw [List.nil_append, splitL_at]; rfl
  | cons x t ih =>
    rw [List.cons_append]
    by_cases h : x = c
    · subst h
      rw [splitL_at, splitL_at, ih, List.cons_append]
    · cases e : splitL c t with
      | nil => exact absurd e (splitL_ne c t)
      | cons p ps =>
        rw [e] at ih
        rw [splitL_past t h e, splitL_past _ h (ih.trans (List.cons_append ..)), List.cons_append]
theorem splitL_none {c : UInt8} {l : List UInt8} (h : c ∉ l) : splitL c l = [l] := by
  induction l with
  | nil => rfl
  | cons a t ih =>
    unfold splitL
    rw [if_neg (by rintro rfl; simp at h), ih (by simp at h; exact h.2)]
theorem splitL_hit {c : UInt8} {p r : List UInt8} (h : c ∉ p) : splitL c (p ++ c :: r) = p :: splitL c r := by
  rw [splitL_append, splitL_none h]
  rfl
theorem splitL_all {q : UInt8 → Bool} {c : UInt8} {l : List UInt8} (h : l.all q = true) : ∀ p ∈ splitL c l, p.all q = true := by
  induction l with
  | nil => intro p hp; simp [splitL] at hp; subst hp; rfl
  | cons a t ih =>
    rw [List.all_cons, Bool.and_eq_true] at h
    intro p hp
    unfold splitL at hp
    split at hp
    · rcases List.mem_cons.1 hp with rfl | hp
      · rfl
      · exact ih h.2 p hp
    · split at hp
      · rename_i e; exact absurd e (splitL_ne c t)
      · rename_i x xs e
        rcases List.mem_cons.1 hp with rfl | hp
        · rw [List.all_cons, h.1, ih h.2 x (by rw [e]; simp)]; rfl
        · exact ih h.2 p (by rw [e]; simp [hp])
theorem splitL_len (c : UInt8) (l : List UInt8) : (splitL c l).length ≤ l.length + 1 := by
  induction l with
  | nil => simp [splitL]
  | cons a t ih =>
    unfold splitL
    split
    · simp; omega
    · split
      · simp
      · rename_i x xs e; rw [e] at ih; simp at *; omega
theorem splitL_le (c : UInt8) (l : List UInt8) : ∀ p ∈ splitL c l, p.length ≤ l.length := by
  induction l with
  | nil => intro p hp; simp [splitL] at hp; subst hp; simp
  | cons a t ih =>
    intro p hp
    unfold splitL at hp
    split at hp
    · rcases List.mem_cons.1 hp with rfl | hp
      · simp
      · have := ih p hp; simp; omega
    · split at hp
      · rename_i e; exact absurd e (splitL_ne c t)
      · rename_i x xs e
        rcases List.mem_cons.1 hp with rfl | hp
        · have := ih x (by rw [e]; simp); simp; omega
        · have := ih p (by rw [e]; simp [hp]); simp; omega
/-- Where a byte first stands in a string. -/
theorem ixL (s : ByteArray) (c : UInt8) : (Lib.indexB s ⟨#[c]⟩ = -1 ∧ c ∉ s.data.toList) ∨
    ∃ o : Nat, Lib.indexB s ⟨#[c]⟩ = o ∧ o < s.size ∧ s.data.toList = s.data.toList.take o ++ c :: s.data.toList.drop (o + 1) ∧ c ∉ s.data.toList.take o := by
  have e : Lib.indexB s ⟨#[c]⟩ = Lib.indexByte s.data.toList c := Lib.index_one s.data.toList c
  have hge := Lib.indexByte_ge s.data.toList c
  rw [e]
  rcases (show Lib.indexByte s.data.toList c = -1 ∨ 0 ≤ Lib.indexByte s.data.toList c by omega) with h | h
  · refine .inl ⟨h, fun hm => ?_⟩
    obtain ⟨k, hk⟩ := List.getElem?_of_mem hm
    exact Lib.indexByte_none h k hk
  · obtain ⟨h1, h2⟩ := Lib.indexByte_some (Int.toNat_of_nonneg h).symm
    have ho : (Lib.indexByte s.data.toList c).toNat < s.data.toList.length := (List.getElem?_eq_some_iff.1 h1).1
    refine .inr ⟨_, (Int.toNat_of_nonneg h).symm, by rw [← size_data]; exact ho, ?_, fun hm => ?_⟩
    · conv => lhs; rw [← List.take_append_drop (Lib.indexByte s.data.toList c).toNat s.data.toList]
      rw [List.drop_eq_getElem_cons ho, (List.getElem?_eq_some_iff.1 h1).2]
    · obtain ⟨k, hk⟩ := List.getElem?_of_mem hm
      have hlt : k < (Lib.indexByte s.data.toList c).toNat := by
        have := (List.getElem?_eq_some_iff.1 hk).1
        rw [List.length_take] at this
        omega
      rw [List.getElem?_take, if_pos hlt] at hk
      exact h2 k hlt hk

/-- What stands before the first byte c, and behind it. -/
def preL (c : UInt8) : List UInt8 → List UInt8
  | [] => []
  | a :: t => if a = c then [] else a :: preL c t
def posL (c : UInt8) : List UInt8 → List UInt8
  | [] => []
  | a :: t => if a = c then t else posL c t
theorem pre_hit {c : UInt8} {p r : List UInt8} (h : c ∉ p) : preL c (p ++ c :: r) = p ∧ posL c (p ++ c :: r) = r := by
  induction p with
  | nil => simp [preL, posL]
  | cons a t ih =>
    simp at h
    obtain ⟨i1, i2⟩ := ih h.2
    rw [List.cons_append]
    unfold preL posL
    rw [if_neg (fun e => h.1 e.symm), if_neg (fun e => h.1 e.symm), i1, i2]
    exact ⟨rfl, rfl⟩
theorem pre_none {c : UInt8} {p : List UInt8} (h : c ∉ p) : preL c p = p ∧ posL c p = [] := by
  induction p with
  | nil => simp [preL, posL]
  | cons a t ih =>
    simp at h
    obtain ⟨i1, i2⟩ := ih h.2
    unfold preL posL
    rw [if_neg (fun e => h.1 e.symm), if_neg (fun e => h.1 e.symm), i1, i2]
    exact ⟨rfl, rfl⟩
theorem pre_app {c : UInt8} {p : List UInt8} (h : c ∈ p) : p = preL c p ++ c :: posL c p ∧ c ∉ preL c p := by
  induction p with
  | nil => simp at h
  | cons a t ih =>
    unfold preL posL
    by_cases e : a = c
    · rw [if_pos e, if_pos e, e]; simp
    · rw [if_neg e, if_neg e]
      obtain ⟨i1, i2⟩ := ih (by simp at h; exact h.resolve_left (fun x => e x.symm))
      refine ⟨by rw [List.cons_append, ← i1], ?_⟩
      simp
      exact ⟨fun x => e x.symm, i2⟩
theorem splitL_pre {c : UInt8} {l : List UInt8} (h : c ∈ l) : splitL c l = preL c l :: splitL c (posL c l) := by
  obtain ⟨h1, h2⟩ := pre_app h
  conv => lhs; rw [h1]
  exact splitL_hit h2
theorem posL_len {c : UInt8} {l : List UInt8} (h : c ∈ l) : (posL c l).length < l.length := by
  have := congrArg List.length (pre_app h).1
  rw [List.length_append, List.length_cons] at this
  omega
/-- What is left behind k pieces. -/
def restN (c : UInt8) (l : List UInt8) : Nat → List UInt8
  | 0 => l
  | k + 1 => posL c (restN c l k)
theorem split_rest (c : UInt8) (l : List UInt8) : ∀ k, k < (splitL c l).length → splitL c l = (splitL c l).take k ++ splitL c (restN c l k) := by
  intro k
  induction k with
  | zero => intro _; rfl
  | succ k ih =>
    intro h
    have h1 := ih (by omega)
    by_cases hm : c ∈ restN c l k
    · rw [splitL_pre hm] at h1
      have h2 : (splitL c l).take (k + 1) = (splitL c l).take k ++ [preL c (restN c l k)] := by
        conv => lhs; rw [h1]
        rw [List.take_append]
        have : ((splitL c l).take k).length = k := by rw [List.length_take]; omega
        rw [this, List.take_of_length_le (by rw [this]; omega), show k + 1 - k = 1 by omega]
        rfl
      rw [h2, List.append_assoc]
      exact h1
    · rw [splitL_none hm] at h1
      have := congrArg List.length h1
      rw [List.length_append, List.length_take] at this
      simp at this
      omega
theorem split_take (c : UInt8) (l : List UInt8) (k : Nat) (h : k < (splitL c l).length) : (splitL c l).take (k + 1) = (splitL c l).take k ++ [preL c (restN c l k)] ∧ (c ∈ restN c l k → k + 1 < (splitL c l).length) ∧ (c ∉ restN c l k → k + 1 = (splitL c l).length) := by
  have h1 := split_rest c l k h
  have hk : ((splitL c l).take k).length = k := by rw [List.length_take]; omega
  have ht : ∀ p ps, splitL c (restN c l k) = p :: ps → (splitL c l).take (k + 1) = (splitL c l).take k ++ [p] := by
    intro p ps e
    rw [e] at h1
    conv => lhs; rw [h1]
    rw [List.take_append, hk, List.take_of_length_le (by rw [hk]; omega), show k + 1 - k = 1 by omega]
    rfl
  by_cases hm : c ∈ restN c l k
  · refine ⟨ht _ _ (splitL_pre hm), fun _ => ?_, fun h => absurd hm h⟩
    rw [splitL_pre hm] at h1
    have := congrArg List.length h1
    rw [List.length_append, hk, List.length_cons] at this
    have h2 : 0 < (splitL c (posL c (restN c l k))).length := List.length_pos_iff.2 (splitL_ne _ _)
    omega
  · rw [(pre_none hm).1]
    refine ⟨ht _ _ (splitL_none hm), fun h => absurd h hm, fun _ => ?_⟩
    rw [splitL_none hm] at h1
    have := congrArg List.length h1
    rw [List.length_append, hk] at this
    simp at this
    omega
theorem pos_len (c : UInt8) (l : List UInt8) : (posL c l).length ≤ l.length := by
  by_cases h : c ∈ l
  · have := posL_len h; omega
  · rw [(pre_none h).2]; exact Nat.zero_le _
theorem rest_len (c : UInt8) (l : List UInt8) (k : Nat) : (restN c l k).length ≤ l.length := by
  induction k with
  | zero => exact Nat.le_refl _
  | succ k ih => exact Nat.le_trans (pos_len c _) ih

theorem ext_pre (r : List UInt8) (c : UInt8) (o : Nat) (h : r = r.take o ++ c :: r.drop (o + 1)) (hn : c ∉ r.take o) : (mkB r).extract 0 o = mkB (preL c r) ∧ (mkB r).extract (o + 1) r.length = mkB (posL c r) ∧ c ∈ r := by
  have h1 : preL c r = r.take o := by conv => lhs; rw [h]
                                      exact (pre_hit hn).1
  have h2 : posL c r = r.drop (o + 1) := by conv => lhs; rw [h]
                                            exact (pre_hit hn).2
  refine ⟨?_, ?_, by rw [h]; simp⟩
  · apply str_ext
    rw [ext_take, mkB_data, mkB_data, h1]
  · apply str_ext
    rw [← mkB_size r, ext_end, mkB_data, mkB_data, h2]

end Go.Proofs.YtpicenopiigfpaaDoor
