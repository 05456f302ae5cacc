/-
  Texts of rows: how far a writer has come; no program is in sight; no condition.
-/
import Derived.Test.YtpicenopiigfpaaDoorRwBl
namespace Go.Proofs.YtpicenopiigfpaaDoor
set_option linter.unusedVariables false
set_option linter.unusedSimpArgs false

theorem lineW_nil : lineW [] = [] := rfl
theorem lineW_snoc : ∀ (l : List ByteArray) (t : ByteArray), lineW (l ++ [t]) = if l = [] then wrW t.data.toList else lineW l ++ 32 :: wrW t.data.toList
  | [], t => by rw [if_pos rfl]; exact lineW_one t
  | [a], t => by rw [if_neg (by simp), List.singleton_append, lineW_cons, lineW_one, lineW_one]
  | a :: b :: l, t => by
    have h := lineW_snoc (b :: l) t
    rw [if_neg (by simp)] at h ⊢
    rw [List.cons_append, List.cons_append, lineW_cons, ← List.cons_append, h, lineW_cons, List.append_assoc]; rfl
theorem lineW_len (m : Nat) : ∀ ws : List ByteArray, (∀ t ∈ ws, t.size ≤ m) → (lineW ws).length ≤ ws.length * (4 * m + 3)
  | [], _ => Nat.zero_le _
  | [t], h => by
    have h1 := wrW_len t.data.toList
    rw [size_data] at h1
    have := h t (by simp)
    rw [lineW_one, List.length_singleton]; omega
  | t :: u :: ws, h => by
    have h1 := wrW_len t.data.toList
    rw [size_data] at h1
    have h2 := h t (by simp)
    have h3 := lineW_len m (u :: ws) (fun x hx => h x (by simp at hx ⊢; exact .inr hx))
    rw [lineW_cons, List.length_append, List.length_cons, List.length_cons]
    rw [Nat.add_mul, Nat.one_mul]
    omega
/-- The texts of rows. -/
def txR (rs : List Rw) : List (List ByteArray) := rs.map fun r => r.w.map (·.t)
/-- How far a writer has come. -/
def TAt (rs : List Rw) (k : Nat) (out : List UInt8) : Prop := k ≤ rs.length ∧ out.length ≤ 20000 ∧ textF (txR rs) [] = textF (txR (rs.drop k)) out
theorem TAt.start (rs : List Rw) : TAt rs 0 [] := ⟨Nat.zero_le _, by simp, by rw [List.drop_zero]⟩
theorem TAt.over {rs : List Rw} {k : Nat} {out : List UInt8} (h : TAt rs k out) (hk : ¬ k < rs.length) : textF (txR rs) [] = (some out, 0) := by
  rw [h.2.2, List.drop_eq_nil_of_le (by omega)]; rfl
theorem txR_at {rs : List Rw} {k : Nat} {r : Rw} (hr : rs[k]? = some r) : txR (rs.drop k) = r.w.map (·.t) :: txR (rs.drop (k + 1)) := by
  have hk := (List.getElem?_eq_some_iff.1 hr).1
  rw [List.drop_eq_getElem_cons hk, (List.getElem?_eq_some_iff.1 hr).2]; rfl
theorem TAt.noW {rs : List Rw} {k : Nat} {out : List UInt8} {r : Rw} (h : TAt rs k out) (hr : rs[k]? = some r) (hw : r.w = []) : textF (txR rs) [] = (none, 3) := by
  rw [h.2.2, txR_at hr, textF_cons, if_pos (by rw [hw]; rfl)]
theorem TAt.long {rs : List Rw} {k : Nat} {out : List UInt8} {r : Rw} (h : TAt rs k out) (hr : rs[k]? = some r) (hw : r.w ≠ [])
    (hl : 1000 < (lineW (r.w.map (·.t))).length ∨ 20000 < out.length + (lineW (r.w.map (·.t))).length + 1) : textF (txR rs) [] = (none, 4) := by
  rw [h.2.2, txR_at hr, textF_cons, if_neg (by simpa using hw), if_pos hl]
theorem TAt.line {rs : List Rw} {k : Nat} {out : List UInt8} {r : Rw} (h : TAt rs k out) (hr : rs[k]? = some r) (hw : r.w ≠ [])
    (hl : ¬ (1000 < (lineW (r.w.map (·.t))).length ∨ 20000 < out.length + (lineW (r.w.map (·.t))).length + 1)) : TAt rs (k + 1) (out ++ lineW (r.w.map (·.t)) ++ [10]) := by
  have hk := (List.getElem?_eq_some_iff.1 hr).1
  refine ⟨hk, by simp only [List.length_append, List.length_singleton]; omega, ?_⟩
  rw [h.2.2, txR_at hr, textF_cons, if_neg (by simpa using hw), if_neg hl]
/-- The words of a line that are written. -/
def preT (r : Rw) (j : Nat) : List UInt8 := lineW ((r.w.take j).map (·.t))
theorem preT_zero (r : Rw) : preT r 0 = [] := by unfold preT; rw [List.take_zero]; rfl
theorem preT_all (r : Rw) {j : Nat} (h : ¬ j < r.w.length) : preT r j = lineW (r.w.map (·.t)) := by unfold preT; rw [List.take_of_length_le (by omega)]
theorem preT_first {r : Rw} {d : Wd} (hd : r.w[0]? = some d) : preT r 1 = wrW d.t.data.toList := by
  unfold preT
  rw [List.take_add_one, hd]
  exact lineW_one d.t
theorem preT_next {r : Rw} {j : Nat} {d : Wd} (hj : 0 < j) (hd : r.w[j]? = some d) : preT r (j + 1) = preT r j ++ 32 :: wrW d.t.data.toList := by
  unfold preT
  rw [List.take_add_one, hd, List.map_append]
  have hk := (List.getElem?_eq_some_iff.1 hd).1
  show lineW (_ ++ [d.t]) = _
  rw [lineW_snoc, if_neg (by
    intro e
    have := congrArg List.length e
    rw [List.length_map, List.length_take, List.length_nil] at this
    omega)]
theorem preT_len {r : Rw} (m j : Nat) (h : ∀ d ∈ r.w, d.t.size ≤ m) : (preT r j).length ≤ r.w.length * (4 * m + 3) := by
  unfold preT
  have h1 := lineW_len m ((r.w.take j).map (·.t)) (fun t ht => by
    obtain ⟨d, hd, rfl⟩ := List.mem_map.1 ht
    exact h d (List.mem_of_mem_take hd))
  rw [List.length_map, List.length_take] at h1
  exact Nat.le_trans h1 (Nat.mul_le_mul_right _ (Nat.min_le_right _ _))
theorem textF_errs (rs : List (List ByteArray)) (out : List UInt8) : (∃ s, textF rs out = (some s, 0)) ∨ textF rs out = (none, 3) ∨ textF rs out = (none, 4) := by
  induction rs generalizing out with
  | nil => exact .inl ⟨out, rfl⟩
  | cons r rs ih =>
    rw [textF_cons]
    split
    · exact .inr (.inl rfl)
    · split
      · exact .inr (.inr rfl)
      · exact ih _
end Go.Proofs.YtpicenopiigfpaaDoor
