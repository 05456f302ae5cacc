/-
  Rows of texts: how many there are, how many words they have; no program is in sight; no condition.
-/
import Derived.Test.YtpicenopiigfpaaDoorRwLw
namespace Go.Proofs.YtpicenopiigfpaaDoor
set_option linter.unusedVariables false
set_option linter.unusedSimpArgs false

theorem wordsL_len (f : Nat) : ∀ (o : Nat) (l : List UInt8) (ws : List Wd) (e : Nat), wordsL f o l = (some ws, e) → ws.length ≤ l.length ∧ ∀ d ∈ ws, d.t.size ≤ l.length := by
  induction f with
  | zero => intro o l ws e h; cases h; exact ⟨Nat.zero_le _, fun d hd => by cases hd⟩
  | succ f ih =>
    intro o l ws e h
    rw [wordsL_succ] at h
    cases e1 : l.drop (blN l) with
    | nil => rw [e1] at h; cases h; exact ⟨Nat.zero_le _, fun d hd => by cases hd⟩
    | cons c t =>
      rw [e1] at h
      dsimp only at h
      have hl := congrArg List.length e1
      rw [List.length_drop] at hl
      by_cases hc : c = 35
      · rw [if_pos hc] at h; cases h; exact ⟨Nat.zero_le _, fun d hd => by cases hd⟩
      · rw [if_neg hc] at h
        cases hr : readW (c :: t) with
        | none => rw [hr] at h; cases h
        | some r =>
          rw [hr] at h
          dsimp only at h
          have hle := readW_le _ r hr
          rcases e2 : wordsL f (o + blN l + r.2) ((c :: t).drop r.2) with ⟨_ | xs, x⟩
          · rw [e2] at h; cases h
          · rw [e2] at h
            cases h
            obtain ⟨h1, h2⟩ := ih _ _ _ _ e2
            rw [List.length_drop] at h1 h2
            refine ⟨by rw [List.length_cons]; omega, fun d hd => ?_⟩
            rcases List.mem_cons.1 hd with rfl | hd
            · show (mkB r.1).size ≤ _
              rw [mkB_size]; omega
            · have := h2 d hd; omega
theorem rowsF_len : ∀ (ps : List (List UInt8)) (o : Nat) (rs : List Rw) (e : Int × Int), rowsF o ps = (some rs, e) → rs.length ≤ ps.length ∧ ∀ r ∈ rs, ∃ p ∈ ps, r.w.length ≤ p.length ∧ ∀ d ∈ r.w, d.t.size ≤ p.length
  | [], o, rs, e, h => by cases h; exact ⟨Nat.le_refl _, fun r hr => by cases hr⟩
  | p :: ps, o, rs, e, h => by
    by_cases hp : 1000 < p.length
    · rw [rowsF_long hp] at h; cases h
    · rcases e1 : lineL o p with ⟨_ | ws, x⟩
      · rw [rowsF_bad hp e1] at h; cases h
      · rw [rowsF_line hp e1] at h
        rcases e2 : rowsF (o + p.length + 1) ps with ⟨_ | ys, y⟩
        · rw [e2] at h; cases h
        · rw [e2] at h
          cases h
          obtain ⟨h1, h2⟩ := rowsF_len ps _ _ _ e2
          obtain ⟨h3, h4⟩ := wordsL_len _ _ _ _ _ e1
          have hro : (rowOf o ws).length ≤ 1 ∧ ∀ r ∈ rowOf o ws, r.w = ws := by
            unfold rowOf
            split
            · exact ⟨Nat.zero_le _, fun r hr => by cases hr⟩
            · exact ⟨Nat.le_refl _, fun r hr => by simp at hr; rw [hr]⟩
          refine ⟨by rw [List.length_append, List.length_cons]; omega, fun r hr => ?_⟩
          rcases List.mem_append.1 hr with hr | hr
          · exact ⟨p, by simp, by rw [hro.2 r hr]; exact ⟨h3, h4⟩⟩
          · obtain ⟨q, hq, h5⟩ := h2 r hr
            exact ⟨q, by simp [hq], h5⟩
theorem rowsR_len (l : List UInt8) {rs : List Rw} {e : Int × Int} (h : rowsR l = (some rs, e)) : rs.length ≤ l.length + 1 ∧ ∀ r ∈ rs, r.w.length ≤ l.length ∧ ∀ d ∈ r.w, d.t.size ≤ l.length := by
  unfold rowsR at h
  by_cases hl : 20000 < l.length
  · rw [if_pos hl] at h; cases h
  · rw [if_neg hl] at h
    obtain ⟨h1, h2⟩ := rowsF_len _ _ _ _ h
    refine ⟨Nat.le_trans h1 (splitL_len 10 l), fun r hr => ?_⟩
    obtain ⟨p, hp, h3, h4⟩ := h2 r hr
    have := splitL_le 10 l p hp
    exact ⟨by omega, fun d hd => by have := h4 d hd; omega⟩
theorem rowsV_len (l : List UInt8) : (rowsV l).length ≤ l.length + 1 ∧ ∀ r ∈ rowsV l, r.w.length ≤ l.length ∧ ∀ d ∈ r.w, d.t.size ≤ l.length := by
  unfold rowsV
  rcases e : rowsR l with ⟨_ | rs, x⟩
  · exact ⟨Nat.zero_le _, fun r hr => by cases hr⟩
  · exact rowsR_len l e
end Go.Proofs.YtpicenopiigfpaaDoor
