/-
  Rows of texts: what is written is read back; no program is in sight; no condition.
-/
import Derived.Test.YtpicenopiigfpaaDoorRwPl
namespace Go.Proofs.YtpicenopiigfpaaDoor
set_option linter.unusedVariables false
set_option linter.unusedSimpArgs false

theorem hexl_ok : ∀ c : UInt8, 0 ≤ hexv (hexl (c.toNat / 16)) ∧ 0 ≤ hexv (hexl (c.toNat % 16)) ∧ escV (hexl (c.toNat / 16)) (hexl (c.toNat % 16)) = c :=
  fun c => u8_all (p := fun c => 0 ≤ hexv (hexl (c.toNat / 16)) ∧ 0 ≤ hexv (hexl (c.toNat % 16)) ∧ escV (hexl (c.toNat / 16)) (hexl (c.toNat % 16)) = c) (by decide +kernel) c
theorem wr1_all : ∀ c : UInt8, (wr1 c).all (fun x => decide (32 ≤ x.toNat) && decide (x.toNat ≤ 126)) = true ∧ 1 ≤ (wr1 c).length ∧ (wr1 c).length ≤ 4 :=
  fun c => u8_all (p := fun c => (wr1 c).all (fun x => decide (32 ≤ x.toNat) && decide (x.toNat ≤ 126)) = true ∧ 1 ≤ (wr1 c).length ∧ (wr1 c).length ≤ 4) (by decide +kernel) c
theorem wrQ_nil : wrQ [] = [] := rfl
theorem wrQ_cons (c : UInt8) (t : List UInt8) : wrQ (c :: t) = wr1 c ++ wrQ t := by simp [wrQ]
theorem wrQ_snoc (t : List UInt8) (c : UInt8) : wrQ (t ++ [c]) = wrQ t ++ wr1 c := by simp [wrQ]
theorem wrQ_len (l : List UInt8) : l.length ≤ (wrQ l).length ∧ (wrQ l).length ≤ 4 * l.length := by
  induction l with
  | nil => exact ⟨Nat.le_refl _, Nat.le_refl _⟩
  | cons c t ih => obtain ⟨_, h1, h2⟩ := wr1_all c; rw [wrQ_cons, List.length_append, List.length_cons]; omega
theorem wrQ_all (l : List UInt8) : (wrQ l).all (fun x => decide (32 ≤ x.toNat) && decide (x.toNat ≤ 126)) = true := by
  induction l with
  | nil => rfl
  | cons c t ih => rw [wrQ_cons, List.all_append, (wr1_all c).1, ih]; rfl
theorem quo_wrQ (l u : List UInt8) : quo (wrQ l ++ 34 :: u) = some (l, (wrQ l).length + 1) := by
  induction l with
  | nil => rw [wrQ_nil, List.nil_append, quo_end]; rfl
  | cons c t ih =>
    rw [wrQ_cons, List.append_assoc, List.length_append]
    unfold wr1
    by_cases h1 : c = 34 ∨ c = 92
    · rw [if_pos h1]
      show quo (92 :: c :: (wrQ t ++ 34 :: u)) = _
      rw [quo_esc h1, ih]
      show some (c :: t, (wrQ t).length + 1 + 2) = some (c :: t, 2 + (wrQ t).length + 1)
      congr 2; omega
    · rw [if_neg h1]
      by_cases h2 : 32 ≤ c.toNat ∧ c.toNat ≤ 126
      · rw [if_pos h2]
        show quo (c :: (wrQ t ++ 34 :: u)) = _
        rw [quo_plain (fun e => h1 (.inl e)) (fun e => h1 (.inr e)) h2, ih]
        show some (c :: t, (wrQ t).length + 1 + 1) = some (c :: t, 1 + (wrQ t).length + 1)
        congr 2; omega
      · rw [if_neg h2]
        obtain ⟨a1, a2, a3⟩ := hexl_ok c
        show quo (92 :: 120 :: hexl (c.toNat / 16) :: hexl (c.toNat % 16) :: (wrQ t ++ 34 :: u)) = _
        rw [quo_hex ⟨a1, a2⟩, ih, a3]
        show some (c :: t, (wrQ t).length + 1 + 4) = some (c :: t, 4 + (wrQ t).length + 1)
        congr 2; omega
theorem barN_all {l u : List UInt8} (h : l.all bareC = true) (hu : endL u = true) : barN (l ++ u) = l.length := by
  induction l with
  | nil =>
    cases u with
    | nil => rfl
    | cons c t =>
      show barN (c :: t) = 0
      unfold barN
      have : bareC c = false := by
        cases e : bareC c
        · rfl
        · have h1 := bar_bl e
          have h2 : isBl c = true := hu
          rw [h1] at h2; cases h2
      rw [this, if_neg (by decide)]
  | cons c t ih =>
    rw [List.all_cons, Bool.and_eq_true] at h
    show barN (c :: (t ++ u)) = _
    unfold barN
    rw [h.1, if_pos rfl, ih h.2, List.length_cons]
/-- A written word is read, whatever blank or end stands behind it. -/
theorem readW_wr (l u : List UInt8) (hu : endL u = true) : readW (wrW l ++ u) = some (l, (wrW l).length) ∧ ∃ c t, wrW l = c :: t ∧ isBl c = false ∧ c ≠ 35 ∧ (c = 34 ↔ bareW l = false) := by
  unfold wrW
  cases hb : bareW l
  · rw [if_neg (by decide)]
    refine ⟨?_, 34, wrQ l ++ [34], rfl, by decide, by decide, by simp⟩
    show readQ ((wrQ l ++ [34]) ++ u) = _
    unfold readQ
    rw [List.append_assoc, List.singleton_append, quo_wrQ]
    show (if endL ((wrQ l ++ 34 :: u).drop ((wrQ l).length + 1)) = true then some (l, (wrQ l).length + 1 + 1) else none) = _
    have e : (wrQ l ++ 34 :: u).drop ((wrQ l).length + 1) = u := by
      rw [← List.drop_drop, List.drop_left]; rfl
    rw [e, if_pos hu, List.length_cons, List.length_append, List.length_singleton]
  · rw [if_pos rfl]
    have hb2 := hb
    unfold bareW at hb2
    simp only [Bool.and_eq_true, decide_eq_true_eq] at hb2
    obtain ⟨⟨h1, h2⟩, h3⟩ := hb2
    cases l with
    | nil => exact absurd rfl h1
    | cons c t =>
      have hc : bareC c = true := by rw [List.all_cons, Bool.and_eq_true] at h2; exact h2.1
      have hne : c ≠ 34 := by rintro rfl; revert hc; decide
      refine ⟨?_, c, t, rfl, bar_bl hc, fun e => h3 (by rw [e]; rfl), by simp [hne]⟩
      show (if c = 34 then readQ (t ++ u) else readB (c :: (t ++ u))) = _
      rw [if_neg hne]
      have hn := barN_all h2 hu
      rw [List.cons_append] at hn
      unfold readB
      rw [hn]
      have e1 : (c :: (t ++ u)).drop (c :: t).length = u := by rw [← List.cons_append, List.drop_left]
      have e2 : (c :: (t ++ u)).take (c :: t).length = c :: t := by rw [← List.cons_append, List.take_left]
      rw [e1, e2, if_pos ⟨by simp, hu⟩]
theorem blN_head {c : UInt8} {t : List UInt8} (h : isBl c = false) : blN (c :: t) = 0 := by unfold blN; rw [h, if_neg (by decide)]
/-- The next word of a line is a written one. -/
theorem lineL_wr (o : Nat) (l u : List UInt8) (hu : endL u = true) : lineL o (wrW l ++ u) = consW ⟨o, mkB l, !bareW l⟩ (lineL (o + (wrW l).length) u) := by
  obtain ⟨h1, c, t, h2, h3, h4, h5⟩ := readW_wr l u hu
  have hb : blN (wrW l ++ u) = 0 := by rw [h2]; exact blN_head h3
  have hd : (wrW l ++ u).drop (blN (wrW l ++ u)) = c :: (t ++ u) := by rw [hb, h2]; rfl
  rw [lineL_word hd h4]
  rw [show c :: (t ++ u) = wrW l ++ u by rw [h2]; rfl, h1, hb, Nat.add_zero]
  show consW ⟨o, mkB l, decide (c = 34)⟩ (lineL (o + (wrW l).length) ((wrW l ++ u).drop (wrW l).length)) = _
  rw [List.drop_left]
  congr 2
  cases hb2 : bareW l
  · simp [h5.2 hb2]
  · have : c ≠ 34 := fun e => by rw [h5.1 e] at hb2; cases hb2
    simp [this]
theorem lineL_nil (o : Nat) : lineL o [] = (some [], 0) := lineL_done (.inl rfl)
theorem wrW_all (l : List UInt8) : (wrW l).all (fun x => decide (32 ≤ x.toNat) && decide (x.toNat ≤ 126)) = true := by
  unfold wrW
  cases hb : bareW l
  · rw [if_neg (by decide), List.all_cons, List.all_append, wrQ_all]; rfl
  · rw [if_pos rfl]
    unfold bareW at hb
    simp only [Bool.and_eq_true, decide_eq_true_eq] at hb
    rw [List.all_eq_true]
    intro x hx
    have := List.all_eq_true.1 hb.1.2 x hx
    unfold bareC at this
    simp only [Bool.and_eq_true, decide_eq_true_eq] at this ⊢
    omega
theorem no_line {l : List UInt8} (h : l.all (fun x => decide (32 ≤ x.toNat) && decide (x.toNat ≤ 126)) = true) : (10 : UInt8) ∉ l := by
  intro hm
  have := List.all_eq_true.1 h 10 hm
  revert this; decide
theorem wrW_len (l : List UInt8) : (wrW l).length ≤ 4 * l.length + 2 := by
  unfold wrW
  split
  · omega
  · have := wrQ_len l
    rw [List.length_cons, List.length_append, List.length_singleton]; omega
/-- What is written is one row with one word. -/
theorem written_law (l : List UInt8) (h : l.length ≤ 200) : rowsR (wrW l) = (some [⟨0, [⟨0, mkB l, !bareW l⟩]⟩], 0, 0) := by
  have hl := wrW_len l
  unfold rowsR
  rw [if_neg (by omega), splitL_none (no_line (wrW_all l))]
  have e : lineL 0 (wrW l) = (some [⟨0, mkB l, !bareW l⟩], 0) := by
    have := lineL_wr 0 l [] rfl
    rw [List.append_nil, lineL_nil] at this
    exact this
  rw [rowsF_line (by omega) e]
  unfold rowOf rowsF
  rw [if_neg (by simp)]
  rfl
theorem wrW_same (l : List UInt8) : wrW l = l ↔ bareW l = true := by
  unfold wrW
  cases hb : bareW l
  · rw [if_neg (by decide)]
    constructor
    · intro h
      have := congrArg List.length h
      have h2 := wrQ_len l
      rw [List.length_cons, List.length_append, List.length_singleton] at this
      omega
    · intro h; cases h
  · rw [if_pos rfl]; simp
theorem wrW_inj {l m : List UInt8} (h : wrW l = wrW m) : l = m := by
  have h1 := (readW_wr l [] rfl).1
  have h2 := (readW_wr m [] rfl).1
  rw [h] at h1
  rw [h1] at h2
  have := Option.some.inj h2
  exact (Prod.mk.inj this).1
end Go.Proofs.YtpicenopiigfpaaDoor
