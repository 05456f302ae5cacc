/-
  Queries: the plain laws: encodings are read back, pairs are read back, two queries; no program is in sight; no condition.
-/
import Derived.Test.YtfbkbnojbbpopaaDoorQyFn
namespace Go.Proofs.YtfbkbnojbbpopaaDoor
set_option linter.unusedVariables false
set_option linter.unusedSimpArgs false

theorem u8_all2 {p : UInt8 → Prop} [DecidablePred p] (h : ∀ n : Nat, n < 256 → p n.toUInt8) (c : UInt8) : p c := u8_all h c
theorem hexd_ok : ∀ c : UInt8, 0 ≤ hexv (hexd (c.toNat / 16)) ∧ 0 ≤ hexv (hexd (c.toNat % 16)) ∧ escV (hexd (c.toNat / 16)) (hexd (c.toNat % 16)) = c :=
  fun c => u8_all (p := fun c => 0 ≤ hexv (hexd (c.toNat / 16)) ∧ 0 ≤ hexv (hexd (c.toNat % 16)) ∧ escV (hexd (c.toNat / 16)) (hexd (c.toNat % 16)) = c) (by decide +kernel) c
theorem st_pct : ∀ c : UInt8, stB c = true → c ≠ 37 ∧ c ≠ 38 ∧ c ≠ 61 ∧ okQ c = true :=
  fun c => u8_all (p := fun c => stB c = true → c ≠ 37 ∧ c ≠ 38 ∧ c ≠ 61 ∧ okQ c = true) (by decide +kernel) c
theorem enc1_all : ∀ c : UInt8, (enc1 c).all okQ = true ∧ 38 ∉ enc1 c ∧ 61 ∉ enc1 c ∧ enc1 c ≠ [] ∧ (enc1 c).all litC = true :=
  fun c => u8_all (p := fun c => (enc1 c).all okQ = true ∧ 38 ∉ enc1 c ∧ 61 ∉ enc1 c ∧ enc1 c ≠ [] ∧ (enc1 c).all litC = true) (by decide +kernel) c
theorem scan_enc1 (c : UInt8) (t : List UInt8) : (scan (enc1 c ++ t)).1 = c :: (scan t).1 ∧ (scan (enc1 c ++ t)).2.1 = (scan t).2.1 + (enc1 c).length := by
  unfold enc1
  by_cases h : stB c = true
  · rw [if_pos h, List.singleton_append, scan_plain _ _ (st_pct c h).1]
    exact ⟨rfl, rfl⟩
  · rw [if_neg h]
    obtain ⟨h1, h2, h3⟩ := hexd_ok c
    rw [List.cons_append, List.cons_append, List.cons_append, List.nil_append, scan_esc _ _ _ ⟨h1, h2⟩, h3]
    exact ⟨rfl, rfl⟩
theorem scan_encQ (l : List UInt8) : (scan (encQ l)).1 = l ∧ (scan (encQ l)).2.1 = (encQ l).length := by
  induction l with
  | nil => rw [encQ_nil, scan_nil]; exact ⟨rfl, rfl⟩
  | cons c t ih =>
    rw [encQ_cons]
    obtain ⟨h1, h2⟩ := scan_enc1 c (encQ t)
    rw [h1, h2, ih.1, ih.2, List.length_append]
    exact ⟨rfl, by omega⟩
theorem okL_encQ (l : List UInt8) : okL (encQ l) := (scan_encQ l).2
theorem okS_encQ (l : List UInt8) : okS (mkB (encQ l)) := okS_L.2 (by rw [mkB_data]; exact okL_encQ l)
theorem rOut_ok {s : ByteArray} (h : okS s) : rOut s = mkB (scan s.data.toList).1 := by unfold rOut; rw [if_pos h]; rfl
theorem rOut_encQ (l : List UInt8) : rOut (mkB (encQ l)) = mkB l := by
  rw [rOut_ok (okS_encQ l), mkB_data, (scan_encQ l).1]
theorem encQ_inj {a b : List UInt8} (h : encQ a = encQ b) : a = b := by rw [← (scan_encQ a).1, h, (scan_encQ b).1]
theorem encQ_ok (l : List UInt8) : (encQ l).all okQ = true ∧ 38 ∉ encQ l ∧ 61 ∉ encQ l ∧ (encQ l).all litC = true := by
  induction l with
  | nil => simp [encQ]
  | cons c t ih =>
    obtain ⟨h1, h2, h3, _, h4⟩ := enc1_all c
    obtain ⟨i1, i2, i3, i4⟩ := ih
    rw [encQ_cons, List.all_append, List.all_append, h1, h4, i1, i4, List.mem_append, List.mem_append]
    exact ⟨rfl, fun h => h.elim h2 i2, fun h => h.elim h3 i3, rfl⟩
theorem encQ_empty {l : List UInt8} (h : encQ l = []) : l = [] := by
  cases l with
  | nil => rfl
  | cons c t =>
    rw [encQ_cons] at h
    exact absurd (List.append_eq_nil_iff.1 h).1 (enc1_all c).2.2.2.1
theorem litB_encQ (l : List UInt8) : litB (encQ l) = true := by
  unfold litB
  rw [decide_eq_true (okL_encQ l), (encQ_ok l).2.2.2]; rfl

/-! The whole is said to its end just where its pieces are. -/
theorem okL_cut {c : UInt8} (h1 : c ≠ 37) (h2 : ¬ 0 ≤ hexv c) (a b : List UInt8) : okL (a ++ c :: b) ↔ okL a ∧ okL b := by
  induction a using scan_ind with
  | h0 => rw [List.nil_append, okL_plain h1]; exact ⟨fun h => ⟨okL_nil, h⟩, fun h => h.2⟩
  | h1 a t ha ih => rw [List.cons_append, okL_plain ha, okL_plain ha]; exact ih
  | h2 x y u hx hy ih => rw [List.cons_append, List.cons_append, List.cons_append, okL_esc hx hy, okL_esc hx hy]; exact ih
  | h3 t he =>
    have : escL (37 :: t ++ c :: b) = false := by
      match t, he with
      | [], _ =>
        show escL (37 :: c :: b) = false
        cases b with
        | nil => rfl
        | cons z b => rw [escL_three, decide_eq_false h2]; simp
      | [y], _ => show escL (37 :: y :: c :: b) = false; rw [escL_three, decide_eq_false h2]; simp
      | y :: z :: u, he => rw [escL_three] at he; show escL (37 :: y :: z :: (u ++ c :: b)) = false; rw [escL_three]; exact he
    constructor
    · intro h; exact absurd h (okL_bad this)
    · intro h; exact absurd h.1 (okL_bad he)
theorem splitL_pre {c : UInt8} {l : List UInt8} (h : c ∈ l) : splitL c l = preL c l :: splitL c (posL c l) := by
  obtain ⟨h1, h2⟩ := pre_app h
  conv => lhs; rw [h1]
  exact splitL_hit h2
theorem posL_len {c : UInt8} {l : List UInt8} (h : c ∈ l) : (posL c l).length < l.length := by
  have := congrArg List.length (pre_app h).1
  rw [List.length_append, List.length_cons] at this
  omega
theorem okL_split {c : UInt8} (h1 : c ≠ 37) (h2 : ¬ 0 ≤ hexv c) : ∀ (n : Nat) (l : List UInt8), l.length ≤ n → (okL l ↔ ∀ p ∈ splitL c l, okL p) := by
  intro n
  induction n with
  | zero =>
    intro l hl
    obtain rfl : l = [] := List.eq_nil_of_length_eq_zero (by omega)
    simp [splitL]
  | succ n ih =>
    intro l hl
    by_cases hm : c ∈ l
    · rw [splitL_pre hm]
      have := posL_len hm
      conv => lhs; rw [(pre_app hm).1]
      rw [okL_cut h1 h2, ih (posL c l) (by omega)]
      simp
    · rw [splitL_none hm]; simp
theorem okP_pair (p : List UInt8) : okP (pairOf p) = decide (okL p) := by
  unfold okP pairOf
  rw [← Bool.decide_and, decide_eq_decide]
  show okS (mkB (preL 61 p)) ∧ okS (mkB (posL 61 p)) ↔ okL p
  rw [okS_L, okS_L, mkB_data, mkB_data]
  by_cases hm : 61 ∈ p
  · conv => rhs; rw [(pre_app hm).1]
    exact (okL_cut (by decide) (by decide) _ _).symm
  · rw [(pre_none hm).1, (pre_none hm).2]
    exact ⟨fun h => h.1, fun h => ⟨h, okL_nil⟩⟩
theorem okP_all (l : List UInt8) : (pairsL l).all okP = decide (okL l) := by
  unfold pairsL
  rw [Bool.eq_iff_iff, decide_eq_true_eq, okL_split (c := 38) (by decide) (by decide) _ l (Nat.le_refl _), List.all_eq_true]
  constructor
  · intro h p hp
    cases hp0 : p with
    | nil => exact okL_nil
    | cons a t =>
      rw [← hp0]
      have := h (pairOf p) (List.mem_map.2 ⟨p, List.mem_filter.2 ⟨hp, by rw [hp0]; rfl⟩, rfl⟩)
      rw [okP_pair] at this
      exact of_decide_eq_true this
  · intro h x hx
    obtain ⟨p, hp, rfl⟩ := List.mem_map.1 hx
    rw [okP_pair]
    exact decide_eq_true (h p (List.mem_filter.1 hp).1)

/-! What Join makes is read back. -/
theorem part_ok (p : Pr) : (partL p).all okQ = true ∧ 38 ∉ partL p := by
  unfold partL
  obtain ⟨h1, h2, _, _⟩ := encQ_ok p.n.data.toList
  obtain ⟨i1, i2, _, _⟩ := encQ_ok p.v.data.toList
  cases p.b
  · simp only [Bool.false_eq_true, if_false, List.all_append, List.all_cons, h1, i1, List.mem_append, List.mem_cons]
    exact ⟨by decide, by rintro (h | h | h); exact h2 h; exact absurd h (by decide); exact i2 h⟩
  · simp only [if_true, List.append_nil]
    exact ⟨h1, h2⟩
theorem size_zero {s : ByteArray} (h : s.size = 0) : s = mkB [] := empty_of_size h
theorem part_pair {p : Pr} (h : badP p = false) : pairOf (partL p) = ⟨mkB (encQ p.n.data.toList), mkB (encQ p.v.data.toList), p.b⟩ ∧ partL p ≠ [] := by
  unfold badP at h
  unfold partL pairOf
  have hn := (encQ_ok p.n.data.toList).2.2.1
  cases hb : p.b
  · simp only [Bool.false_eq_true, if_false]
    rw [(pre_hit hn).1, (pre_hit hn).2]
    exact ⟨by simp, by simp⟩
  · rw [hb] at h
    simp only [Bool.true_and, Bool.or_eq_false_iff, decide_eq_false_iff_not, Bool.not_eq_false', decide_eq_true_eq] at h
    simp only [if_true, List.append_nil]
    have hv : p.v.data.toList = [] := List.eq_nil_of_length_eq_zero (by rw [size_data]; exact h.2)
    rw [(pre_none hn).1, (pre_none hn).2, hv, encQ_nil]
    refine ⟨by simp [hn], fun e => h.1 ?_⟩
    rw [← size_data, encQ_empty e]; rfl
theorem dec_part {p : Pr} (h : badP p = false) : decP (pairOf (partL p)) = p := by
  rw [(part_pair h).1]
  unfold decP
  show Pr.mk (rOut (mkB (encQ p.n.data.toList))) (rOut (mkB (encQ p.v.data.toList))) p.b = p
  rw [rOut_encQ, rOut_encQ, mkB_of, mkB_of]
theorem ok_part {p : Pr} (h : badP p = false) : okP (pairOf (partL p)) = true := by
  rw [(part_pair h).1]
  unfold okP
  show (decide (okS (mkB (encQ p.n.data.toList))) && decide (okS (mkB (encQ p.v.data.toList)))) = true
  rw [decide_eq_true (okS_encQ _), decide_eq_true (okS_encQ _)]; rfl
theorem joinL_nil : joinL [] = [] := rfl
theorem joinL_one (p : Pr) : joinL [p] = partL p := Lib.join_one _ _
theorem joinL_cons (p q : Pr) (r : List Pr) : joinL (p :: q :: r) = partL p ++ 38 :: joinL (q :: r) := by
  unfold joinL
  rw [List.map_cons, List.map_cons, Lib.join_cons, Lib.join_cons]
  unfold Lib.joinTail
  rw [List.map_cons, List.flatten_cons]
  simp
theorem joinL_snoc (l : List Pr) (p : Pr) (h : l ≠ []) : joinL (l ++ [p]) = joinL l ++ 38 :: partL p := by
  induction l with
  | nil => exact absurd rfl h
  | cons x t ih =>
    cases t with
    | nil => rw [List.cons_append, List.nil_append, joinL_cons, joinL_one, joinL_one]
    | cons y u =>
      rw [List.cons_append, List.cons_append, joinL_cons, joinL_cons]
      have := ih (by simp)
      rw [List.cons_append] at this
      rw [this]; simp
theorem split_join (l : List Pr) (h : l ≠ []) : splitL 38 (joinL l) = l.map partL := by
  induction l with
  | nil => exact absurd rfl h
  | cons x t ih =>
    cases t with
    | nil => rw [joinL_one, splitL_none (part_ok x).2]; rfl
    | cons y u => rw [joinL_cons, splitL_hit (part_ok x).2, ih (by simp)]; rfl
theorem join_ok (l : List Pr) : (joinL l).all okQ = true := by
  induction l with
  | nil => rfl
  | cons x t ih =>
    cases t with
    | nil => rw [joinL_one]; exact (part_ok x).1
    | cons y u => rw [joinL_cons, List.all_append, List.all_cons, (part_ok x).1, ih]; decide
theorem any_bad {l : List Pr} (h : l.any badP = false) : ∀ p ∈ l, badP p = false := by
  intro p hp
  cases e : badP p
  · rfl
  · rw [List.any_eq_true.2 ⟨p, hp, e⟩] at h; cases h
theorem joinE_zero {l : List Pr} (h : joinE l = 0) : l.any badP = false ∧ (joinL l).length ≤ 128 := by
  unfold joinE at h
  split at h
  · cases h
  · split at h
    · cases h
    · exact ⟨by rename_i h1 h2; simpa using h1, by omega⟩
theorem join_pairs {l : List Pr} (h : l.any badP = false) : pairsL (joinL l) = l.map (fun p => pairOf (partL p)) := by
  unfold pairsL
  cases l with
  | nil => rfl
  | cons x t =>
    rw [split_join _ (by simp), List.filter_eq_self.2 ?_, List.map_map]
    · rfl
    · intro p hp
      obtain ⟨y, hy, rfl⟩ := List.mem_map.1 hp
      have := (part_pair (any_bad h y hy)).2
      cases e : partL y with
      | nil => exact absurd e this
      | cons => rfl
theorem back_law {l : List Pr} (h : joinE l = 0) : decE (joinL l) = 0 ∧ decL (joinL l) = l := by
  obtain ⟨h1, h2⟩ := joinE_zero h
  have hc := chkL_ok h2 (join_ok l)
  have hp := join_pairs h1
  have ha : (pairsL (joinL l)).all okP = true := by
    rw [hp, List.all_eq_true]
    intro x hx
    obtain ⟨y, hy, rfl⟩ := List.mem_map.1 hx
    exact ok_part (any_bad h1 y hy)
  obtain ⟨e1, e2⟩ := decE_ok hc ha
  refine ⟨e1, ?_⟩
  rw [e2, hp, List.map_map]
  conv => rhs; rw [← List.map_id l]
  apply List.map_congr_left
  intro p hp
  exact dec_part (any_bad h1 p hp)
theorem canE_zero {q : List UInt8} (h : canE q = 0) : decE q = 0 ∧ joinE (decL q) = 0 ∧ canS q = mkB (joinL (decL q)) := by
  unfold canE at h
  split at h
  · rename_i h0
    refine ⟨h0, h, ?_⟩
    unfold canS joinS
    rw [if_pos h0, if_pos h]
  · exact absurd h (by assumption)
theorem can_law {q : List UInt8} (h : canE q = 0) : canE (canS q).data.toList = 0 ∧ canS (canS q).data.toList = canS q ∧ decE (canS q).data.toList = 0 ∧ decL (canS q).data.toList = decL q := by
  obtain ⟨h0, h1, h2⟩ := canE_zero h
  obtain ⟨e1, e2⟩ := back_law h1
  rw [h2, mkB_data]
  refine ⟨?_, ?_, e1, e2⟩
  · unfold canE; rw [if_pos e1, e2, h1]
  · unfold canS joinS; rw [if_pos e1, e2, if_pos h1]

/-! Two queries together. -/
theorem pairsL_nil : pairsL [] = [] := rfl
theorem app_law {q m : List UInt8} (h : appE q m = 0) : chkL q = 0 ∧ chkL m = 0 ∧ chkL (appS q m).data.toList = 0 ∧ pairsL (appS q m).data.toList = pairsL m ++ pairsL q ∧ (appS q m).size ≤ 128 := by
  have h0 := h
  unfold appE at h
  split at h
  · rename_i h1; exact absurd h h1
  · rename_i h1
    simp only [ne_eq, Decidable.not_not] at h1
    split at h
    · rename_i h2; exact absurd h h2
    · rename_i h2
      simp only [ne_eq, Decidable.not_not] at h2
      obtain ⟨a1, a2⟩ := chkL_zero h1
      obtain ⟨b1, b2⟩ := chkL_zero h2
      have hS : appS q m = if q = [] ∨ m = [] then mkB (m ++ q) else mkB (m ++ 38 :: q) := by unfold appS; rw [if_pos h0]
      refine ⟨h1, h2, ?_⟩
      rw [hS]
      by_cases he : q = [] ∨ m = []
      · rw [if_pos he, mkB_data, mkB_size]
        rcases he with rfl | rfl
        · rw [List.append_nil, pairsL_nil, List.append_nil]; exact ⟨h2, rfl, b1⟩
        · rw [List.nil_append, pairsL_nil, List.nil_append]; exact ⟨h1, rfl, a1⟩
      · rw [if_neg he] at h
        rw [if_neg he, mkB_data, mkB_size]
        have hl : q.length + 1 + m.length ≤ 128 := by
          by_cases hx : 128 < q.length + 1 + m.length
          · rw [if_pos hx] at h; cases h
          · omega
        have hlen : (m ++ 38 :: q).length ≤ 128 := by rw [List.length_append, List.length_cons]; omega
        refine ⟨chkL_ok hlen (by rw [List.all_append, List.all_cons, a2, b2]; decide), ?_, hlen⟩
        unfold pairsL
        rw [splitL_append, List.filter_append, List.map_append]
end Go.Proofs.YtfbkbnojbbpopaaDoor
