/-
  Rows of texts: how the plain functions go on, step by step; no program is in sight; no condition.
  Rows of texts: what is written is read back; no program is in sight; no condition.
  Lists that came in, read cell by cell; rows that a call owns; append of a list that came in: no program is in sight; no condition.
  row's scanner: plain, blanks, over, bare, and Bare, walked; condition: strings of at most 1000000000 bytes.
  row's scanner: over, bare, and Bare, walked; condition: strings of at most 1000000000 bytes.
  Quoted words: how far a reader has come; no program is in sight; no condition.
-/
import Derived.Laws.AppendOwnNone
import Derived.WalkSpells
import Derived.WalkLawsBesides
import Derived.Deep.LoopGhost
import Derived.Deep.QuietTactic
import Derived.BigQuiet
import Derived.Test.YthpcbaamkeiffaaGreatDoorMRwFn
import Derived.Test.YthpcbaamkeiffaaGreatDoorProg
namespace Go.Proofs.YthpcbaamkeiffaaGreatDoor
set_option linter.unusedVariables false
set_option linter.unusedSimpArgs false

/-! A line's words. -/
def consW (w : Wd) : Option (List Wd) × Nat → Option (List Wd) × Nat
  | (none, e) => (none, e)
  | (some ws, e) => (some (w :: ws), e)
def preW (xs : List Wd) : Option (List Wd) × Nat → Option (List Wd) × Nat
  | (none, e) => (none, e)
  | (some ws, e) => (some (xs ++ ws), e)
theorem preW_nil (r : Option (List Wd) × Nat) : preW [] r = r := by
  obtain ⟨a, b⟩ := r
  cases a <;> rfl
theorem preW_snoc (xs : List Wd) (w : Wd) (r : Option (List Wd) × Nat) : preW xs (consW w r) = preW (xs ++ [w]) r := by
  obtain ⟨a, b⟩ := r
  cases a with
  | none => rfl
  | some ws => show (some (xs ++ w :: ws), b) = (some ((xs ++ [w]) ++ ws), b); simp
theorem wordsL_succ (f o : Nat) (l : List UInt8) : wordsL (f + 1) o l = match l.drop (blN l) with
    | [] => (some [], 0)
    | c :: t => if c = 35 then (some [], 0) else match readW (c :: t) with
        | none => (none, o + blN l)
        | some r => consW ⟨((o + blN l : Nat) : Int), mkB r.1, decide (c = 34)⟩ (wordsL f (o + blN l + r.2) ((c :: t).drop r.2)) := by
  conv => lhs; unfold wordsL
  cases h : l.drop (blN l) with
  | nil => rfl
  | cons c t =>
    show (if c = 35 then _ else _) = (if c = 35 then _ else _)
    by_cases hc : c = 35
    · rw [if_pos hc, if_pos hc]
    · rw [if_neg hc, if_neg hc]
      cases e : readW (c :: t) with
      | none => rfl
      | some r =>
        show (match wordsL f (o + blN l + r.2) ((c :: t).drop r.2) with | (none, e) => (none, e) | (some ws, e) => _) = consW _ (wordsL f (o + blN l + r.2) ((c :: t).drop r.2))
        obtain ⟨x, y⟩ := wordsL f (o + blN l + r.2) ((c :: t).drop r.2)
        cases x <;> rfl
theorem wordsL_fuel (f : Nat) : ∀ (g o : Nat) (l : List UInt8), l.length < f → l.length < g → wordsL f o l = wordsL g o l := by
  induction f with
  | zero => intro g o l h; omega
  | succ f ih =>
    intro g o l h1 h2
    cases g with
    | zero => omega
    | succ g =>
      rw [wordsL_succ, wordsL_succ]
      have hd : (l.drop (blN l)).length ≤ l.length := by rw [List.length_drop]; omega
      cases e : l.drop (blN l) with
      | nil => rfl
      | cons c t =>
        rw [e] at hd
        show (if c = 35 then _ else _) = (if c = 35 then _ else _)
        by_cases hc : c = 35
        · rw [if_pos hc, if_pos hc]
        · rw [if_neg hc, if_neg hc]
          cases e2 : readW (c :: t) with
          | none => rfl
          | some r =>
            have := readW_le _ r e2
            show consW _ _ = consW _ _
            rw [ih g _ _ (by rw [List.length_drop]; omega) (by rw [List.length_drop]; omega)]
/-- The words of what is left of a line: nothing, or a remark. -/
theorem lineL_done {o : Nat} {l : List UInt8} (h : l.drop (blN l) = [] ∨ (l.drop (blN l)).head? = some 35) : lineL o l = (some [], 0) := by
  unfold lineL
  rw [wordsL_succ]
  cases e : l.drop (blN l) with
  | nil => rfl
  | cons c t =>
    rw [e] at h
    have hc : c = 35 := by rcases h with h | h; cases h; simpa using h
    show (if c = 35 then _ else _) = _
    rw [if_pos hc]
/-- The next word, or none. -/
theorem lineL_word {o : Nat} {l : List UInt8} {c : UInt8} {t : List UInt8} (h : l.drop (blN l) = c :: t) (hc : c ≠ 35) : lineL o l = match readW (c :: t) with
    | none => (none, o + blN l)
    | some r => consW ⟨((o + blN l : Nat) : Int), mkB r.1, decide (c = 34)⟩ (lineL (o + blN l + r.2) ((c :: t).drop r.2)) := by
  unfold lineL
  rw [wordsL_succ, h]
  show (if c = 35 then _ else _) = _
  rw [if_neg hc]
  cases e2 : readW (c :: t) with
  | none => rfl
  | some r =>
    have := readW_le _ r e2
    have hl := congrArg List.length h
    rw [List.length_drop] at hl
    show consW _ _ = consW _ _
    rw [wordsL_fuel l.length (((c :: t).drop r.2).length + 1) _ _ (by rw [List.length_drop]; omega) (by omega)]

theorem lineL_blank {o : Nat} {c : UInt8} {t : List UInt8} (h : isBl c = true) : lineL o (c :: t) = lineL (o + 1) t := by
  have hb : blN (c :: t) = blN t + 1 := by conv => lhs; unfold blN
                                           rw [h, if_pos rfl]
  have hd : (c :: t).drop (blN (c :: t)) = t.drop (blN t) := by rw [hb]; rfl
  cases e : t.drop (blN t) with
  | nil => rw [lineL_done (.inl (by rw [hd]; exact e)), lineL_done (.inl e)]
  | cons d u =>
    by_cases h35 : d = 35
    · rw [lineL_done (.inr (by rw [hd, e, h35]; rfl)), lineL_done (.inr (by rw [e, h35]; rfl))]
    · rw [lineL_word (by rw [hd]; exact e) h35, lineL_word e h35, hb, show o + (blN t + 1) = o + 1 + blN t by omega]
/-- What stands at the beginning is no blank: nothing, a remark, a word. -/
theorem lineL_at {o : Nat} {c : UInt8} {t : List UInt8} (h : isBl c = false) (hc : c ≠ 35) : lineL o (c :: t) = match readW (c :: t) with
    | none => (none, o)
    | some r => consW ⟨o, mkB r.1, decide (c = 34)⟩ (lineL (o + r.2) ((c :: t).drop r.2)) := by
  have hb : blN (c :: t) = 0 := by conv => lhs; unfold blN
                                   rw [h, if_neg (by decide)]
  have := lineL_word (o := o) (l := c :: t) (c := c) (t := t) (by rw [hb]; rfl) hc
  rw [hb, Nat.add_zero] at this
  exact this
theorem lineL_rem {o : Nat} {t : List UInt8} : lineL o (35 :: t) = (some [], 0) := lineL_done (.inr (by rfl))

/-! The rows of lines. -/
def preR (xs : List Rw) : Option (List Rw) × Int × Int → Option (List Rw) × Int × Int
  | (none, e) => (none, e)
  | (some ws, e) => (some (xs ++ ws), e)
theorem preR_nil (r : Option (List Rw) × Int × Int) : preR [] r = r := by
  obtain ⟨a, b⟩ := r
  cases a <;> rfl
theorem preR_pre (xs ys : List Rw) (r : Option (List Rw) × Int × Int) : preR xs (preR ys r) = preR (xs ++ ys) r := by
  obtain ⟨a, b⟩ := r
  cases a with
  | none => rfl
  | some ws => show (some (xs ++ (ys ++ ws)), b) = (some ((xs ++ ys) ++ ws), b); rw [List.append_assoc]
def rowOf (o : Nat) (ws : List Wd) : List Rw := if ws = [] then [] else [⟨o, ws⟩]
theorem rowsF_long {o : Nat} {p : List UInt8} {ps : List (List UInt8)} (h : 1000 < p.length) : rowsF o (p :: ps) = (none, 4, (o : Int)) := by
  conv => lhs; unfold rowsF
  rw [if_pos h]
theorem rowsF_bad {o : Nat} {p : List UInt8} {ps : List (List UInt8)} {e : Nat} (h : ¬ 1000 < p.length) (hl : lineL o p = (none, e)) : rowsF o (p :: ps) = (none, 3, (e : Int)) := by
  conv => lhs; unfold rowsF
  rw [if_neg h, hl]
theorem rowsF_line {o : Nat} {p : List UInt8} {ps : List (List UInt8)} {ws : List Wd} {e : Nat} (h : ¬ 1000 < p.length) (hl : lineL o p = (some ws, e)) : rowsF o (p :: ps) = preR (rowOf o ws) (rowsF (o + p.length + 1) ps) := by
  conv => lhs; unfold rowsF
  rw [if_neg h, hl]
  show (match rowsF (o + p.length + 1) ps with | (none, e) => (none, e) | (some rs, e) => _) = _
  obtain ⟨x, y⟩ := rowsF (o + p.length + 1) ps
  cases x <;> rfl
end Go.Proofs.YthpcbaamkeiffaaGreatDoor
namespace Go.Proofs.YthpcbaamkeiffaaGreatDoor
set_option linter.unusedVariables false
set_option linter.unusedSimpArgs false

theorem hexl_ok : ∀ c : UInt8, 0 ≤ hexv (hexl (c.toNat / 16)) ∧ 0 ≤ hexv (hexl (c.toNat % 16)) ∧ escV (hexl (c.toNat / 16)) (hexl (c.toNat % 16)) = c :=
  fun c => u8_all (p := fun c => 0 ≤ hexv (hexl (c.toNat / 16)) ∧ 0 ≤ hexv (hexl (c.toNat % 16)) ∧ escV (hexl (c.toNat / 16)) (hexl (c.toNat % 16)) = c) (by decide +kernel) c
theorem wr1_all : ∀ c : UInt8, (wr1 c).all (fun x => decide (32 ≤ x.toNat) && decide (x.toNat ≤ 126)) = true ∧ 1 ≤ (wr1 c).length ∧ (wr1 c).length ≤ 4 :=
  fun c => u8_all (p := fun c => (wr1 c).all (fun x => decide (32 ≤ x.toNat) && decide (x.toNat ≤ 126)) = true ∧ 1 ≤ (wr1 c).length ∧ (wr1 c).length ≤ 4) (by decide +kernel) c
theorem wrQ_nil : wrQ [] = [] := rfl
theorem wrQ_cons (c : UInt8) (t : List UInt8) : wrQ (c :: t) = wr1 c ++ wrQ t := by simp [wrQ]
theorem wrQ_snoc (t : List UInt8) (c : UInt8) : wrQ (t ++ [c]) = wrQ t ++ wr1 c := by simp [wrQ]
theorem wrQ_len (l : List UInt8) : l.length ≤ (wrQ l).length ∧ (wrQ l).length ≤ 4 * l.length := by
  induction l with
  | nil => exact ⟨Nat.le_refl _, Nat.le_refl _⟩
  | cons c t ih => obtain ⟨_, h1, h2⟩ := wr1_all c; rw [wrQ_cons, List.length_append, List.length_cons]; omega
theorem wrQ_all (l : List UInt8) : (wrQ l).all (fun x => decide (32 ≤ x.toNat) && decide (x.toNat ≤ 126)) = true := by
  induction l with
  | nil => rfl
  | cons c t ih => rw [wrQ_cons, List.all_append, (wr1_all c).1, ih]; rfl
theorem quo_wrQ (l u : List UInt8) : quo (wrQ l ++ 34 :: u) = some (l, (wrQ l).length + 1) := by
  induction l with
  | nil => rw [wrQ_nil, List.nil_append, quo_end]; rfl
  | cons c t ih =>
    rw [wrQ_cons, List.append_assoc, List.length_append]
    unfold wr1
    by_cases h1 : c = 34 ∨ c = 92
    · rw [if_pos h1]
      show quo (92 :: c :: (wrQ t ++ 34 :: u)) = _
      rw [quo_esc h1, ih]
      show some (c :: t, (wrQ t).length + 1 + 2) = some (c :: t, 2 + (wrQ t).length + 1)
      congr 2; omega
    · rw [if_neg h1]
      by_cases h2 : 32 ≤ c.toNat ∧ c.toNat ≤ 126
      · rw [if_pos h2]
        show quo (c :: (wrQ t ++ 34 :: u)) = _
        rw [quo_plain (fun e => h1 (.inl e)) (fun e => h1 (.inr e)) h2, ih]
        show some (c :: t, (wrQ t).length + 1 + 1) = some (c :: t, 1 + (wrQ t).length + 1)
        congr 2; omega
      · rw [if_neg h2]
        obtain ⟨a1, a2, a3⟩ := hexl_ok c
        show quo (92 :: 120 :: hexl (c.toNat / 16) :: hexl (c.toNat % 16) :: (wrQ t ++ 34 :: u)) = _
        rw [quo_hex ⟨a1, a2⟩, ih, a3]
        show some (c :: t, (wrQ t).length + 1 + 4) = some (c :: t, 4 + (wrQ t).length + 1)
        congr 2; omega
theorem barN_all {l u : List UInt8} (h : l.all bareC = true) (hu : endL u = true) : barN (l ++ u) = l.length := by
  induction l with
  | nil =>
    cases u with
    | nil => rfl
    | cons c t =>
      show barN (c :: t) = 0
      unfold barN
      have : bareC c = false := by
        cases e : bareC c
        · rfl
        · have h1 := bar_bl e
          have h2 : isBl c = true := hu
          rw [h1] at h2; cases h2
      rw [this, if_neg (by decide)]
  | cons c t ih =>
    rw [List.all_cons, Bool.and_eq_true] at h
    show barN (c :: (t ++ u)) = _
    unfold barN
    rw [h.1, if_pos rfl, ih h.2, List.length_cons]
/-- A written word is read, whatever blank or end stands behind it. -/
theorem readW_wr (l u : List UInt8) (hu : endL u = true) : readW (wrW l ++ u) = some (l, (wrW l).length) ∧ ∃ c t, wrW l = c :: t ∧ isBl c = false ∧ c ≠ 35 ∧ (c = 34 ↔ bareW l = false) := by
  unfold wrW
  cases hb : bareW l
  · rw [if_neg (by decide)]
    refine ⟨?_, 34, wrQ l ++ [34], rfl, by decide, by decide, by simp⟩
    show readQ ((wrQ l ++ [34]) ++ u) = _
    unfold readQ
    rw [List.append_assoc, List.singleton_append, quo_wrQ]
    show (if endL ((wrQ l ++ 34 :: u).drop ((wrQ l).length + 1)) = true then some (l, (wrQ l).length + 1 + 1) else none) = _
    have e : (wrQ l ++ 34 :: u).drop ((wrQ l).length + 1) = u := by
      rw [← List.drop_drop, List.drop_left]; rfl
    rw [e, if_pos hu, List.length_cons, List.length_append, List.length_singleton]
  · rw [if_pos rfl]
    have hb2 := hb
    unfold bareW at hb2
    simp only [Bool.and_eq_true, decide_eq_true_eq] at hb2
    obtain ⟨⟨h1, h2⟩, h3⟩ := hb2
    cases l with
    | nil => exact absurd rfl h1
    | cons c t =>
      have hc : bareC c = true := by rw [List.all_cons, Bool.and_eq_true] at h2; exact h2.1
      have hne : c ≠ 34 := by rintro rfl; revert hc; decide
      refine ⟨?_, c, t, rfl, bar_bl hc, fun e => h3 (by rw [e]; rfl), by simp [hne]⟩
      show (if c = 34 then readQ (t ++ u) else readB (c :: (t ++ u))) = _
      rw [if_neg hne]
      have hn := barN_all h2 hu
      rw [List.cons_append] at hn
      unfold readB
      rw [hn]
      have e1 : (c :: (t ++ u)).drop (c :: t).length = u := by rw [← List.cons_append, List.drop_left]
      have e2 : (c :: (t ++ u)).take (c :: t).length = c :: t := by rw [← List.cons_append, List.take_left]
      rw [e1, e2, if_pos ⟨by simp, hu⟩]
theorem blN_head {c : UInt8} {t : List UInt8} (h : isBl c = false) : blN (c :: t) = 0 := by unfold blN; rw [h, if_neg (by decide)]
/-- The next word of a line is a written one. -/
theorem lineL_wr (o : Nat) (l u : List UInt8) (hu : endL u = true) : lineL o (wrW l ++ u) = consW ⟨o, mkB l, !bareW l⟩ (lineL (o + (wrW l).length) u) := by
  obtain ⟨h1, c, t, h2, h3, h4, h5⟩ := readW_wr l u hu
  have hb : blN (wrW l ++ u) = 0 := by rw [h2]; exact blN_head h3
  have hd : (wrW l ++ u).drop (blN (wrW l ++ u)) = c :: (t ++ u) := by rw [hb, h2]; rfl
  rw [lineL_word hd h4]
  rw [show c :: (t ++ u) = wrW l ++ u by rw [h2]; rfl, h1, hb, Nat.add_zero]
  show consW ⟨o, mkB l, decide (c = 34)⟩ (lineL (o + (wrW l).length) ((wrW l ++ u).drop (wrW l).length)) = _
  rw [List.drop_left]
  congr 2
  cases hb2 : bareW l
  · simp [h5.2 hb2]
  · have : c ≠ 34 := fun e => by rw [h5.1 e] at hb2; cases hb2
    simp [this]
theorem lineL_nil (o : Nat) : lineL o [] = (some [], 0) := lineL_done (.inl rfl)
theorem wrW_all (l : List UInt8) : (wrW l).all (fun x => decide (32 ≤ x.toNat) && decide (x.toNat ≤ 126)) = true := by
  unfold wrW
  cases hb : bareW l
  · rw [if_neg (by decide), List.all_cons, List.all_append, wrQ_all]; rfl
  · rw [if_pos rfl]
    unfold bareW at hb
    simp only [Bool.and_eq_true, decide_eq_true_eq] at hb
    rw [List.all_eq_true]
    intro x hx
    have := List.all_eq_true.1 hb.1.2 x hx
    unfold bareC at this
    simp only [Bool.and_eq_true, decide_eq_true_eq] at this ⊢
    omega
theorem no_line {l : List UInt8} (h : l.all (fun x => decide (32 ≤ x.toNat) && decide (x.toNat ≤ 126)) = true) : (10 : UInt8) ∉ l := by
  intro hm
  have := List.all_eq_true.1 h 10 hm
  revert this; decide
theorem wrW_len (l : List UInt8) : (wrW l).length ≤ 4 * l.length + 2 := by
  unfold wrW
  split
  · omega
  · have := wrQ_len l
    rw [List.length_cons, List.length_append, List.length_singleton]; omega
end Go.Proofs.YthpcbaamkeiffaaGreatDoor
namespace Go.Proofs.YthpcbaamkeiffaaGreatDoor
open Go.RowKit
set_option linter.unusedVariables false
set_option linter.unusedSimpArgs false

theorem blk_at {w : World} {t : TypeId} {cs : Array Value} {n : Nat} (h : n = w.heap.size) : Blk (w.alloc (.cells cs t)) n t cs := by
  subst h
  exact Blk.new w t cs
/-- A list whose element i has the cells f i 0, f i 1, .. -/
def Cells (w : World) (A : Option Addr) (m n : Nat) (f : Nat → Nat → Value) : Prop :=
  0 < n → ∃ b off, A = some ⟨b, off, none⟩ ∧ b < w.heap.size ∧ ∀ i j, i < n → j < m → w.cell? ⟨b, off + i * m + j, none⟩ = some (f i j)
theorem Cells.below {w w' : World} {A : Option Addr} {m n : Nat} {f : Nat → Nat → Value} (h : Cells w A m n f) (hb : Below w.heap.size w w') : Cells w' A m n f := by
  intro hn
  obtain ⟨b, off, ha, hl, hc⟩ := h hn
  exact ⟨b, off, ha, Nat.lt_of_lt_of_le hl hb.size, fun i j hi hj => by rw [hb.cell (p := ⟨b, off + i * m + j, none⟩) hl]; exact hc i j hi hj⟩

/-- The cells of n elements of m cells, one behind the other. -/
def flatC (f : Nat → Nat → Value) (m n : Nat) : List Value := (List.range (n * m)).map fun t => f (t / m) (t % m)
theorem flatC_len (f : Nat → Nat → Value) (m n : Nat) : (flatC f m n).length = n * m := by simp [flatC]
theorem flatC_at (f : Nat → Nat → Value) (m n j : Nat) (hj : j < n * m) : (flatC f m n)[j]? = some (f (j / m) (j % m)) := by
  unfold flatC
  rw [List.getElem?_map, List.getElem?_range hj]; rfl
theorem row_lt {m n i j : Nat} (hi : i < n) (hj : j < m) : i * m + j < n * m :=
  Nat.lt_of_lt_of_le (Nat.add_lt_add_left hj _) (by rw [← Nat.succ_mul]; exact Nat.mul_le_mul_right _ hi)
/-- A list that came in: where it is nil it has nothing. -/
def ArgOk (A : Option Addr) (n c : Nat) : Prop := A = none → n = 0 ∧ c = 0

theorem row_cells {W : World} {B e m n : Nat} {v : Value} {f : Nat → Nat → Value} (hm : 0 < m) (h : W.ownsRow B e m v n (flatC f m n)) : ∃ A c, v = .slice A n c ∧ Cells W A m n f ∧ ArgOk A n c := by
  rcases h.2 with ⟨rfl, h0⟩ | ⟨g, cap, cur, rfl, hBg, hg, _, _, _, htk⟩
  · exact ⟨_, _, by rw [h0], fun hn => absurd hn (by omega), fun _ => ⟨h0, rfl⟩⟩
  · refine ⟨_, _, rfl, fun _ => ⟨g, 0, rfl, (Array.getElem?_eq_some_iff.1 hg).1, fun i j hi hj => ?_⟩, fun ha => by cases ha⟩
    have hlt := row_lt hi hj
    have h1 := flatC_at f m n (i * m + j) hlt
    rw [← htk, List.getElem?_take, if_pos hlt] at h1
    have e1 : (i * m + j) / m = i := by rw [Nat.mul_comm, Nat.mul_add_div hm, Nat.div_eq_of_lt hj]; omega
    have e2 : (i * m + j) % m = j := by rw [Nat.mul_comm, Nat.mul_add_mod, Nat.mod_eq_of_lt hj]
    rw [e1, e2] at h1
    rw [Nat.zero_add, cell_of_row W g _ cur _ _ hg]
    simpa using h1
theorem own_empty (w : World) (B : Nat) (e : TypeId) (size : Nat) (hB : B ≤ w.heap.size) : (w.alloc (.cells #[] e)).ownsRow B e size (.slice (some ⟨w.heap.size, 0, none⟩) 0 0) 0 [] :=
  ⟨by simp, .inr ⟨w.heap.size, 0, #[], rfl, hB, heap_alloc_new w _, Nat.le_refl _, by unfold maxLen; omega, by simp, by simp⟩⟩
theorem append_any {P : Program} {w : World} {ops : Array Oper} {rest : List Oper} {o : Oper} {a : Act} {Q : Exit → Act → World → Prop} (hgd : o.guard = none) (s x : Operand) (t : TypeId)
    (ho : o.op = .call { callee := .builtin .append, args := #[s, x], argTypes := #[t, t] })
    (base : Nat) (e : TypeId) (i : TypeInfo) (z : Value) (size bytes : Nat) (ht : P.underlying t = some (.slice e)) (hi : P.info? e = some i) (hz : i.zero = some z)
    (hsize : i.size = size) (hby : i.bytes = bytes) (hzs : z.cells.size = size) (hsz : 0 < size)
    (v : Value) (hs : a.eval s = v) (hown : w.ownsRow base e size v 0 [])
    (A : Option Addr) (m c : Nat) (f : Nat → Nat → Value) (hx : a.eval x = .slice A m c) (hA : ArgOk A m c) (hc : Cells w A size m f) (h1 : ∀ i j, (f i j).oneCell' = true)
    (h63 : m ≤ maxLen) (hbytes : m * bytes ≤ 140737488355328) (hbase : base ≤ w.heap.size)
    (h : ∀ v' w', w'.ownsRow base e size v' m (flatC f size m) → w.grownBy w' v.ownBlock → wpList P ops Q rest (a.put o.dst v') w') : wpList P ops Q (o :: rest) a w := by
  cases A with
  | none =>
    obtain ⟨rfl, rfl⟩ := hA rfl
    refine wpList_append_own_none hgd s x t ho base e i size ht hi v 0 [] hs hown hx (h _ _ ?_ (only_refl w _))
    have : flatC f size 0 = [] := by simp [flatC]
    rw [this]; exact hown
  | some ad =>
    refine wpList_append_own (w := w) hgd s x t ho base e i z size bytes ht hi hz hsize hby hzs hsz v 0 [] hs hown ad m c (flatC f size m) hx (flatC_len _ _ _) (fun j u hj => ?_) (fun u hu => ?_) (by omega) (by simpa using hbytes) hbase (fun v' w' h2 h3 _ => h v' w' (by simpa using h2) h3)
    · have hjl : j < m * size := by
        have := (List.getElem?_eq_some_iff.1 hj).1
        rwa [flatC_len] at this
      rw [flatC_at f size m j hjl] at hj
      have hm0 : 0 < m := Nat.pos_of_ne_zero (fun e => by subst e; simp at hjl)
      obtain ⟨b, off, ea, _, hcl⟩ := hc hm0
      cases ea
      have := hcl (j / size) (j % size) (Nat.div_lt_of_lt_mul (by rw [Nat.mul_comm]; exact hjl)) (Nat.mod_lt _ hsz)
      have ej : off + j / size * size + j % size = off + j := by
        have := Nat.div_add_mod j size
        rw [Nat.mul_comm] at this
        omega
      rw [ej] at this
      rw [Addr.add_lit, this]
      exact hj
    · obtain ⟨t', _, rfl⟩ := List.mem_map.1 hu
      exact h1 _ _
theorem Cells.grown {w w' : World} {A : Option Addr} {m n : Nat} {f : Nat → Nat → Value} {row : Option Nat} (h : Cells w A m n f) (hg : w.grownBy w' row) (hr : ∀ a k, A = some a → row = some k → a.block ≠ k) : Cells w' A m n f := by
  intro hn
  obtain ⟨b, off, ha, hl, hc⟩ := h hn
  refine ⟨b, off, ha, Nat.lt_of_lt_of_le hl hg.size, fun i j hi hj => ?_⟩
  have := hg.block b hl (fun e => hr _ b ha e.symm rfl)
  rw [World.cell?_of_block (w := w) (w' := w') (a := ⟨b, off + i * m + j, none⟩) this]
  exact hc i j hi hj
end Go.Proofs.YthpcbaamkeiffaaGreatDoor
namespace Go.Proofs.YthpcbaamkeiffaaGreatDoor
open Go.RowKit
set_option linter.unusedVariables false
set_option linter.unusedSimpArgs false

set_option maxRecDepth 100000 in
set_option maxHeartbeats 400000 in
theorem wplain (c : UInt8) (w : World) :
    Calls Tryz.prog 146 #[.int .u8 (c.toNat : Int)] w fun e w' => e = .returned (.bool (bareC c)) ∧ w = w' := by
  have hb := u8_bound c
  by_cases h1 : 33 ≤ c.toNat
  · by_cases h2 : c.toNat ≤ 126
    · by_cases h3 : c.toNat = 34
      · have e : Hid (bareC c = false) := Lib.hid (by unfold bareC; rw [decide_eq_true h1, decide_eq_true h2, decide_eq_false (by omega)]; rfl)
        have a1 : (33 : Int) ≤ c.toNat := by omega
        have a2 : (c.toNat : Int) ≤ 126 := by omega
        have a3 : ((c.toNat : Int) != 34) = false := by simp; omega
        clear h1 h2 h3
        go_enter Tryz.func146, Tryz.ntmps146
        go_wp2_with (fail)
        go_ret
        exact ⟨by rw [e.out]; rfl, rfl⟩
      · have e : Hid (bareC c = true) := Lib.hid (by unfold bareC; rw [decide_eq_true h1, decide_eq_true h2, decide_eq_true h3]; rfl)
        have a1 : (33 : Int) ≤ c.toNat := by omega
        have a2 : (c.toNat : Int) ≤ 126 := by omega
        have a3 : ((c.toNat : Int) != 34) = true := by simp; omega
        clear h1 h2 h3
        go_enter Tryz.func146, Tryz.ntmps146
        go_wp2_with (fail)
        go_ret
        exact ⟨by rw [e.out]; rfl, rfl⟩
    · have e : Hid (bareC c = false) := Lib.hid (by unfold bareC; rw [decide_eq_true h1, decide_eq_false h2]; rfl)
      have a1 : (33 : Int) ≤ c.toNat := by omega
      have a2 : ¬ (c.toNat : Int) ≤ 126 := by omega
      clear h1 h2
      go_enter Tryz.func146, Tryz.ntmps146
      go_wp2_with (fail)
      go_ret
      exact ⟨by rw [e.out]; rfl, rfl⟩
  · have e : Hid (bareC c = false) := Lib.hid (by unfold bareC; rw [decide_eq_false h1]; rfl)
    have a1 : ¬ (33 : Int) ≤ c.toNat := by omega
    clear h1
    go_enter Tryz.func146, Tryz.ntmps146
    go_wp2_with (fail)
    go_ret
    exact ⟨by rw [e.out]; rfl, rfl⟩

/-! What stands at a place. -/
theorem blN_drop {s : ByteArray} {k : Nat} (h : k < s.size) : blN (s.data.toList.drop k) = if isBl s[k] then blN (s.data.toList.drop (k + 1)) + 1 else 0 := by
  rw [drop_at s k h]
  conv => lhs; unfold blN
theorem barN_drop {s : ByteArray} {k : Nat} (h : k < s.size) : barN (s.data.toList.drop k) = if bareC s[k] then barN (s.data.toList.drop (k + 1)) + 1 else 0 := by
  rw [drop_at s k h]
  conv => lhs; unfold barN
theorem bl_cases (c : UInt8) : (isBl c = true ∧ ((c.toNat : Int) == 32) = true) ∨ (isBl c = true ∧ ((c.toNat : Int) == 32) = false ∧ ((c.toNat : Int) == 9) = true) ∨ (isBl c = false ∧ ((c.toNat : Int) == 32) = false ∧ ((c.toNat : Int) == 9) = false) := by
  by_cases h1 : c.toNat = 32
  · exact .inl ⟨by unfold isBl; rw [decide_eq_true h1]; rfl, beq_iff_eq.2 (by omega)⟩
  · by_cases h2 : c.toNat = 9
    · exact .inr (.inl ⟨by unfold isBl; rw [decide_eq_true h2]; simp, beq_eq_false_iff_ne.2 (by omega), beq_iff_eq.2 (by omega)⟩)
    · exact .inr (.inr ⟨by unfold isBl; rw [decide_eq_false h1, decide_eq_false h2]; rfl, beq_eq_false_iff_ne.2 (by omega), beq_eq_false_iff_ne.2 (by omega)⟩)
theorem set_set {cs : Array Value} {i : Nat} {u v : Value} : (cs.setIfInBounds i u).setIfInBounds i v = cs.setIfInBounds i v := by
  apply Array.ext_getElem?
  intro j
  rw [Array.getElem?_setIfInBounds, Array.getElem?_setIfInBounds, Array.getElem?_setIfInBounds]
  by_cases e : i = j
  · rw [if_pos e, if_pos e]
    by_cases h : i < cs.size
    · rw [if_pos (by simpa using h), if_pos h]
    · rw [if_neg (by simpa using h), if_neg h]
  · rw [if_neg e, if_neg e, if_neg e]
theorem get_set {cs : Array Value} {i : Nat} {v : Value} (h : i < cs.size) : (cs.setIfInBounds i v)[i]? = some v := by
  rw [Array.getElem?_setIfInBounds, if_pos rfl, if_pos h]
theorem get_far {cs : Array Value} {i j : Nat} {v : Value} (h : i ≠ j) : (cs.setIfInBounds i v)[j]? = cs[j]? := by
  rw [Array.getElem?_setIfInBounds, if_neg h]
/-- A scanner at a place. -/
def ScanAt (W : World) (b : Nat) (T : TypeId) (cs : Array Value) (k : Nat) : Prop := Blk W b T (cs.setIfInBounds 1 (.int .i64 (k : Int)))
theorem ScanAt.facts {W : World} {b : Nat} {T : TypeId} {cs : Array Value} {k : Nat} {s : ByteArray} (h : ScanAt W b T cs k) (g0 : cs[0]? = some (.string s)) (g1 : 1 < cs.size) :
    W.cell? ⟨b, 0, none⟩ = some (.string s) ∧ W.cell? ⟨b, 1, none⟩ = some (.int .i64 (k : Int)) ∧ W.frozen? ⟨b, 1, none⟩ = false ∧ b < W.heap.size :=
  ⟨h.cell' (by rw [get_far (by decide)]; exact g0), h.cell' (get_set g1), h.frozen 1, h.lt⟩
theorem ScanAt.step {W : World} {b : Nat} {T : TypeId} {cs : Array Value} {k k' : Nat} (h : ScanAt W b T cs k) : ScanAt (W.setCell ⟨b, 1, none⟩ (.int .i64 (k' : Int))) b T cs k' := by
  have := h.set_ 1 (.int .i64 (k' : Int))
  rw [set_set] at this
  exact this

set_option maxRecDepth 100000 in
set_option maxHeartbeats 2000000 in
theorem wblanks (s : ByteArray) (b k0 : Nat) (T : TypeId) (cs : Array Value) (w : World) (hs : s.size ≤ 1000000000) (hk0 : k0 ≤ s.size) (g0 : cs[0]? = some (.string s)) (g1 : 1 < cs.size) (hb : ScanAt w b T cs k0) :
    Calls Tryz.prog 121 #[.pointer (some ⟨b, 0, none⟩)] w fun e w' => e = .returned (.tuple #[]) ∧ ScanAt w' b T cs (k0 + blN (s.data.toList.drop k0)) ∧ w.grownBy w' (some b) := by
  have HB := Lib.hid (And.intro g0 (And.intro g1 hb))
  clear g0 g1 hb
  go_enter Tryz.func121, Tryz.ntmps121
  go_wp2_with (fail)
  go_loopg [] (s.size - k0) (fun n wr => ∃ k : Nat, n = s.size - k ∧ k ≤ s.size ∧ k + blN (s.data.toList.drop k) = k0 + blN (s.data.toList.drop k0) ∧ ScanAt wr b T cs k ∧ w.grownBy wr (some b))
  case atStart => exact ⟨k0, rfl, hk0, rfl, HB.out.2.2, only_refl _ _⟩
  case round =>
    obtain ⟨k, hn, hk, hsum, hsc, hgr⟩ := hrel
    obtain ⟨c0, c1, f1, hl⟩ := hsc.facts HB.out.1 HB.out.2.1
    by_cases hlt : k < s.size
    · have hii : (k : Int) < s.size := by omega
      have hi0 : (0 : Int) ≤ k := by omega
      obtain ⟨x, hx⟩ : ∃ x, x = s[k] := ⟨_, rfl⟩
      have hxs : s[k] = x := hx.symm
      have hd := blN_drop hlt
      rw [hxs] at hd
      have hxb := u8_bound x
      have A := Lib.hid (And.intro hn (And.intro hsum (And.intro hsc (And.intro hgr hd))))
      clear hn hsum hsc hgr hd hx
      rcases bl_cases x with ⟨hb, e1⟩ | ⟨hb, e1, e2⟩ | ⟨hb, e1, e2⟩
      · have HX := Lib.hid hb
        clear hb
        go_wp2_with (fail)
        go_quiet (fail)
        go_wp2_with (fail)
        go_roundg (s.size - (k + 1))
        case measure => have := A.out.1; omega
        case rel =>
          refine ⟨k + 1, rfl, hlt, ?_, (show ScanAt _ b T cs k from A.out.2.2.1).step, only_setCell (only_drewN A.out.2.2.2.1 _) (.inl rfl) _⟩
          rw [← A.out.2.1, A.out.2.2.2.2, if_pos HX.out]; omega
      · have HX := Lib.hid hb
        clear hb
        go_wp2_with (fail)
        go_quiet (fail)
        go_wp2_with (fail)
        go_roundg (s.size - (k + 1))
        case measure => have := A.out.1; omega
        case rel =>
          refine ⟨k + 1, rfl, hlt, ?_, (show ScanAt _ b T cs k from A.out.2.2.1).step, only_setCell (only_drewN A.out.2.2.2.1 _) (.inl rfl) _⟩
          rw [← A.out.2.1, A.out.2.2.2.2, if_pos HX.out]; omega
      · have HX := Lib.hid hb
        clear hb
        go_wp2_with (fail)
        go_quiet (fail)
        go_wp2_with (fail)
        go_end0
        refine ⟨rfl, ?_, only_drewN A.out.2.2.2.1 _⟩
        have h0 := A.out.2.1
        rw [A.out.2.2.2.2, HX.out, if_neg (by decide), Nat.add_zero] at h0
        rw [← h0]
        exact A.out.2.2.1
    · have hke : k = s.size := by omega
      have A := Lib.hid (And.intro hsum (And.intro hsc hgr))
      clear hn hsum hsc hgr
      go_wp2_with (fail)
      go_quiet (fail)
      go_wp2_with (fail)
      go_end0
      refine ⟨rfl, ?_, only_drewN A.out.2.2 _⟩
      have h0 := A.out.1
      rw [drop_end s k (by omega), show blN [] = 0 from rfl, Nat.add_zero] at h0
      rw [← h0]
      exact A.out.2.1
end Go.Proofs.YthpcbaamkeiffaaGreatDoor
namespace Go.Proofs.YthpcbaamkeiffaaGreatDoor
open Go.RowKit
set_option linter.unusedVariables false
set_option linter.unusedSimpArgs false

set_option maxRecDepth 100000 in
set_option maxHeartbeats 2000000 in
theorem wover (s : ByteArray) (b k : Nat) (T : TypeId) (cs : Array Value) (w : World) (hs : s.size ≤ 1000000000) (hk : k ≤ s.size) (g0 : cs[0]? = some (.string s)) (g1 : 1 < cs.size) (hb : ScanAt w b T cs k) :
    Calls Tryz.prog 147 #[.pointer (some ⟨b, 0, none⟩)] w fun e w' => e = .returned (.bool (endL (s.data.toList.drop k))) ∧ ∃ n, w' = w.drewN n := by
  obtain ⟨c0, c1, f1, hl⟩ := hb.facts g0 g1
  clear hb g0 g1
  by_cases hlt : k < s.size
  · have hii : (k : Int) < s.size := by omega
    have hi0 : (0 : Int) ≤ k := by omega
    have hne : ((k : Int) == (s.size : Int)) = false := beq_eq_false_iff_ne.2 (by omega)
    obtain ⟨x, hx⟩ : ∃ x, x = s[k] := ⟨_, rfl⟩
    have hxs : s[k] = x := hx.symm
    have he : endL (s.data.toList.drop k) = isBl x := by rw [drop_at s k hlt, hxs]; rfl
    have HE := Lib.hid he
    have hxb := u8_bound x
    clear he hx
    rcases bl_cases x with ⟨hb, e1⟩ | ⟨hb, e1, e2⟩ | ⟨hb, e1, e2⟩
    all_goals
      have HX := Lib.hid hb
      clear hb
      go_enter Tryz.func147, Tryz.ntmps147
      go_wp2_with (fail)
      go_quiet (fail)
      go_wp2_with (fail)
      go_ret
      exact ⟨by rw [HE.out, HX.out]; rfl, _, rfl⟩
  · have hke : k = s.size := by omega
    have he : endL (s.data.toList.drop k) = true := by rw [drop_end s k (by omega)]; rfl
    have HE := Lib.hid he
    have heq : ((k : Int) == (s.size : Int)) = true := beq_iff_eq.2 (by omega)
    clear he hke
    go_enter Tryz.func147, Tryz.ntmps147
    go_wp2_with (fail)
    go_quiet (fail)
    go_wp2_with (fail)
    go_ret
    exact ⟨by rw [HE.out]; rfl, _, rfl⟩

/-- What bare hands back. -/
def bareR (s : ByteArray) (k : Nat) : Value := .tuple #[.string (s.extract k (k + barN (s.data.toList.drop k))), .bool (decide (0 < barN (s.data.toList.drop k)) && endL (s.data.toList.drop (k + barN (s.data.toList.drop k))))]
theorem bareR_at {s : ByteArray} {k0 k : Nat} (h : k = k0 + barN (s.data.toList.drop k0)) : bareR s k0 = .tuple #[.string (s.extract k0 k), .bool (decide (k0 < k) && endL (s.data.toList.drop k))] := by
  unfold bareR
  rw [← h, show decide (0 < barN (s.data.toList.drop k0)) = decide (k0 < k) by congr 1; exact propext ⟨fun _ => by omega, fun _ => by omega⟩]
theorem barN_size (s : ByteArray) {k : Nat} (h : k ≤ s.size) : k + barN (s.data.toList.drop k) ≤ s.size := by
  have := barN_le (s.data.toList.drop k)
  rw [List.length_drop, show s.data.toList.length = s.size from by simp] at this
  omega
set_option maxRecDepth 100000 in
set_option maxHeartbeats 4000000 in
theorem wbare (s : ByteArray) (b k0 : Nat) (T : TypeId) (cs : Array Value) (w : World) (hs : s.size ≤ 1000000000) (hk0 : k0 ≤ s.size) (g0 : cs[0]? = some (.string s)) (g1 : 1 < cs.size) (hb : ScanAt w b T cs k0) :
    Calls Tryz.prog 118 #[.pointer (some ⟨b, 0, none⟩)] w fun e w' => e = .returned (bareR s k0) ∧ ScanAt w' b T cs (k0 + barN (s.data.toList.drop k0)) ∧ w.grownBy w' (some b) := by
  have h0 := hb.facts g0 g1
  obtain ⟨a0, a1, _, _⟩ := h0
  have HB := Lib.hid (And.intro g0 (And.intro g1 hb))
  clear g0 g1 hb
  go_enter Tryz.func118, Tryz.ntmps118
  go_wp2_with (fail)
  go_loopg [] (s.size - k0) (fun n wr => ∃ k : Nat, n = s.size - k ∧ k0 ≤ k ∧ k ≤ s.size ∧ k + barN (s.data.toList.drop k) = k0 + barN (s.data.toList.drop k0) ∧ ScanAt wr b T cs k ∧ w.grownBy wr (some b))
  case atStart => exact ⟨k0, rfl, Nat.le_refl _, hk0, rfl, HB.out.2.2, only_refl _ _⟩
  case round =>
    obtain ⟨k, hn, hk1, hk, hsum, hsc, hgr⟩ := hrel
    obtain ⟨c0, c1, f1, hl⟩ := hsc.facts HB.out.1 HB.out.2.1
    have tail : barN (s.data.toList.drop k) = 0 → k = k0 + barN (s.data.toList.drop k0) := fun h => by rw [h] at hsum; omega
    have hov := fun (q : Nat) => wover s b k T cs (wr.drewN q) hs hk HB.out.1 HB.out.2.1 hsc
    have hov0 := wover s b k T cs wr hs hk HB.out.1 HB.out.2.1 hsc
    have hkk1 : (k0 : Int) ≤ k := by omega
    have hkk2 : (k : Int) ≤ s.size := by omega
    by_cases hlt : k < s.size
    · have hii : (k : Int) < s.size := by omega
      have hi0 : (0 : Int) ≤ k := by omega
      obtain ⟨x, hx⟩ : ∃ x, x = s[k] := ⟨_, rfl⟩
      have hxs : s[k] = x := hx.symm
      have hd := barN_drop hlt
      rw [hxs] at hd
      have hxb := u8_bound x
      have A := Lib.hid (And.intro hn (And.intro hsum (And.intro hsc (And.intro hgr (And.intro hd tail)))))
      clear hn hsum hsc hgr hd hx tail
      cases hb : bareC x
      · have HX := Lib.hid hb
        clear hb
        have hkk : k = k0 + barN (s.data.toList.drop k0) := A.out.2.2.2.2.2 (by rw [A.out.2.2.2.2.1, HX.out]; rfl)
        have HK := Lib.hid hkk
        clear hkk
        have hw := fun W => wplain x W
        rw [HX.out] at hw
        by_cases hgt : k0 < k
        · have hgi : (k0 : Int) < (k : Int) := by omega
          go_wp2_with (fail)
          go_quiet ((go_at_call 146; exact quiet_left (hw _)))
          go_wp2_with (fail)
          go_quiet ((go_at_call 147; exact quiet_add (hov _)))
          go_wp2_with (fail)
          go_ret2
          refine ⟨?_, ?_, only_drewN (only_drewN A.out.2.2.2.1 _) _⟩
          · rw [bareR_at HK.out, decide_eq_true hgt]; rfl
          · rw [← HK.out]; exact A.out.2.2.1
        · have hgi : ¬ (k0 : Int) < (k : Int) := by omega
          go_wp2_with (fail)
          go_quiet ((go_at_call 146; exact quiet_left (hw _)))
          go_wp2_with (fail)
          go_quiet (fail)
          go_wp2_with (fail)
          go_ret2
          refine ⟨?_, ?_, only_drewN (only_drewN A.out.2.2.2.1 _) _⟩
          · rw [bareR_at HK.out, decide_eq_false hgt]; rfl
          · rw [← HK.out]; exact A.out.2.2.1
      · have HX := Lib.hid hb
        clear hb
        have hw := fun W => wplain x W
        rw [HX.out] at hw
        go_wp2_with (fail)
        go_quiet ((go_at_call 146; exact quiet_left (hw _)))
        go_wp2_with (fail)
        go_roundg (s.size - (k + 1))
        case measure => have := A.out.1; omega
        case rel =>
          refine ⟨k + 1, rfl, by omega, hlt, ?_, (show ScanAt _ b T cs k from A.out.2.2.1).step, only_setCell (only_drewN A.out.2.2.2.1 _) (.inl rfl) _⟩
          rw [← A.out.2.1, A.out.2.2.2.2.1, if_pos HX.out]; omega
    · have hke : k = s.size := by omega
      have hkk : k = k0 + barN (s.data.toList.drop k0) := tail (by rw [drop_end s k (by omega)]; rfl)
      have HK := Lib.hid (And.intro hkk (And.intro hsc hgr))
      have hii : ¬ (k : Int) < s.size := by omega
      clear hkk hn hsum hsc hgr tail
      by_cases hgt : k0 < k
      · have hgi : (k0 : Int) < (k : Int) := by omega
        go_wp2_with (fail)
        go_quiet (fail)
        clear hke hlt hk
        go_wp2_with (fail)
        go_quiet ((go_at_call 147; exact quiet_add (hov _)))
        go_wp2_with (fail)
        go_ret2
        refine ⟨?_, ?_, only_drewN (only_drewN HK.out.2.2 _) _⟩
        · rw [bareR_at HK.out.1, decide_eq_true hgt]; rfl
        · rw [← HK.out.1]; exact HK.out.2.1
      · have hgi : ¬ (k0 : Int) < (k : Int) := by omega
        go_wp2_with (fail)
        go_quiet (fail)
        clear hke hlt hk
        go_wp2_with (fail)
        go_quiet (fail)
        go_wp2_with (fail)
        go_ret2
        refine ⟨?_, ?_, only_drewN (only_drewN HK.out.2.2 _) _⟩
        · rw [bareR_at HK.out.1, decide_eq_false hgt]; rfl
        · rw [← HK.out.1]; exact HK.out.2.1
end Go.Proofs.YthpcbaamkeiffaaGreatDoor
namespace Go.Proofs.YthpcbaamkeiffaaGreatDoor
set_option linter.unusedVariables false
set_option linter.unusedSimpArgs false

/-- How far it has come. -/
def QAt (s : ByteArray) (k0 : Nat) (xs : List UInt8) (k : Nat) : Prop :=
  k ≤ s.size ∧ k0 + 1 ≤ k ∧ xs.length ≤ k ∧ quo (s.data.toList.drop (k0 + 1)) = (quo (s.data.toList.drop k)).map fun r => (xs ++ r.1, r.2 + (k - (k0 + 1)))
theorem QAt.start {s : ByteArray} {k0 : Nat} (h : k0 < s.size) : QAt s k0 [] (k0 + 1) := by
  refine ⟨h, Nat.le_refl _, Nat.zero_le _, ?_⟩
  cases quo (s.data.toList.drop (k0 + 1)) with
  | none => rfl
  | some r => show some r = some ([] ++ r.1, r.2 + (k0 + 1 - (k0 + 1))); simp
theorem QAt.no {s : ByteArray} {k0 k : Nat} {xs : List UInt8} (h : QAt s k0 xs k) (hn : quo (s.data.toList.drop k) = none) : quo (s.data.toList.drop (k0 + 1)) = none := by
  rw [h.2.2.2, hn]; rfl
theorem QAt.done {s : ByteArray} {k0 k : Nat} {xs t : List UInt8} (h : QAt s k0 xs k) (hn : s.data.toList.drop k = 34 :: t) : quo (s.data.toList.drop (k0 + 1)) = some (xs, k + 1 - (k0 + 1)) := by
  rw [h.2.2.2, hn, quo_end]
  show some (xs ++ [], 1 + (k - (k0 + 1))) = _
  have := h.2.1
  rw [List.append_nil]; congr 2; omega
theorem QAt.step {s : ByteArray} {k0 k m : Nat} {xs u : List UInt8} {d : UInt8} (h : QAt s k0 xs k) (hm : k + m ≤ s.size) (h0 : 0 < m) (hu : s.data.toList.drop (k + m) = u) (hq : quo (s.data.toList.drop k) = (quo u).map fun r => (d :: r.1, r.2 + m)) : QAt s k0 (xs ++ [d]) (k + m) := by
  obtain ⟨h1, h2, h3, h4⟩ := h
  refine ⟨hm, by omega, by simp; omega, ?_⟩
  rw [h4, hu, hq]
  cases quo u with
  | none => rfl
  | some r => show some (xs ++ (d :: r.1), r.2 + m + (k - (k0 + 1))) = some (xs ++ [d] ++ r.1, r.2 + (k + m - (k0 + 1))); rw [List.append_assoc]; congr 2; omega
theorem at_two {s : ByteArray} {k : Nat} {a b : UInt8} {v : List UInt8} (h : s.data.toList.drop k = a :: b :: v) : k + 2 ≤ s.size ∧ (s.extract k (k + 2)).data.toList = [a, b] ∧ s.data.toList.drop (k + 2) = v := by
  have hl := congrArg List.length h
  rw [List.length_drop, size_data] at hl
  simp only [List.length_cons] at hl
  refine ⟨by omega, ?_, ?_⟩
  · rw [Lib.extract_data, show k + 2 - k = 2 by omega, h]; rfl
  · rw [← List.drop_drop, h]; rfl
theorem at_one {s : ByteArray} {k : Nat} {a : UInt8} {v : List UInt8} (h : s.data.toList.drop k = a :: v) : ∃ hk : k < s.size, s[k] = a ∧ s.data.toList.drop (k + 1) = v := by
  have hl := congrArg List.length h
  rw [List.length_drop, size_data] at hl
  simp only [List.length_cons] at hl
  have hk : k < s.size := by omega
  have := drop_at s k hk
  rw [h] at this
  exact ⟨hk, (List.cons.inj this).1.symm, (List.cons.inj this).2.symm⟩

theorem u8_ne {c : UInt8} {n : Nat} (h : n < 256) (hc : c ≠ n.toUInt8) : c.toNat ≠ n := fun e => hc (UInt8.toNat_inj.1 (by rw [e]; simp; omega))

theorem ext_one (s : ByteArray) (k : Nat) (h : k < s.size) : s.extract k (k + 1) = mkB [s[k]] := by
  apply str_ext
  rw [Lib.extract_data, mkB_data]
  rw [drop_at s k h]
  rw [show k + 1 - k = 1 by omega]
  rfl
end Go.Proofs.YthpcbaamkeiffaaGreatDoor
