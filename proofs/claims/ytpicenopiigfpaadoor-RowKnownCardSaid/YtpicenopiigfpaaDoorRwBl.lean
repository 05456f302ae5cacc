/-
  Rows of texts: more blanks, empty lines and remarks change no words; two texts, one behind the other; what is written is read back; no program is in sight; no condition.
-/
import Derived.Test.YtpicenopiigfpaaDoorRwLw
namespace Go.Proofs.YtpicenopiigfpaaDoor
set_option linter.unusedVariables false
set_option linter.unusedSimpArgs false

/-- The texts of a line's words. -/
def txL (r : Option (List Wd) × Nat) : Option (List ByteArray) := r.1.map fun ws => ws.map (·.t)
theorem txL_some {r : Option (List Wd) × Nat} {l : List ByteArray} (h : txL r = some l) : ∃ ws, r.1 = some ws ∧ ws.map (·.t) = l := by
  unfold txL at h
  cases e : r.1 with
  | none => rw [e] at h; cases h
  | some ws => rw [e] at h; exact ⟨ws, rfl, Option.some.inj h⟩
theorem wordsL_tx (f : Nat) : ∀ (o o' : Nat) (l : List UInt8), txL (wordsL f o l) = txL (wordsL f o' l) := by
  induction f with
  | zero => intro o o' l; rfl
  | succ f ih =>
    intro o o' l
    rw [wordsL_succ, wordsL_succ]
    cases e : l.drop (blN l) with
    | nil => rfl
    | cons c t =>
      dsimp only
      by_cases hc : c = 35
      · rw [if_pos hc, if_pos hc]
      · rw [if_neg hc, if_neg hc]
        cases hr : readW (c :: t) with
        | none => rfl
        | some r =>
          dsimp only
          have h := ih (o + blN l + r.2) (o' + blN l + r.2) ((c :: t).drop r.2)
          revert h
          rcases wordsL f (o + blN l + r.2) ((c :: t).drop r.2) with ⟨_ | ws, e1⟩ <;> rcases wordsL f (o' + blN l + r.2) ((c :: t).drop r.2) with ⟨_ | ws', e2⟩ <;> intro h
          · rfl
          · cases h
          · cases h
          · have h : some (ws.map (·.t)) = some (ws'.map (·.t)) := h
            show some (_ :: ws.map (·.t)) = some (_ :: ws'.map (·.t))
            rw [Option.some.inj h]
theorem lineL_tx (o o' : Nat) (l : List UInt8) : txL (lineL o l) = txL (lineL o' l) := wordsL_tx _ _ _ _
theorem lineL_tx_blank {o o' : Nat} {c : UInt8} {t : List UInt8} (h : isBl c = true) : txL (lineL o (c :: t)) = txL (lineL o' t) := by
  rw [lineL_blank h]; exact lineL_tx _ _ _

/-! A blank and a remark at the end of a line. -/
theorem quo_more (l u : List UInt8) : ∀ r, quo l = some r → quo (l ++ u) = some r := by
  induction l using quo_ind with
  | h l ih =>
    intro r hr
    rcases quo_cases l with rfl | ⟨t, rfl⟩ | ⟨c, t, rfl, h1, h2, h3, h4⟩ | ⟨c, t, rfl, h3⟩ | rfl | ⟨d, v, rfl, h⟩ | ⟨a, b, v, rfl, ha, hb⟩ | ⟨a, b, v, rfl, h⟩ | ⟨v, rfl, h⟩ | ⟨d, v, rfl, h1, h2, h3⟩
    · rw [quo_nil] at hr; cases hr
    · rw [quo_end] at hr; rw [List.cons_append, quo_end]; exact hr
    · rw [quo_plain h1 h2 ⟨h3, h4⟩] at hr
      rw [List.cons_append, quo_plain h1 h2 ⟨h3, h4⟩]
      cases e : quo t with
      | none => rw [e] at hr; cases hr
      | some x => rw [e] at hr; rw [ih t (by simp) x e]; exact hr
    · rw [quo_wrong h3] at hr; cases hr
    · rw [quo_last] at hr; cases hr
    · rw [quo_esc h] at hr
      rw [List.cons_append, List.cons_append, quo_esc h]
      cases e : quo v with
      | none => rw [e] at hr; cases hr
      | some x => rw [e] at hr; rw [ih v (by simp; omega) x e]; exact hr
    · rw [quo_hex ⟨ha, hb⟩] at hr
      rw [List.cons_append, List.cons_append, List.cons_append, List.cons_append, quo_hex ⟨ha, hb⟩]
      cases e : quo v with
      | none => rw [e] at hr; cases hr
      | some x => rw [e] at hr; rw [ih v (by simp; omega) x e]; exact hr
    · rw [quo_nohex h] at hr; cases hr
    · rw [quo_short h] at hr; cases hr
    · rw [quo_other h1 h2 h3] at hr; cases hr
theorem endL_more {l : List UInt8} {c : UInt8} {u : List UInt8} (hc : isBl c = true) (h : endL l = true) : endL (l ++ c :: u) = true := by
  cases l with
  | nil => exact hc
  | cons a t => exact h
theorem barN_more {l : List UInt8} {c : UInt8} {u : List UInt8} (hc : bareC c = false) : barN (l ++ c :: u) = barN l := by
  induction l with
  | nil => show (if bareC c then _ else 0) = 0; rw [hc, if_neg (by decide)]
  | cons a t ih =>
    rw [List.cons_append]
    unfold barN
    rw [ih]
theorem readW_more {l : List UInt8} {c : UInt8} {u : List UInt8} (hc : isBl c = true) : ∀ r, readW l = some r → readW (l ++ c :: u) = some r ∧ (l ++ c :: u).drop r.2 = l.drop r.2 ++ c :: u := by
  intro r hr
  have hle := readW_le l r hr
  have hdr : (l ++ c :: u).drop r.2 = l.drop r.2 ++ c :: u := List.drop_append_of_le_length hle.2.1
  refine ⟨?_, hdr⟩
  have hbc : bareC c = false := by
    cases h : bareC c
    · rfl
    · rw [bar_bl h] at hc; cases hc
  cases l with
  | nil => cases hr
  | cons a t =>
    have hr : (if a = 34 then readQ t else readB (a :: t)) = some r := hr
    show (if a = 34 then readQ (t ++ c :: u) else readB (a :: (t ++ c :: u))) = some r
    by_cases h34 : a = 34
    · rw [if_pos h34] at hr ⊢
      unfold readQ at hr ⊢
      cases e : quo t with
      | none => rw [e] at hr; cases hr
      | some x =>
        rw [e] at hr
        rw [quo_more t _ x e]
        have hr : (if endL (t.drop x.2) = true then some (x.1, x.2 + 1) else none) = some r := hr
        show (if endL ((t ++ c :: u).drop x.2) = true then some (x.1, x.2 + 1) else none) = some r
        by_cases h : endL (t.drop x.2) = true
        · rw [if_pos h] at hr
          rw [List.drop_append_of_le_length (quo_le t x e).2.1, if_pos (endL_more hc h)]
          exact hr
        · rw [if_neg h] at hr; cases hr
    · rw [if_neg h34] at hr ⊢
      unfold readB at hr ⊢
      rw [← List.cons_append, barN_more hbc]
      by_cases h : 0 < barN (a :: t) ∧ endL ((a :: t).drop (barN (a :: t))) = true
      · rw [if_pos h] at hr
        rw [List.drop_append_of_le_length (barN_le _), if_pos ⟨h.1, endL_more hc h.2⟩, List.take_append_of_le_length (barN_le _)]
        exact hr
      · rw [if_neg h] at hr; cases hr
theorem blN_more {l u : List UInt8} (h : l.drop (blN l) ≠ []) : blN (l ++ u) = blN l := by
  induction l with
  | nil => exact absurd rfl h
  | cons a t ih =>
    rw [List.cons_append]
    unfold blN at h ⊢
    cases hb : isBl a
    · rw [if_neg (by decide), if_neg (by decide)]
    · rw [hb, if_pos rfl] at h
      rw [if_pos rfl, if_pos rfl, ih (by simpa using h)]
theorem lineL_rest {o : Nat} {l u : List UInt8} (h : l.drop (blN l) = []) : txL (lineL o (l ++ u)) = txL (lineL o u) := by
  induction l generalizing o with
  | nil => rfl
  | cons a t ih =>
    unfold blN at h
    cases hb : isBl a
    · rw [hb, if_neg (by decide)] at h; cases h
    · rw [hb, if_pos rfl] at h
      rw [List.cons_append, lineL_tx_blank hb (o' := o)]
      exact ih (by simpa using h)
/-- More behind a line: a blank and a remark. -/
theorem lineL_remark (u : List UInt8) : ∀ (n : Nat) (l : List UInt8), l.length ≤ n → ∀ o ws, txL (lineL o l) = some ws → txL (lineL o (l ++ 32 :: 35 :: u)) = some ws := by
  intro n
  induction n with
  | zero =>
    intro l hl o ws h
    obtain rfl := List.length_eq_zero_iff.1 (Nat.le_zero.1 hl)
    rw [lineL_nil] at h
    rw [List.nil_append, lineL_tx_blank (by decide) (o' := o), lineL_rem]
    exact h
  | succ n ih =>
    intro l hl o ws h
    cases e : l.drop (blN l) with
    | nil =>
      rw [lineL_done (.inl e)] at h
      rw [lineL_rest e, lineL_tx_blank (by decide) (o' := o), lineL_rem]
      exact h
    | cons c t =>
      have e2 : (l ++ 32 :: 35 :: u).drop (blN (l ++ 32 :: 35 :: u)) = c :: (t ++ 32 :: 35 :: u) := by
        rw [blN_more (by rw [e]; simp), List.drop_append_of_le_length (blN_le l), e]; rfl
      by_cases hc : c = 35
      · subst hc
        rw [lineL_done (.inr (by rw [e]; rfl))] at h
        rw [lineL_done (.inr (by rw [e2]; rfl))]
        exact h
      · rw [lineL_word e hc] at h
        rw [lineL_word e2 hc]
        cases hr : readW (c :: t) with
        | none => rw [hr] at h; cases h
        | some r =>
          rw [hr] at h
          have hle := readW_le _ r hr
          obtain ⟨h1, h2⟩ := readW_more (c := 32) (u := 35 :: u) (by decide) r hr
          rw [List.cons_append] at h1 h2
          rw [h1]
          dsimp only at h ⊢
          rw [h2, blN_more (by rw [e]; simp)]
          have hlen : ((c :: t).drop r.2).length ≤ n := by
            have := congrArg List.length e
            rw [List.length_drop] at this
            rw [List.length_drop]
            omega
          have key : ∀ (x : Option (List Wd) × Nat) (d : Wd), txL (consW d x) = (txL x).map (d.t :: ·) := by
            intro x d
            rcases x with ⟨_ | xs, e⟩ <;> rfl
          rw [key] at h ⊢
          cases hx : txL (lineL (o + blN l + r.2) ((c :: t).drop r.2)) with
          | none => rw [hx] at h; cases h
          | some xs =>
            rw [hx] at h
            rw [ih _ hlen _ _ hx]
            exact h

/-! The texts of rows. -/
def aRow : ByteArray := ⟨#[97, 32, 114, 111, 119, 10]⟩
def textsF (rs : List Rw) : List ByteArray := rs.flatMap fun r => aRow :: r.w.map (·.t)
theorem textsF_append (a b : List Rw) : textsF (a ++ b) = textsF a ++ textsF b := by simp [textsF]
/-- What the rows of lines say; none: a fault. -/
def rowT (ws : List ByteArray) : List ByteArray := if ws = [] then [] else aRow :: ws
def linesT : List (List UInt8) → Option (List ByteArray)
  | [] => some []
  | p :: ps => match txL (lineL 0 p), linesT ps with
    | some ws, some r => some (rowT ws ++ r)
    | _, _ => none
theorem textsF_rowOf (o : Nat) (ws : List Wd) : textsF (rowOf o ws) = rowT (ws.map (·.t)) := by
  unfold rowOf rowT
  cases ws with
  | nil => rfl
  | cons a t => rw [if_neg (by simp), if_neg (by simp)]; simp [textsF]
theorem rowsF_tx : ∀ (ps : List (List UInt8)) (o : Nat), (∀ p ∈ ps, p.length ≤ 1000) →
    (∃ rs, rowsF o ps = (some rs, 0, 0) ∧ linesT ps = some (textsF rs)) ∨ (∃ e, rowsF o ps = (none, 3, e) ∧ linesT ps = none)
  | [], o, _ => .inl ⟨[], rfl, rfl⟩
  | p :: ps, o, h => by
    have hp : ¬ 1000 < p.length := by have := h p (by simp); omega
    have ht := lineL_tx 0 o p
    rcases e : lineL o p with ⟨_ | ws, e1⟩
    · rw [e] at ht
      refine .inr ⟨_, rowsF_bad hp e, ?_⟩
      unfold linesT
      rw [ht]
      rfl
    · rw [e] at ht
      rw [rowsF_line hp e]
      rcases rowsF_tx ps (o + p.length + 1) (fun q hq => h q (by simp [hq])) with ⟨rs, h1, h2⟩ | ⟨e2, h1, h2⟩
      · refine .inl ⟨rowOf o ws ++ rs, by rw [h1]; rfl, ?_⟩
        unfold linesT
        rw [ht, h2, textsF_append, textsF_rowOf]
        rfl
      · refine .inr ⟨e2, by rw [h1]; rfl, ?_⟩
        unfold linesT
        rw [ht, h2]
        rfl
theorem linesT_append (ps qs : List (List UInt8)) {a b : List ByteArray} (ha : linesT ps = some a) (hb : linesT qs = some b) : linesT (ps ++ qs) = some (a ++ b) := by
  induction ps generalizing a with
  | nil => cases ha; exact hb
  | cons p ps ih =>
    unfold linesT at ha
    rw [List.cons_append]
    unfold linesT
    cases e1 : txL (lineL 0 p) with
    | none => rw [e1] at ha; cases ha
    | some ws =>
      rw [e1] at ha
      cases e2 : linesT ps with
      | none => rw [e2] at ha; cases ha
      | some r =>
        rw [e2] at ha
        cases ha
        rw [ih e2]
        show some (rowT ws ++ (r ++ b)) = some (rowT ws ++ r ++ b)
        rw [List.append_assoc]
/-- What a short text's rows say. -/
theorem rowsR_tx (l : List UInt8) (h : l.length ≤ 1000) : (∃ rs, rowsR l = (some rs, 0, 0) ∧ linesT (splitL 10 l) = some (textsF rs)) ∨ (∃ e, rowsR l = (none, 3, e) ∧ linesT (splitL 10 l) = none) := by
  unfold rowsR
  rw [if_neg (by omega)]
  exact rowsF_tx _ 0 (fun p hp => by have := splitL_le 10 l p hp; omega)
theorem rowsR_of (l : List UInt8) (h : l.length ≤ 1000) {t : List ByteArray} (ht : linesT (splitL 10 l) = some t) : ∃ rs, rowsR l = (some rs, 0, 0) ∧ textsF rs = t := by
  rcases rowsR_tx l h with ⟨rs, h1, h2⟩ | ⟨e, h1, h2⟩
  · rw [h2] at ht; exact ⟨rs, h1, Option.some.inj ht⟩
  · rw [h2] at ht; cases ht
theorem rowsR_to (l : List UInt8) (h : l.length ≤ 1000) {rs : List Rw} {e : Int × Int} (hr : rowsR l = (some rs, e)) : linesT (splitL 10 l) = some (textsF rs) ∧ e = (0, 0) := by
  rcases rowsR_tx l h with ⟨rs', h1, h2⟩ | ⟨e', h1, h2⟩
  · rw [h1] at hr; cases hr; exact ⟨h2, rfl⟩
  · rw [h1] at hr; cases hr

/-! Blanks ahead of the first line; a blank and a remark behind the last one. -/
theorem linesT_ahead {c : UInt8} (hc : isBl c = true) (l : List UInt8) : linesT (splitL 10 (c :: l)) = linesT (splitL 10 l) := by
  have h10 : c ≠ 10 := by rintro rfl; revert hc; decide
  cases e : splitL 10 l with
  | nil => exact absurd e (splitL_ne 10 l)
  | cons p ps =>
    rw [splitL_past l h10 e]
    unfold linesT
    rw [lineL_tx_blank hc (o' := 0)]
theorem linesT_behind {u : List UInt8} (hu : (10 : UInt8) ∉ u) : ∀ (n : Nat) (l : List UInt8), l.length ≤ n → ∀ {t : List ByteArray}, linesT (splitL 10 l) = some t → linesT (splitL 10 (l ++ 32 :: 35 :: u)) = some t := by
  intro n
  induction n with
  | zero =>
    intro l hl t h
    obtain rfl := List.length_eq_zero_iff.1 (Nat.le_zero.1 hl)
    rw [List.nil_append, splitL_none (by simp [hu])]
    rw [show splitL 10 ([] : List UInt8) = [[]] from splitL_none (by simp)] at h
    unfold linesT at h ⊢
    rw [show txL (lineL 0 (32 :: 35 :: u)) = some [] from lineL_remark u 0 [] (Nat.le_refl _) 0 [] rfl]
    exact h
  | succ n ih =>
    intro l hl t h
    by_cases hm : (10 : UInt8) ∈ l
    · have hlen := posL_len hm
      obtain ⟨h1, h2⟩ := pre_app hm
      have hl2 : l ++ 32 :: 35 :: u = preL 10 l ++ 10 :: (posL 10 l ++ 32 :: 35 :: u) := by
        conv => lhs; rw [h1]
        rw [List.append_assoc]; rfl
      rw [hl2, splitL_hit h2]
      rw [splitL_pre hm] at h
      unfold linesT at h ⊢
      cases e : linesT (splitL 10 (posL 10 l)) with
      | none => rw [e] at h; cases e1 : txL (lineL 0 (preL 10 l)) <;> rw [e1] at h <;> cases h
      | some r => rw [ih _ (by omega) e]; rw [e] at h; exact h
    · rw [splitL_none hm] at h
      rw [splitL_none (by simp [hm, hu])]
      unfold linesT at h ⊢
      cases e3 : txL (lineL 0 l) with
      | none => rw [e3] at h; cases h
      | some ws =>
        rw [lineL_remark u _ _ (Nat.le_refl _) 0 ws e3]
        rw [e3] at h
        exact h

/-! The law of blanks. -/
def moreL (s t : List UInt8) : List UInt8 := 32 :: 9 :: (s ++ 10 :: (([9, 35, 32, 34, 32, 110, 111, 32, 119, 111, 114, 100] : List UInt8) ++ 10 :: (([32] : List UInt8) ++ 10 :: (32 :: 32 :: (t ++ 32 :: 35 :: [32, 97, 110, 100, 32, 34])))))
theorem blanks_law (s t : List UInt8) (hs : s.length ≤ 400) (ht : t.length ≤ 400) {a b : List Rw} {e f : Int × Int} (ha : rowsR s = (some a, e)) (hb : rowsR t = (some b, f)) :
    (∃ m, rowsR (moreL s t) = (some m, 0, 0) ∧ textsF m = textsF a ++ textsF b) ∧ (∃ m, rowsR (s ++ 10 :: t) = (some m, 0, 0) ∧ textsF m = textsF a ++ textsF b) := by
  have h1 := (rowsR_to s (by omega) ha).1
  have h2 := (rowsR_to t (by omega) hb).1
  have hlen : (moreL s t).length ≤ 1000 := by unfold moreL; simp; omega
  refine ⟨rowsR_of _ hlen ?_, rowsR_of _ (by simp; omega) ?_⟩
  · unfold moreL
    rw [linesT_ahead (by decide), linesT_ahead (by decide), splitL_append, splitL_append, splitL_append]
    refine linesT_append _ _ h1 ?_
    refine linesT_append (a := []) _ _ (by decide) ?_
    refine linesT_append (a := []) _ _ (by decide) ?_
    rw [linesT_ahead (by decide), linesT_ahead (by decide)]
    exact linesT_behind (by decide) _ _ (Nat.le_refl _) h2
  · rw [splitL_append]
    exact linesT_append _ _ h1 h2

/-! Texts of rows: read back. -/
theorem lineW_one (t : ByteArray) : lineW [t] = wrW t.data.toList := by simp [lineW]
theorem lineW_cons (t u : ByteArray) (ws : List ByteArray) : lineW (t :: u :: ws) = wrW t.data.toList ++ 32 :: lineW (u :: ws) := by simp [lineW]
theorem lineL_lineW : ∀ (ws : List ByteArray) (o : Nat), ws ≠ [] → txL (lineL o (lineW ws)) = some ws
  | [], _, h => absurd rfl h
  | [t], o, _ => by
    rw [lineW_one]
    have := lineL_wr o t.data.toList [] rfl
    rw [List.append_nil, lineL_nil] at this
    rw [this, mkB_of]
    rfl
  | t :: u :: ws, o, _ => by
    rw [lineW_cons, lineL_wr o t.data.toList _ rfl]
    have h := lineL_lineW (u :: ws) (o + (wrW t.data.toList).length + 1) (by simp)
    rw [lineL_blank (show isBl 32 = true from rfl)]
    obtain ⟨xs, h1, h2⟩ := txL_some h
    rcases e : lineL (o + (wrW t.data.toList).length + 1) (lineW (u :: ws)) with ⟨_ | ys, e1⟩
    · rw [e] at h1; cases h1
    · rw [e] at h1
      cases h1
      show some (mkB t.data.toList :: xs.map (·.t)) = _
      rw [h2, mkB_of]
theorem lineW_all : ∀ ws : List ByteArray, (lineW ws).all (fun x => decide (32 ≤ x.toNat) && decide (x.toNat ≤ 126)) = true
  | [] => rfl
  | [t] => by rw [lineW_one]; exact wrW_all _
  | t :: u :: ws => by
    rw [lineW_cons, List.all_append, wrW_all, List.all_cons, lineW_all (u :: ws)]; rfl
theorem textF_nil (out : List UInt8) : textF [] out = (some out, 0) := rfl
theorem textF_cons (r : List ByteArray) (rs : List (List ByteArray)) (out : List UInt8) : textF (r :: rs) out =
    if r = [] then (none, 3) else if 1000 < (lineW r).length ∨ 20000 < out.length + (lineW r).length + 1 then (none, 4) else textF rs (out ++ lineW r ++ [10]) := rfl
theorem textF_err : ∀ (rs : List (List ByteArray)) (out : List UInt8), (∀ r ∈ rs, r ≠ []) → (∃ s, textF rs out = (some s, 0)) ∨ textF rs out = (none, 4)
  | [], out, _ => .inl ⟨out, rfl⟩
  | r :: rs, out, h => by
    rw [textF_cons, if_neg (h r (by simp))]
    split
    · exact .inr rfl
    · exact textF_err rs _ (fun x hx => h x (by simp [hx]))
theorem textF_back : ∀ (rs : List (List ByteArray)) (out s : List UInt8) (e : Int), out.length ≤ 20000 → textF rs out = (some s, e) →
    e = 0 ∧ s.length ≤ 20000 ∧ ∃ m, s = out ++ m ∧ (∀ p ∈ splitL 10 m, p.length ≤ 1000) ∧ linesT (splitL 10 m) = some (rs.flatMap fun r => aRow :: r)
  | [], out, s, e, ho, h => by
    cases h
    exact ⟨rfl, ho, [], by simp, by rw [show splitL 10 ([] : List UInt8) = [[]] from splitL_none (by simp)]; simp, rfl⟩
  | r :: rs, out, s, e, ho, h => by
    rw [textF_cons] at h
    by_cases h1 : r = []
    · rw [if_pos h1] at h; cases h
    · rw [if_neg h1] at h
      by_cases h2 : 1000 < (lineW r).length ∨ 20000 < out.length + (lineW r).length + 1
      · rw [if_pos h2] at h; cases h
      · rw [if_neg h2] at h
        obtain ⟨e0, hl, m, hm, hp, ht⟩ := textF_back rs _ s e (by simp; omega) h
        refine ⟨e0, hl, lineW r ++ 10 :: m, by rw [hm]; simp, ?_, ?_⟩
        · rw [splitL_hit (no_line (lineW_all r))]
          intro p hp'
          rcases List.mem_cons.1 hp' with rfl | hp'
          · omega
          · exact hp p hp'
        · rw [splitL_hit (no_line (lineW_all r))]
          unfold linesT
          rw [lineL_lineW r 0 h1, ht]
          show some (rowT r ++ _) = _
          unfold rowT
          rw [if_neg h1]
          rfl
theorem text_back (rs : List (List ByteArray)) {s : List UInt8} {e : Int} (h : textF rs [] = (some s, e)) : ∃ m, rowsR s = (some m, 0, 0) ∧ textsF m = rs.flatMap (fun r => aRow :: r) ∧ s.length ≤ 20000 := by
  obtain ⟨_, hl, m, hm, hp, ht⟩ := textF_back rs [] s e (by simp) h
  rw [List.nil_append] at hm
  subst hm
  have hr : rowsR s = rowsF 0 (splitL 10 s) := by unfold rowsR; rw [if_neg (by omega)]
  rw [hr]
  rcases rowsF_tx _ 0 hp with ⟨rs', h1, h2⟩ | ⟨e', h1, h2⟩
  · rw [h2] at ht
    exact ⟨rs', h1, Option.some.inj ht, hl⟩
  · rw [h2] at ht; cases ht
theorem texts_of (rs : List Rw) : (rs.map fun r => r.w.map (·.t)).flatMap (fun r => aRow :: r) = textsF rs := by
  unfold textsF
  rw [List.flatMap_map]
end Go.Proofs.YtpicenopiigfpaaDoor
