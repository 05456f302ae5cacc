/-
  Rows of texts: how many there are, how many words they have; no program is in sight; no condition.
  Where rows and words begin, and how a reader's lists grow: plain; no condition.
  row of config's reader, walked; conditions: sizes.
-/
import Derived.Test.YthpcbaamkeiffaaGreatDoorMRwQt
import Derived.Test.YthpcbaamkeiffaaGreatDoorMCfD
import Derived.Test.YthpcbaamkeiffaaGreatDoorMCfS
namespace Go.Proofs.YthpcbaamkeiffaaGreatDoor
set_option linter.unusedVariables false
set_option linter.unusedSimpArgs false

theorem wordsL_len (f : Nat) : ∀ (o : Nat) (l : List UInt8) (ws : List Wd) (e : Nat), wordsL f o l = (some ws, e) → ws.length ≤ l.length ∧ ∀ d ∈ ws, d.t.size ≤ l.length := by
  induction f with
  | zero => intro o l ws e h; cases h; exact ⟨Nat.zero_le _, fun d hd => by cases hd⟩
  | succ f ih =>
    intro o l ws e h
    rw [wordsL_succ] at h
    cases e1 : l.drop (blN l) with
    | nil => rw [e1] at h; cases h; exact ⟨Nat.zero_le _, fun d hd => by cases hd⟩
    | cons c t =>
      rw [e1] at h
      dsimp only at h
      have hl := congrArg List.length e1
      rw [List.length_drop] at hl
      by_cases hc : c = 35
      · rw [if_pos hc] at h; cases h; exact ⟨Nat.zero_le _, fun d hd => by cases hd⟩
      · rw [if_neg hc] at h
        cases hr : readW (c :: t) with
        | none => rw [hr] at h; cases h
        | some r =>
          rw [hr] at h
          dsimp only at h
          have hle := readW_le _ r hr
          rcases e2 : wordsL f (o + blN l + r.2) ((c :: t).drop r.2) with ⟨_ | xs, x⟩
          · rw [e2] at h; cases h
          · rw [e2] at h
            cases h
            obtain ⟨h1, h2⟩ := ih _ _ _ _ e2
            rw [List.length_drop] at h1 h2
            refine ⟨by rw [List.length_cons]; omega, fun d hd => ?_⟩
            rcases List.mem_cons.1 hd with rfl | hd
            · show (mkB r.1).size ≤ _
              rw [mkB_size]; omega
            · have := h2 d hd; omega
theorem rowsF_len : ∀ (ps : List (List UInt8)) (o : Nat) (rs : List Rw) (e : Int × Int), rowsF o ps = (some rs, e) → rs.length ≤ ps.length ∧ ∀ r ∈ rs, ∃ p ∈ ps, r.w.length ≤ p.length ∧ ∀ d ∈ r.w, d.t.size ≤ p.length
  | [], o, rs, e, h => by cases h; exact ⟨Nat.le_refl _, fun r hr => by cases hr⟩
  | p :: ps, o, rs, e, h => by
    by_cases hp : 1000 < p.length
    · rw [rowsF_long hp] at h; cases h
    · rcases e1 : lineL o p with ⟨_ | ws, x⟩
      · rw [rowsF_bad hp e1] at h; cases h
      · rw [rowsF_line hp e1] at h
        rcases e2 : rowsF (o + p.length + 1) ps with ⟨_ | ys, y⟩
        · rw [e2] at h; cases h
        · rw [e2] at h
          cases h
          obtain ⟨h1, h2⟩ := rowsF_len ps _ _ _ e2
          obtain ⟨h3, h4⟩ := wordsL_len _ _ _ _ _ e1
          have hro : (rowOf o ws).length ≤ 1 ∧ ∀ r ∈ rowOf o ws, r.w = ws := by
            unfold rowOf
            split
            · exact ⟨Nat.zero_le _, fun r hr => by cases hr⟩
            · exact ⟨Nat.le_refl _, fun r hr => by simp at hr; rw [hr]⟩
          refine ⟨by rw [List.length_append, List.length_cons]; omega, fun r hr => ?_⟩
          rcases List.mem_append.1 hr with hr | hr
          · exact ⟨p, by simp, by rw [hro.2 r hr]; exact ⟨h3, h4⟩⟩
          · obtain ⟨q, hq, h5⟩ := h2 r hr
            exact ⟨q, by simp [hq], h5⟩
theorem rowsR_len (l : List UInt8) {rs : List Rw} {e : Int × Int} (h : rowsR l = (some rs, e)) : rs.length ≤ l.length + 1 ∧ ∀ r ∈ rs, r.w.length ≤ l.length ∧ ∀ d ∈ r.w, d.t.size ≤ l.length := by
  unfold rowsR at h
  by_cases hl : 20000 < l.length
  · rw [if_pos hl] at h; cases h
  · rw [if_neg hl] at h
    obtain ⟨h1, h2⟩ := rowsF_len _ _ _ _ h
    refine ⟨Nat.le_trans h1 (splitL_len 10 l), fun r hr => ?_⟩
    obtain ⟨p, hp, h3, h4⟩ := h2 r hr
    have := splitL_le 10 l p hp
    exact ⟨by omega, fun d hd => by have := h4 d hd; omega⟩
end Go.Proofs.YthpcbaamkeiffaaGreatDoor
namespace Go.Proofs.YthpcbaamkeiffaaGreatDoor
set_option linter.unusedVariables false
set_option linter.unusedSimpArgs false

theorem wordsL_pos (f : Nat) : ∀ (o : Nat) (l : List UInt8) (ws : List Wd) (e : Nat), wordsL f o l = (some ws, e) → ∀ d ∈ ws, 0 ≤ d.a ∧ d.a ≤ ((o + l.length : Nat) : Int) := by
  induction f with
  | zero => intro o l ws e h d hd; cases h; cases hd
  | succ f ih =>
    intro o l ws e h
    rw [wordsL_succ] at h
    cases e1 : l.drop (blN l) with
    | nil => rw [e1] at h; cases h; exact fun d hd => by cases hd
    | cons c t =>
      rw [e1] at h
      dsimp only at h
      have hl := congrArg List.length e1
      rw [List.length_drop] at hl
      by_cases hc : c = 35
      · rw [if_pos hc] at h; cases h; exact fun d hd => by cases hd
      · rw [if_neg hc] at h
        cases hr : readW (c :: t) with
        | none => rw [hr] at h; cases h
        | some r =>
          rw [hr] at h
          dsimp only at h
          have hle := readW_le _ r hr
          have hb := blN_le l
          rcases e2 : wordsL f (o + blN l + r.2) ((c :: t).drop r.2) with ⟨_ | xs, x⟩
          · rw [e2] at h; cases h
          · rw [e2] at h
            cases h
            have h1 := ih _ _ _ _ e2
            rw [List.length_drop] at h1
            intro d hd
            rcases List.mem_cons.1 hd with rfl | hd
            · show 0 ≤ ((o + blN l : Nat) : Int) ∧ ((o + blN l : Nat) : Int) ≤ _
              omega
            · have := h1 d hd; omega
def totL : List (List UInt8) → Nat
  | [] => 0
  | p :: ps => p.length + 1 + totL ps
theorem totL_split (c : UInt8) (l : List UInt8) : totL (splitL c l) = l.length + 1 := by
  induction l with
  | nil => rfl
  | cons x t ih =>
    by_cases h : x = c
    · subst h
      rw [splitL_at]
      show 0 + 1 + totL _ = _
      rw [ih, List.length_cons]; omega
    · cases e : splitL c t with
      | nil => exact absurd e (splitL_ne c t)
      | cons p ps =>
        rw [splitL_past t h e]
        rw [e] at ih
        have ih : p.length + 1 + totL ps = t.length + 1 := ih
        show (x :: p).length + 1 + totL ps = _
        rw [List.length_cons, List.length_cons]; omega
theorem rowsF_pos : ∀ (ps : List (List UInt8)) (o : Nat) (rs : List Rw) (e : Int × Int), rowsF o ps = (some rs, e) → ∀ r ∈ rs, r.w ≠ [] ∧ (0 ≤ r.a ∧ r.a ≤ ((o + totL ps : Nat) : Int)) ∧ ∀ d ∈ r.w, 0 ≤ d.a ∧ d.a ≤ ((o + totL ps : Nat) : Int)
  | [], o, rs, e, h => by cases h; exact fun r hr => by cases hr
  | p :: ps, o, rs, e, h => by
    have ht : totL (p :: ps) = p.length + 1 + totL ps := rfl
    by_cases hp : 1000 < p.length
    · rw [rowsF_long hp] at h; cases h
    · rcases e1 : lineL o p with ⟨_ | ws, x⟩
      · rw [rowsF_bad hp e1] at h; cases h
      · rw [rowsF_line hp e1] at h
        rcases e2 : rowsF (o + p.length + 1) ps with ⟨_ | ys, y⟩
        · rw [e2] at h; cases h
        · rw [e2] at h
          cases h
          have h2 := rowsF_pos ps _ _ _ e2
          have h4 := wordsL_pos _ _ _ _ _ e1
          intro r hr
          rcases List.mem_append.1 hr with hr | hr
          · unfold rowOf at hr
            split at hr
            · cases hr
            · rename_i hw
              simp at hr
              subst hr
              refine ⟨hw, ⟨Int.natCast_nonneg _, ?_⟩, fun d hd => ?_⟩
              · show (o : Int) ≤ _; omega
              · have := h4 d hd; omega
          · obtain ⟨g1, g2, g3⟩ := h2 r hr
            refine ⟨g1, by omega, fun d hd => ?_⟩
            have := g3 d hd; omega
theorem rowsR_pos (l : List UInt8) {rs : List Rw} {e : Int × Int} (h : rowsR l = (some rs, e)) : l.length ≤ 20000 ∧ ∀ r ∈ rs, r.w ≠ [] ∧ (0 ≤ r.a ∧ r.a ≤ 30000) ∧ ∀ d ∈ r.w, 0 ≤ d.a ∧ d.a ≤ 30000 := by
  unfold rowsR at h
  by_cases hl : 20000 < l.length
  · rw [if_pos hl] at h; cases h
  · rw [if_neg hl] at h
    have h1 := rowsF_pos _ _ _ _ h
    rw [totL_split] at h1
    refine ⟨by omega, fun r hr => ?_⟩
    obtain ⟨g1, g2, g3⟩ := h1 r hr
    refine ⟨g1, by omega, fun d hd => ?_⟩
    have := g3 d hd; omega

/-- Behind n rows no list is longer than n. -/
structure SzRd (n : Nat) (s : Rd) : Prop where
  dirs : s.c.dirs.length ≤ n
  rus : ∀ q ∈ s.c.dirs, q.rus.length ≤ n
  ros : s.c.ros.length ≤ n
  cds : s.cds.length ≤ n
  pl : s.pl.length ≤ n
theorem SzRd.zero : SzRd 0 zeroRd := ⟨Nat.le_refl _, (fun q hq => by cases hq), Nat.le_refl _, Nat.le_refl _, Nat.le_refl _⟩
/-- What a row that is read says. -/
theorem read_cases {k : Nat} {s s' : Rd} {x : Rw} {e : Int × Int} (h : readP k s x = (some s', e)) :
    (∃ v q, numW (wdN x 1) = (some v, q) ∧ s' = { s with c := { s.c with cap := v } }) ∨
    (∃ v q, numW (wdN x 1) = (some v, q) ∧ s' = { s with c := { s.c with lim := v } }) ∨
    (¬ Lib.idxOfS modesL (wdN x 2).t < 0 ∧ s' = { s with c := { s.c with dirs := s.c.dirs ++ [⟨(wdN x 1).t, Lib.idxOfS modesL (wdN x 2).t, []⟩] } }) ∨
    (∃ set f q, optsP condL false (x.w.drop 3) [false, false, false] 0 false zeroF = (some (set, f), q) ∧ s' = { s with cds := s.cds ++ [⟨(wdN x 1).t, set.getD 0 false, (wdN x 2).t, set.getD 1 false, set.getD 2 false⟩] }) ∨
    (∃ set f q, optsP ruleL true (x.w.drop 3) [false] 0 false zeroF = (some (set, f), q) ∧ s' = ⟨{ s.c with dirs := addRu s.c.dirs ⟨(wdN x 1).t, set.getD 0 false, s.cds, (wdN x 2).t, f⟩ }, [], s.pl ++ [x.a]⟩) ∨
    (∃ l, segsP (wdN x 1).t = some l ∧ ¬ Lib.idxOfS kindsL (wdN x 2).t < 0 ∧ s' = { s with c := { s.c with ros := s.c.ros ++ [⟨l, Lib.idxOfS kindsL (wdN x 2).t + 1, (wdN x 3).t⟩] } }) := by
  match k with
  | 0 =>
    rcases hn : numW (wdN x 1) with ⟨_ | v, q⟩
    · rw [readP, hn] at h; dsimp only at h; cases h
    · rw [readP, hn] at h; dsimp only at h; cases h; exact .inl ⟨v, q, rfl, rfl⟩
  | 1 =>
    rcases hn : numW (wdN x 1) with ⟨_ | v, q⟩
    · rw [readP, hn] at h; dsimp only at h; cases h
    · rw [readP, hn] at h; dsimp only at h; cases h; exact .inr (.inl ⟨v, q, rfl, rfl⟩)
  | 2 =>
    rw [readP] at h
    by_cases hi : Lib.idxOfS modesL (wdN x 2).t < 0
    · rw [if_pos hi] at h; cases h
    · rw [if_neg hi] at h; cases h; exact .inr (.inr (.inl ⟨hi, rfl⟩))
  | 3 =>
    rcases hn : optsP condL false (x.w.drop 3) [false, false, false] 0 false zeroF with ⟨_ | ⟨v, f⟩, q⟩
    · rw [readP, hn] at h; dsimp only at h; cases h
    · rw [readP, hn] at h; dsimp only at h; cases h; exact .inr (.inr (.inr (.inl ⟨v, f, q, rfl, rfl⟩)))
  | 4 =>
    rcases hn : optsP ruleL true (x.w.drop 3) [false] 0 false zeroF with ⟨_ | ⟨v, f⟩, q⟩
    · rw [readP, hn] at h; dsimp only at h; cases h
    · rw [readP, hn] at h; dsimp only at h; cases h; exact .inr (.inr (.inr (.inr (.inl ⟨v, f, q, rfl, rfl⟩))))
  | k + 5 =>
    have h : (match segsP (wdN x 1).t with
      | none => (none, 3, (wdN x 1).a)
      | some l => if Lib.idxOfS kindsL (wdN x 2).t < 0 then (none, 11, (wdN x 2).a)
        else (some { s with c := { s.c with ros := s.c.ros ++ [⟨l, Lib.idxOfS kindsL (wdN x 2).t + 1, (wdN x 3).t⟩] } }, 0, 0)) = (some s', e) := h
    rcases hn : segsP (wdN x 1).t with _ | l
    · rw [hn] at h; cases h
    · rw [hn] at h; dsimp only at h
      by_cases hi : Lib.idxOfS kindsL (wdN x 2).t < 0
      · rw [if_pos hi] at h; cases h
      · rw [if_neg hi] at h; cases h; exact .inr (.inr (.inr (.inr (.inr ⟨l, rfl, hi, rfl⟩))))
theorem SzRd.read {n k : Nat} {s s' : Rd} {x : Rw} {e : Int × Int} (h : SzRd n s) (hr : readP k s x = (some s', e)) : SzRd (n + 1) s' := by
  obtain ⟨h1, h2, h3, h4, h5⟩ := h
  have h2' : ∀ q ∈ s.c.dirs, q.rus.length ≤ n + 1 := fun q hq => Nat.le_succ_of_le (h2 q hq)
  rcases read_cases hr with ⟨v, q, _, rfl⟩ | ⟨v, q, _, rfl⟩ | ⟨_, rfl⟩ | ⟨set, f, q, _, rfl⟩ | ⟨set, f, q, _, rfl⟩ | ⟨l, _, _, rfl⟩
  · exact ⟨Nat.le_succ_of_le h1, h2', Nat.le_succ_of_le h3, Nat.le_succ_of_le h4, Nat.le_succ_of_le h5⟩
  · exact ⟨Nat.le_succ_of_le h1, h2', Nat.le_succ_of_le h3, Nat.le_succ_of_le h4, Nat.le_succ_of_le h5⟩
  · refine ⟨by simpa using h1, fun q hq => ?_, Nat.le_succ_of_le h3, Nat.le_succ_of_le h4, Nat.le_succ_of_le h5⟩
    rcases List.mem_append.1 hq with hq | hq
    · exact h2' q hq
    · simp at hq
      subst hq
      exact Nat.zero_le _
  · exact ⟨Nat.le_succ_of_le h1, h2', Nat.le_succ_of_le h3, by simpa using h4, Nat.le_succ_of_le h5⟩
  · refine ⟨by simpa [addRu] using Nat.le_succ_of_le h1, fun q hq => ?_, Nat.le_succ_of_le h3, Nat.zero_le _, by simpa using h5⟩
    unfold addRu at hq
    rcases List.mem_or_eq_of_mem_set hq with hq | rfl
    · exact h2' q hq
    · show (_ ++ [_]).length ≤ _
      rw [List.length_append, List.length_singleton]
      refine Nat.succ_le_succ ?_
      by_cases hl : s.c.dirs.length - 1 < s.c.dirs.length
      · rw [List.getD_eq_getElem?_getD, List.getElem?_eq_getElem hl]
        exact h2 _ (List.getElem_mem hl)
      · rw [List.getD_eq_getElem?_getD, List.getElem?_eq_none (by omega)]
        exact Nat.zero_le _
  · exact ⟨Nat.le_succ_of_le h1, h2', by simpa using h3, Nat.le_succ_of_le h4, Nat.le_succ_of_le h5⟩
theorem SzRd.row {n m : Nat} {last : ByteArray} {s s' : Rd} {x : Rw} {e : Int × Int} (h : SzRd n s) (hr : rowP m last s x = (some s', e)) : SzRd (n + 1) s' := by
  unfold rowP at hr
  split at hr
  · cases hr
  · split at hr
    · cases hr
    · split at hr
      · cases hr
      · exact h.read hr
end Go.Proofs.YthpcbaamkeiffaaGreatDoor
namespace Go.Proofs.YthpcbaamkeiffaaGreatDoor
open Go.RowKit Go.Shelf
set_option linter.unusedVariables false
set_option linter.unusedSimpArgs false

theorem idx_get (s : ByteArray) : ∀ (ts : List ByteArray) (k : Nat), ¬ Lib.idxFromS ts s k < 0 → ts[(Lib.idxFromS ts s k - (k : Int)).toNat]? = some s
  | [], k, h => absurd (by simp [Lib.idxFromS]) h
  | t :: ts, k, h => by
    by_cases e : t = s
    · have h1 : Lib.idxFromS (t :: ts) s k = k := by simp [Lib.idxFromS, e]
      rw [h1, Int.sub_self, e]; rfl
    · have h1 : Lib.idxFromS (t :: ts) s k = Lib.idxFromS ts s (k + 1) := by simp [Lib.idxFromS, e]
      rw [h1] at h ⊢
      rcases idxFrom_bound s ts (k + 1) with hb | hb
      · exact absurd hb h
      · rw [show (Lib.idxFromS ts s (k + 1) - (k : Int)).toNat = (Lib.idxFromS ts s (k + 1) - ((k + 1 : Nat) : Int)).toNat + 1 by omega, List.getElem?_cons_succ]
        exact idx_get s ts (k + 1) h
/-- What is asked of rows. -/
structure RsOk (rs : List Rw) : Prop where
  len : rs.length ≤ 50000
  row : ∀ x ∈ rs, x.w ≠ [] ∧ x.w.length ≤ 100000 ∧ ∀ q ∈ x.w, q.t.size ≤ 100000 ∧ 0 ≤ q.a ∧ q.a ≤ 1000000000
theorem read_code (w0 : World) (hE : Env w0) (rows : Value) (g n : Nat) (wA : Option Addr) (wc : Nat) (x : Rw) (s : Rd) (d r cs pl : Value) (L : Nat) (W : World) (h : RowAt w0 rows g W n wA wc x s d r cs pl L) (k : Nat) (hk : kindP x = (k : Int)) (hl : lowN k ≤ x.w.length) (hd : k = 4 → s.c.dirs ≠ []) (hz : SzRd n s) (hn : n ≤ 50000) :
    Calls Tryz.prog 102 #[.pointer (some ⟨g, 0, none⟩), .string (wdN x 0).t, .int .i64 x.a] W (ReadP w0 rows g n (.slice wA x.w.length wc) (readP k s x)) := by
  have hw : namesL[k]? = some (wdN x 0).t := by
    have h1 := idx_get (wdN x 0).t namesL 0 (by have : Lib.idxFromS namesL (wdN x 0).t 0 = (k : Int) := hk; omega)
    have h2 : Lib.idxFromS namesL (wdN x 0).t 0 = (k : Int) := hk
    rw [h2] at h1
    simpa using h1
  match k, hl, hd, hw with
  | 0, hl, _, hw =>
    have e : sCap = (wdN x 0).t := Option.some.inj hw
    rw [← e]
    exact read_cap w0 hE rows g n wA wc x s d r cs pl L W h x.a hl
  | 1, hl, _, hw =>
    have e : sLimit = (wdN x 0).t := Option.some.inj hw
    rw [← e]
    exact read_limit w0 hE rows g n wA wc x s d r cs pl L W h x.a hl
  | 2, hl, _, hw =>
    have e : sDir = (wdN x 0).t := Option.some.inj hw
    rw [← e]
    exact read_dir w0 hE rows g n wA wc x s d r cs pl L W h x.a hl (by have := hz.dirs; omega)
  | 3, hl, _, hw =>
    have e : sIf = (wdN x 0).t := Option.some.inj hw
    rw [← e]
    exact read_if w0 hE rows g n wA wc x s d r cs pl L W h x.a hl (by have := hz.cds; omega)
  | 4, hl, hd, hw =>
    have e : sRule = (wdN x 0).t := Option.some.inj hw
    rw [← e]
    exact read_rule w0 hE rows g n wA wc x s d r cs pl L W h hl (hd rfl) (by have := hz.dirs; omega) (fun q hq => by have := hz.rus q hq; omega) (by have := hz.pl; omega)
  | 5, hl, _, hw =>
    have e : sRoute = (wdN x 0).t := Option.some.inj hw
    rw [← e]
    exact read_route w0 hE rows g n wA wc x s d r cs pl L W h x.a hl (by have := hz.ros; omega)
  | k + 6, _, _, hw => cases hw
theorem use_key2 {P : Prop} {G : Nat → Nat → World → Prop} (S : Nat → Nat → World → Prop) (h1 : (∀ b m V, S b m V → G b m V) → P) (h2 : ∀ b m V, S b m V → G b m V) : P := h1 h2
/-- What row leaves behind. -/
def RowP (w0 : World) (rows : Value) (g n : Nat) (res : Option Rd × Int × Int) (e : Ending) (W' : World) : Prop := match res with
  | (some s', _) => e = .returned (.bool true) ∧ ∃ u vw d r cs pl L, RdAt w0 rows g W' (n + 1) u vw s' d r cs pl L
  | (none, er, a) => e = .returned (.bool false) ∧ ∃ cells : Array Value, Blk W' g 92 cells ∧ cells[4]? = some (.int .i64 er) ∧ cells[5]? = some (.int .i64 a) ∧ Below w0.heap.size w0 W'
/-- What the table says of a word. -/
theorem look_form (s : ByteArray) : ∃ (lo hi : Int) (kn : Bool), lookV s = .tuple #[.agg #[.int .i64 lo, .int .i64 hi], .bool kn] ∧ kn = !decide (Lib.idxOfS namesL s < 0) ∧ (kn = true → lo = (lowN (Lib.idxOfS namesL s).toNat : Int) ∧ hi = (highN (Lib.idxOfS namesL s).toNat : Int)) := by
  unfold lookV
  by_cases h : Lib.idxOfS namesL s < 0
  · rw [if_pos h, decide_eq_true h]
    exact ⟨0, 0, false, rfl, rfl, fun h => by cases h⟩
  · rw [if_neg h, decide_eq_false h]
    exact ⟨_, _, true, rfl, rfl, fun _ => ⟨rfl, rfl⟩⟩
theorem shape_look' {W : World} {b : Nat} {lo hi : Int} {kn : Bool} (hm : W.heap[b]? = some (.map shE 6)) (s : ByteArray) (hs : s.size ≤ maxLen) (hl : lookV s = .tuple #[.agg #[.int .i64 lo, .int .i64 hi], .bool kn]) :
    (Instr.lookup 162 (.map (some b)) (.string s) true).run Tryz.prog W = .ok (.tuple #[.agg #[.int .i64 lo, .int .i64 hi], .bool kn]) W := by
  rw [← hl]
  exact shape_look hm s hs
set_option maxRecDepth 100000 in
set_option maxHeartbeats 8000000 in
theorem row_code (w0 : World) (hE : Env w0) (rs : List Rw) (rows : Value) (hr : RowsIn w0 rows rs) (ho : RsOk rs) (g n u : Nat) (vw : Value) (s : Rd) (d r cs pl : Value) (L : Nat) (W : World) (h : RdAt w0 rows g W n u vw s d r cs pl L) (hn : n < rs.length) (hz : SzRd n s) (last : ByteArray)
    (hlast : 0 < n → last = (wdN (rs.getD (n - 1) ⟨0, []⟩) 0).t) :
    Calls Tryz.prog 77 #[.pointer (some ⟨g, 0, none⟩)] W (RowP w0 rows g n (rowP n last s (rs.getD n ⟨0, []⟩))) := by
  obtain ⟨x, hx⟩ : ∃ x, rs[n]? = some x := ⟨_, List.getElem?_eq_getElem hn⟩
  have hxd : rs.getD n ⟨0, []⟩ = x := by rw [List.getD_eq_getElem?_getD, hx]; rfl
  rw [hxd]
  obtain ⟨hw0, hwl, hwz⟩ := ho.row x (List.mem_of_getElem? hx)
  have hnl := ho.len
  have hst := fun V (hV : RdAt w0 rows g V n u vw s d r cs pl L) => stands_code w0 rs rows hr g n u vw s d r cs pl L V hV (by omega) (by omega) (fun x hx => (ho.row x hx).1) (wdN x 0).t last hlast
  obtain ⟨rA, rc, vs, hrv, _, hA, hvs, hin⟩ := hr
  subst hrv
  obtain ⟨v, hv⟩ : ∃ v, vs[n]? = some v := ⟨_, List.getElem?_eq_getElem (by omega)⟩
  obtain ⟨ab, ao, hrA, hab, e0, e1⟩ := cells_rw (hA.below h.bel) hx hv
  subst hrA
  obtain ⟨wA, wc, hvw, _, hwA⟩ := hin n x v hx hv
  subst hvw
  have hw1 := List.length_pos_iff.2 hw0
  obtain ⟨y, hy⟩ : ∃ y, x.w[0]? = some y := ⟨_, List.getElem?_eq_getElem hw1⟩
  have hyd : wdN x 0 = y := by unfold wdN; rw [List.getD_eq_getElem?_getD, hy]; rfl
  obtain ⟨bb, bo, hwAe, hbb, _⟩ := hwA hw1
  have hfar : ∀ a, wA = some a → a.block < g := fun a ha => by
    rw [hwAe] at ha
    cases ha
    exact Nat.lt_of_lt_of_le hbb h.old
  have hyz := hwz y (List.mem_of_getElem? hy)
  obtain ⟨bb', bo', hwAe', _, f0, f1, f2⟩ := cells_wd (hwA.below h.bel) hy
  rw [Nat.zero_mul, Nat.add_zero] at f0 f1 f2
  have hh := hwAe.symm.trans hwAe'
  cases hh
  subst hwAe
  clear hwAe'
  obtain ⟨xa, hxa⟩ : ∃ q, q = x.a := ⟨_, rfl⟩
  obtain ⟨nw, hnw⟩ : ∃ q, q = x.w.length := ⟨_, rfl⟩
  obtain ⟨yt, hyt⟩ : ∃ q, q = y.t := ⟨_, rfl⟩
  obtain ⟨ya, hya⟩ : ∃ q, q = y.a := ⟨_, rfl⟩
  obtain ⟨yq, hyq⟩ : ∃ q, q = y.q := ⟨_, rfl⟩
  obtain ⟨rn, hrn⟩ : ∃ q, q = rs.length := ⟨_, rfl⟩
  rw [hyd, ← hyt] at hst
  rw [← hrn] at hst h ⊢
  have hrd : ∀ V, RdAt w0 (.slice (some ⟨ab, ao, none⟩) rn rc) g V n 1 (.slice (some ⟨bb, bo, none⟩) x.w.length wc) s d r cs pl L → standsP n last yt s.c = true → ∀ k : Nat, kindP x = (k : Int) → lowN k ≤ x.w.length →
      Calls Tryz.prog 102 #[.pointer (some ⟨g, 0, none⟩), .string yt, .int .i64 xa] V (ReadP w0 (.slice (some ⟨ab, ao, none⟩) rn rc) g n (.slice (some ⟨bb, bo, none⟩) x.w.length wc) (readP k s x)) := by
    intro V hV hs k hk hl
    have hrc := read_code w0 hE (.slice (some ⟨ab, ao, none⟩) rn rc) g n (some ⟨bb, bo, none⟩) wc x s d r cs pl L V ⟨hV, hwA.below hV.bel, hfar, hwz, hwl⟩ k hk hl (by
      rintro rfl hd0
      have hw : (wdN x 0).t = sRule := by
        have h1 := idx_get (wdN x 0).t namesL 0 (by have : Lib.idxFromS namesL (wdN x 0).t 0 = ((4 : Nat) : Int) := hk; omega)
        have h2 : Lib.idxFromS namesL (wdN x 0).t 0 = ((4 : Nat) : Int) := hk
        rw [h2] at h1
        exact (Option.some.inj h1).symm
      rw [hyt, ← hyd, hw] at hs
      unfold standsP at hs
      split at hs
      · have := of_decide_eq_true hs
        exact absurd this.2 (by decide)
      · split at hs
        · have := of_decide_eq_true hs
          exact absurd this.2 (by decide)
        · rw [if_pos (.inr rfl)] at hs
          exact (of_decide_eq_true hs).1 (by rw [hd0]; rfl)) hz (by omega)
    rw [hyd, ← hyt, ← hxa] at hrc
    exact hrc
  have hgb := h.blk
  have hbw := Nat.lt_of_lt_of_le hbb h.bel.size
  have c0 : W.cell? ⟨g, 0, none⟩ = some (.slice (some ⟨ab, ao, none⟩) rn rc) := hgb.cell' (i := 0) rfl
  have c1 : W.cell? ⟨g, 1, none⟩ = some (.int .i64 (n : Int)) := hgb.cell' (i := 1) rfl
  have hgl := hgb.lt
  have hi0 : (n : Int) < rn := by omega
  have hi1 : (0 : Int) < nw := by omega
  have hn5 : n ≤ 50000 := by omega
  have hysz : yt.size ≤ maxLen := by have := hyz.1; rw [hyt]; unfold maxLen; omega
  rw [← hxa] at e0
  rw [← hnw] at e1
  rw [← hya] at f0
  rw [← hyt] at f1
  rw [← hyq] at f2
  obtain ⟨res, hres⟩ : ∃ q, q = rowP n last s x := ⟨_, rfl⟩
  rw [← hres]
  have hrow : res = if Lib.idxOfS namesL yt < 0 ∨ yq = true then (none, 11, xa) else if standsP n last yt s.c = false then (none, 8, xa) else if nw < lowN (Lib.idxOfS namesL yt).toNat ∨ highN (Lib.idxOfS namesL yt).toNat < nw then (none, 3, xa) else readP (Lib.idxOfS namesL yt).toNat s x := by
    rw [hres]
    unfold rowP kindP
    rw [hyd, ← hyt, ← hyq, ← hnw, ← hxa]
  obtain ⟨lo, hi, kn, hlv, hkn, hlh⟩ := look_form yt
  have hkp : kindP x = Lib.idxOfS namesL yt := by unfold kindP; rw [hyd, ← hyt]
  obtain ⟨W1, hW1⟩ : ∃ V, V = W.alloc (.cells #[.int .i64 xa, .slice (some ⟨bb, bo, none⟩) nw wc] 77) := ⟨_, rfl⟩
  have H := Lib.hid (And.intro h (And.intro hrow (And.intro hnw (And.intro hkp (And.intro hkn hlh)))))
  clear h hgb hA hvs hin hwA hE hz hlast ho hx hxd hv hy hyd hw0 hwl hwz hnl hw1 hbb hfar hyz hxa hnw hyt hya hyq hrn hres hrow hkp hkn hlh hn W1 hW1
  obtain ⟨post, hpost⟩ : ∃ p, p = RowP w0 (.slice (some ⟨ab, ao, none⟩) rn rc) g n res := ⟨_, rfl⟩
  rw [← hpost]
  have HP := Lib.hid hpost
  have HST := Lib.hid (And.intro hst hrd)
  clear hpost hst hrd
  go_enter Tryz.func77, Tryz.ntmps77
  go_wp2_with (fail)
  go_region
  all_goals go_wp2_with (fail)
  have hX2 : Below W.heap.size W (((W.alloc (.cells #[.int .i64 xa, .slice (some ⟨bb, bo, none⟩) nw wc] 77)).alloc (.cells #[.int .i64 ya, .string yt, .bool yq] 116)).drew) := gr_drew (gr_alloc (gr_alloc (Below.refl _ _) _) _)
  have hbr : Blk (((W.alloc (.cells #[.int .i64 xa, .slice (some ⟨bb, bo, none⟩) nw wc] 77)).alloc (.cells #[.int .i64 ya, .string yt, .bool yq] 116)).drew) W.heap.size 77 #[.int .i64 xa, .slice (some ⟨bb, bo, none⟩) nw wc] := ((Blk.new _ _ _).alloc _).drew
  have hbd : Blk (((W.alloc (.cells #[.int .i64 xa, .slice (some ⟨bb, bo, none⟩) nw wc] 77)).alloc (.cells #[.int .i64 ya, .string yt, .bool yq] 116)).drew) (W.heap.size + 1) 116 #[.int .i64 ya, .string yt, .bool yq] := blk_at (by simp)
  obtain ⟨br, hbre⟩ : ∃ b, b = W.heap.size := ⟨_, rfl⟩
  obtain ⟨bd, hbde⟩ : ∃ b, b = W.heap.size + 1 := ⟨_, rfl⟩
  rw [← hbde] at hbd ⊢
  rw [← hbre] at hbr ⊢
  generalize (((W.alloc (.cells #[.int .i64 xa, .slice (some ⟨bb, bo, none⟩) nw wc] 77)).alloc (.cells #[.int .i64 ya, .string yt, .bool yq] 116)).drew) = W2 at hX2 hbr hbd ⊢
  have K := Lib.hid (And.intro hX2 (And.intro hbr hbd))
  have d0 : W2.cell? ⟨bd, 0, none⟩ = some (.int .i64 ya) := hbd.cell' (i := 0) rfl
  have d1 : W2.cell? ⟨bd, 1, none⟩ = some (.string yt) := hbd.cell' (i := 1) rfl
  have dl := hbd.lt
  clear hX2 hbr hbd hbre hbde c0 c1 e0 e1 f0 f1 f2 hab hbw hgl hi0 hi1
  apply use_key2 (S := fun bx _ V => Below W2.heap.size W2 V ∧ Blk V bx 160 #[.int .i64 lo, .int .i64 hi])
  case h1 =>
    intro key
    go_region_with (first
      | (go_at_call 99; refine (shapes_code _).mono ?_; rintro e W3 ⟨rfl, hm, hb3⟩
         have hml := (Array.getElem?_eq_some_iff.1 hm).1
         have q2 := hb3.size
         first
           | (have hlk1 := shape_look' (W := W3) (b := W2.heap.size) hm yt hysz hlv
              have hlk3 := shape_look' (W := W3.alloc (.cells #[.int .i64 0, .int .i64 0] 160)) (b := W2.heap.size) ((heap_alloc_old W3 _ hml).trans hm) yt hysz hlv
              have q1 : W3.cell? ⟨bd, 1, none⟩ = some (.string yt) := (by first | exact (K.out.2.2.drew.call hb3).cell' (i := 1) rfl | exact (K.out.2.2.call hb3).cell' (i := 1) rfl)
              have q3 := (by first | exact (K.out.2.2.drew.call hb3).lt | exact (K.out.2.2.call hb3).lt))
           | (have hlk2 := shape_look' (W := W3) (b := W2.heap.size + 1) (by simpa using hm) yt hysz hlv
              have q1 : W3.cell? ⟨bd, 1, none⟩ = some (.string yt) := (by first | exact ((K.out.2.2.alloc _).call hb3).cell' (i := 1) rfl | exact ((K.out.2.2.alloc _).drew.call hb3).cell' (i := 1) rfl)
              have hbz : Blk W3 W2.heap.size 160 #[.int .i64 0, .int .i64 0] := (by first | exact (Blk.new _ _ _).call hb3 | exact (Blk.new _ _ _).drew.call hb3)
              have z0 : W3.cell? ⟨W2.heap.size, 0, none⟩ = some (.int .i64 0) := hbz.cell' (i := 0) rfl
              have z1 : W3.cell? ⟨W2.heap.size, 1, none⟩ = some (.int .i64 0) := hbz.cell' (i := 1) rfl
              have z0f := hbz.frozen 0
              have z1f := hbz.frozen 1
              have zl := hbz.lt)))
    all_goals first
      | (have hq := hlk3
         refine gen_at (p := fun V => Below W2.heap.size W2 V ∧ Blk V W3.heap.size 160 #[.int .i64 lo, .int .i64 hi]) ⟨gr_alloc (by first | exact hb3 | exact gr_call (gr_drew (Below.refl _ _)) hb3) _, Blk.new _ _ _⟩ ?_
         obtain ⟨bx, hbx⟩ : ∃ b, b = W3.heap.size := ⟨_, rfl⟩
         rw [← hbx]
         obtain ⟨mb, hmb⟩ : ∃ b, b = W2.heap.size := ⟨_, rfl⟩
         rw [← hmb]
         intro V hV
         exact key bx mb V ⟨by first | exact hV.1 | (rw [← hmb]; exact hV.1), hV.2⟩)
      | (have hq := hbz
         refine gen_at (p := fun V => Below W2.heap.size W2 V ∧ Blk V W2.heap.size 160 #[.int .i64 lo, .int .i64 hi]) ⟨(gr_call (by first | exact gr_alloc (Below.refl _ _) _ | exact gr_drew (gr_alloc (Below.refl _ _) _)) hb3).setCell (Nat.le_refl _) _ |>.setCell (Nat.le_refl _) _, (hbz.set_ 0 (.int .i64 lo)).set_ 1 (.int .i64 hi)⟩ ?_
         obtain ⟨mb, hmb⟩ : ∃ b, b = W2.heap.size + 1 := ⟨_, rfl⟩
         rw [← hmb]
         obtain ⟨bx, hbx⟩ : ∃ b, b = W2.heap.size := ⟨_, rfl⟩
         rw [← hbx]
         intro V hV
         exact key bx mb V ⟨by rw [← hbx]; exact hV.1, hV.2⟩)
  case h2 =>
    intro bx mb V hV
    obtain ⟨hV1, hV2⟩ := hV
    have hbV := K.out.1.trans (hV1.mono K.out.1.size)
    have hrV := H.out.1.below hbV
    have hrb := K.out.2.1.call hV1
    have hdb := K.out.2.2.call hV1
    have r0 : V.cell? ⟨br, 0, none⟩ = some (.int .i64 xa) := hrb.cell' (i := 0) rfl
    have r1 : V.cell? ⟨br, 1, none⟩ = some (.slice (some ⟨bb, bo, none⟩) nw wc) := hrb.cell' (i := 1) rfl
    have rl := hrb.lt
    have b1 : V.cell? ⟨bd, 1, none⟩ = some (.string yt) := hdb.cell' (i := 1) rfl
    have b2 : V.cell? ⟨bd, 2, none⟩ = some (.bool yq) := hdb.cell' (i := 2) rfl
    have bl := hdb.lt
    have t0 : V.cell? ⟨bx, 0, none⟩ = some (.int .i64 lo) := hV2.cell' (i := 0) rfl
    have t1 : V.cell? ⟨bx, 1, none⟩ = some (.int .i64 hi) := hV2.cell' (i := 1) rfl
    have tl := hV2.lt
    have gl := hrV.blk.lt
    have hf := fun (er : Int) U (hU : RdAt w0 (.slice (some ⟨ab, ao, none⟩) rn rc) g U n u vw s d r cs pl L) => fails_code g _ _ er xa U hU.blk rfl rfl
    have HV := Lib.hid (And.intro hrV (And.intro hrb (And.intro hdb (And.intro hV2 hf))))
    clear hV1 hV2 hbV hrV hrb hdb hf d0 d1 dl
    cases kn with
    | false =>
      go_wp2_with (fail)
      go_still_tail 5, (by kernel_rfl)
      go_wp2_with (fail)
      refine (HV.out.2.2.2.2 11 _ (HV.out.1.drewN _)).mono ?_
      rintro e W5 ⟨rfl, hb5, hg5⟩
      have Z := Lib.hid (And.intro hb5 hg5)
      clear hb5 hg5
      go_wp2_with (fail)
      rw [HP.out, H.out.2.1, if_pos (.inl (by have := H.out.2.2.2.2.1; simpa using this))]
      exact ⟨rfl, _, Z.out.1, rfl, rfl, (HV.out.1.drewN _).bel' Z.out.2⟩
    | true =>
      have hkn0 : ¬ Lib.idxOfS namesL yt < 0 := by have := H.out.2.2.2.2.1; simpa using this
      obtain ⟨hlo, hhi⟩ := H.out.2.2.2.2.2 rfl
      obtain ⟨kk, hkk⟩ : ∃ k, k = (Lib.idxOfS namesL yt).toNat := ⟨_, rfl⟩
      rw [← hkk] at hlo hhi
      have hkp : kindP x = (kk : Int) := by rw [H.out.2.2.2.1, hkk]; omega
      cases yq with
      | true =>
        go_wp2_with (fail)
        go_still_tail 5, (by kernel_rfl)
        go_wp2_with (fail)
        refine (HV.out.2.2.2.2 11 _ (HV.out.1.drewN _)).mono ?_
        rintro e W5 ⟨rfl, hb5, hg5⟩
        have Z := Lib.hid (And.intro hb5 hg5)
        clear hb5 hg5
        go_wp2_with (fail)
        rw [HP.out, H.out.2.1, if_pos (Or.inr trivial : Lib.idxOfS namesL yt < 0 ∨ True)]
        exact ⟨rfl, _, Z.out.1, rfl, rfl, (HV.out.1.drewN _).bel' Z.out.2⟩
      | false =>
        have hno : ¬ (Lib.idxOfS namesL yt < 0 ∨ false = true) := by rintro (h | h); exact hkn0 h; cases h
        have HK := Lib.hid (And.intro hno (And.intro hkk (And.intro hkp (And.intro hlo hhi))))
        clear hno hkk hkp hlo hhi hkn0
        go_wp2_with (fail)
        refine (HST.out.1 _ HV.out.1).mono ?_
        rintro e W5 ⟨rfl, q, rfl⟩
        have hU1 := HV.out.1.drewN q
        have hU2 := HV.out.2.1.drewN q
        have hU3 := HV.out.2.2.1.drewN q
        have hU4 := HV.out.2.2.2.1.drewN q
        clear r0 r1 rl b1 b2 bl t0 t1 tl gl
        generalize V.drewN q = U at hU1 hU2 hU3 hU4 ⊢
        have r0 : U.cell? ⟨br, 0, none⟩ = some (.int .i64 xa) := hU2.cell' (i := 0) rfl
        have r1 : U.cell? ⟨br, 1, none⟩ = some (.slice (some ⟨bb, bo, none⟩) nw wc) := hU2.cell' (i := 1) rfl
        have rl := hU2.lt
        have b1 : U.cell? ⟨bd, 1, none⟩ = some (.string yt) := hU3.cell' (i := 1) rfl
        have bl := hU3.lt
        have t0 : U.cell? ⟨bx, 0, none⟩ = some (.int .i64 lo) := hU4.cell' (i := 0) rfl
        have t1 : U.cell? ⟨bx, 1, none⟩ = some (.int .i64 hi) := hU4.cell' (i := 1) rfl
        have tl := hU4.lt
        have gl := hU1.blk.lt
        have HU := Lib.hid (And.intro hU1 (And.intro hU2 hU3))
        clear hU1 hU2 hU3 hU4
        obtain ⟨sb, hsb⟩ : ∃ b, b = standsP n last yt s.c := ⟨_, rfl⟩
        rw [← hsb]
        have HS := Lib.hid hsb
        clear hsb
        cases sb with
        | false =>
          go_wp2_with (fail)
          go_still_tail 5, (by kernel_rfl)
          go_wp2_with (fail)
          refine (HV.out.2.2.2.2 8 _ (HU.out.1.drewN _)).mono ?_
          rintro e W5 ⟨rfl, hb5, hg5⟩
          have Z := Lib.hid (And.intro hb5 hg5)
          clear hb5 hg5
          go_wp2_with (fail)
          rw [HP.out, H.out.2.1, if_neg HK.out.1, if_pos HS.out.symm]
          exact ⟨rfl, _, Z.out.1, rfl, rfl, (HU.out.1.drewN _).bel' Z.out.2⟩
        | true =>
          have hst0 : ¬ standsP n last yt s.c = false := by rw [← HS.out]; decide
          by_cases hl1 : nw < lowN kk
          · have hl2 : (nw : Int) < lo := by rw [HK.out.2.2.2.1]; omega
            have HL := Lib.hid (And.intro hl1 hst0)
            clear hl1 hst0
            go_wp2_with (fail)
            go_still_tail 5, (by kernel_rfl)
            go_wp2_with (fail)
            refine (HV.out.2.2.2.2 3 _ (HU.out.1.drewN _)).mono ?_
            rintro e W5 ⟨rfl, hb5, hg5⟩
            have Z := Lib.hid (And.intro hb5 hg5)
            clear hb5 hg5
            go_wp2_with (fail)
            rw [HP.out, H.out.2.1, if_neg HK.out.1, if_neg HL.out.2, ← HK.out.2.1, if_pos (.inl HL.out.1)]
            exact ⟨rfl, _, Z.out.1, rfl, rfl, (HU.out.1.drewN _).bel' Z.out.2⟩
          · have hl2 : ¬ (nw : Int) < lo := by rw [HK.out.2.2.2.1]; omega
            by_cases hh1 : highN kk < nw
            · have hh2 : hi < (nw : Int) := by rw [HK.out.2.2.2.2]; omega
              have HL := Lib.hid (And.intro hh1 hst0)
              clear hl1 hst0 hh1
              go_wp2_with (fail)
              go_still_tail 5, (by kernel_rfl)
              go_wp2_with (fail)
              refine (HV.out.2.2.2.2 3 _ (HU.out.1.drewN _)).mono ?_
              rintro e W5 ⟨rfl, hb5, hg5⟩
              have Z := Lib.hid (And.intro hb5 hg5)
              clear hb5 hg5
              go_wp2_with (fail)
              rw [HP.out, H.out.2.1, if_neg HK.out.1, if_neg HL.out.2, ← HK.out.2.1, if_pos (.inr HL.out.1)]
              exact ⟨rfl, _, Z.out.1, rfl, rfl, (HU.out.1.drewN _).bel' Z.out.2⟩
            · have hh2 : ¬ hi < (nw : Int) := by rw [HK.out.2.2.2.2]; omega
              have hRq := HU.out.1
              have g2 : U.cell? ⟨g, 2, none⟩ = some vw := HU.out.1.blk.cell' (i := 2) rfl
              have g3 : U.cell? ⟨g, 3, none⟩ = some (.int .i64 (u : Int)) := HU.out.1.blk.cell' (i := 3) rfl
              have gf2 := HU.out.1.blk.frozen 2
              have gf3 := HU.out.1.blk.frozen 3
              have hbrg : br ≠ g := HU.out.2.1.ne_ HU.out.1.blk (by decide)
              have hbdg : bd ≠ g := HU.out.2.2.ne_ HU.out.1.blk (by decide)
              have hRs : RdAt w0 (.slice (some ⟨ab, ao, none⟩) rn rc) g ((U.setCell ⟨g, 2, none⟩ (.slice (some ⟨bb, bo, none⟩) nw wc)).setCell ⟨g, 3, none⟩ (.int .i64 1)) n 1 (.slice (some ⟨bb, bo, none⟩) x.w.length wc) s d r cs pl L := by
                rw [← H.out.2.2.1]
                exact hRq.step (only_setCell (only_setCell (only_refl _ _) (p := ⟨g, 2, none⟩) (Or.inl rfl) _) (p := ⟨g, 3, none⟩) (Or.inl rfl) _) ((hRq.blk.set_ 2 _).set_ 3 _) rfl rfl rfl rfl
              have hrc := HST.out.2 _ hRs HS.out.symm kk HK.out.2.2.1 (by rw [← H.out.2.2.1]; omega)
              obtain ⟨rp, hrp⟩ : ∃ q, q = readP kk s x := ⟨_, rfl⟩
              rw [← hrp] at hrc
              have HL := Lib.hid (And.intro hl1 (And.intro hh1 (And.intro hst0 (And.intro hrp hRs))))
              clear hl1 hst0 hh1 hrp hRq hRs
              go_wp2_with (fail)
              refine hrc.mono ?_
              rintro e W6 hm
              clear hrc
              have hres : res = rp := by
                rw [H.out.2.1, if_neg HK.out.1, if_neg HL.out.2.2.1, ← HK.out.2.1, if_neg (by rintro (h | h); exact HL.out.1 h; exact HL.out.2.1 h), HL.out.2.2.2.1]
              have HR := Lib.hid hres
              clear hres r0 r1 rl b1 bl t0 t1 tl g2 g3 gf2 gf3 hl2 hh2
              obtain ⟨rv, er, ea⟩ := rp
              cases rv with
              | none =>
                obtain ⟨rfl, cells, h1, h2, h3, h4⟩ := hm
                have Z := Lib.hid (And.intro h1 (And.intro h2 (And.intro h3 h4)))
                clear h1 h2 h3 h4
                go_wp2_with (fail)
                rw [HP.out, HR.out]
                exact ⟨rfl, cells, Z.out.1, Z.out.2.1, Z.out.2.2.1, Z.out.2.2.2⟩
              | some s' =>
                obtain ⟨rfl, u', d', r', cs', pl', L', hR⟩ := hm
                have k1 : W6.cell? ⟨g, 1, none⟩ = some (.int .i64 (n : Int)) := hR.blk.cell' (i := 1) rfl
                have k1f := hR.blk.frozen 1
                have kl := hR.blk.lt
                have Z := Lib.hid hR
                clear hR
                go_wp2_with (fail)
                rw [HP.out, HR.out]
                refine ⟨rfl, u', _, d', r', cs', pl', L', Z.out.step (only_setCell (only_refl _ _) (Or.inl rfl) _) (Z.out.blk.set_ 1 _) rfl rfl rfl rfl⟩
end Go.Proofs.YthpcbaamkeiffaaGreatDoor
