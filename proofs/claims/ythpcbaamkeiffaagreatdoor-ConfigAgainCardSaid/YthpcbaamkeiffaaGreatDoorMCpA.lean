/-
  Flags without error are read back from their texts, by the kernel's own reckoning over the few flags that there are; what a text says can be written: plain; no condition.
-/
import Derived.Test.YthpcbaamkeiffaaGreatDoorMCfX
namespace Go.Proofs.YthpcbaamkeiffaaGreatDoor
set_option linter.unusedVariables false
set_option linter.unusedSimpArgs false

def redAt (k : Nat) : Int := ([301, 302, 303, 307, 308] : List Int).getD k 0
/-- The way, by a number from 0 to 74; 0 to 3: letters; 4, 5: alone; 6: none; 7 to 69: skips; 70 to 74: codes. -/
def wayF (i : Nat) (a d : Bool) : Flg :=
  ⟨decide (i = 0), decide (i = 1), decide (i = 2), decide (i = 3), decide (i = 4), decide (i = 5), decide (i ≠ 4) && (decide (i ≠ 5) && a), decide (i ≠ 4) && (decide (i ≠ 5) && d), if 7 ≤ i ∧ i < 70 then (i : Int) - 6 else 0, if 70 ≤ i then redAt (i - 70) else 0⟩
def backF (f : Flg) : Bool := decide (parseS (ftxV f) = (f, 0, 0)) && (isBr (ftxV f) || (decide (f = zeroF) && decide ((ftxV f).size = 0)))
theorem back_all : ∀ i : Fin 75, ∀ x : Fin 3, backF (wayF i.val (x.val == 0) (x.val == 1)) = true := by decide +kernel
theorem back_of {i : Nat} {a b : Bool} (hi : i < 75) (hab : a = true → b = false) : backF (wayF i a b) = true := by
  cases a
  · cases b
    · exact back_all ⟨i, hi⟩ 2
    · exact back_all ⟨i, hi⟩ 1
  · rw [hab rfl]
    exact back_all ⟨i, hi⟩ 0
theorem toNat_one (b : Bool) : b.toNat = 0 ∧ b = false ∨ b.toNat = 1 ∧ b = true := by cases b; exact .inl ⟨rfl, rfl⟩; exact .inr ⟨rfl, rfl⟩
set_option maxHeartbeats 1000000 in
theorem way_of {f : Flg} (h : chkF f = 0) : ∃ (i : Nat) (a d : Bool), i < 75 ∧ (a = true → d = false) ∧ f = wayF i a d := by
  obtain ⟨z1, z2, z3, z4⟩ := chkF_zero h
  have hw : badWay f = false := by
    unfold chkF at h
    split at h
    · cases h
    · split at h
      · cases h
      · rename_i h2; simpa using h2
  obtain ⟨b0, b1, b2, b3, b4, b5, a, d, sk, rd⟩ := f
  have he : endN ⟨b0, b1, b2, b3, b4, b5, a, d, sk, rd⟩ 8 = 0 + b0.toNat + b1.toNat + b2.toNat + b3.toNat + b4.toNat + b5.toNat + (!(sk == 0)).toNat + (!(rd == 0)).toNat := rfl
  rw [he] at z4
  unfold badWay at hw
  rw [Bool.or_eq_false_iff, Bool.or_eq_false_iff] at hw
  obtain ⟨⟨_, h1⟩, h2⟩ := hw
  have h1 : (a && d) = false := h1
  have h2 : ((a || d) && (b4 || b5)) = false := h2
  dsimp only at z1 z2 z3
  have had : a = true → d = false := by rintro rfl; cases d; rfl; cases h1
  have h45 : b4 = true ∨ b5 = true → a = false ∧ d = false := by
    intro h
    cases a <;> cases d <;> cases b4 <;> cases b5 <;> simp_all
  clear h he h1 h2
  by_cases hs : sk = 0
  · subst hs
    by_cases hr : rd = 0
    · subst hr
      have z4 : 0 + b0.toNat + b1.toNat + b2.toNat + b3.toNat + b4.toNat + b5.toNat + 0 + 0 ≤ 1 := z4
      rcases toNat_one b0 with ⟨e0, rfl⟩ | ⟨e0, rfl⟩ <;> rcases toNat_one b1 with ⟨e1, rfl⟩ | ⟨e1, rfl⟩ <;> rcases toNat_one b2 with ⟨e2, rfl⟩ | ⟨e2, rfl⟩ <;> rcases toNat_one b3 with ⟨e3, rfl⟩ | ⟨e3, rfl⟩ <;> rcases toNat_one b4 with ⟨e4, rfl⟩ | ⟨e4, rfl⟩ <;> rcases toNat_one b5 with ⟨e5, rfl⟩ | ⟨e5, rfl⟩ <;>
        first
        | (exfalso; revert z4; decide)
        | exact ⟨6, a, d, by decide, had, rfl⟩
        | exact ⟨0, a, d, by decide, had, rfl⟩
        | exact ⟨1, a, d, by decide, had, rfl⟩
        | exact ⟨2, a, d, by decide, had, rfl⟩
        | exact ⟨3, a, d, by decide, had, rfl⟩
        | (obtain ⟨rfl, rfl⟩ := h45 (.inl rfl); exact ⟨4, false, false, by decide, fun _ => rfl, rfl⟩)
        | (obtain ⟨rfl, rfl⟩ := h45 (.inr rfl); exact ⟨5, false, false, by decide, fun _ => rfl, rfl⟩)
    · have hrb : (!(rd == 0)).toNat = 1 := by rw [beq_eq_false_iff_ne.2 hr]; rfl
      rw [hrb] at z4
      have hc : codeR rd = true := by rw [beq_eq_false_iff_ne.2 hr] at z3; simpa using z3
      obtain rfl : b0 = false := (by rcases toNat_one b0 with ⟨_, h⟩ | ⟨h, _⟩; exact h; exfalso; omega)
      obtain rfl : b1 = false := (by rcases toNat_one b1 with ⟨_, h⟩ | ⟨h, _⟩; exact h; exfalso; omega)
      obtain rfl : b2 = false := (by rcases toNat_one b2 with ⟨_, h⟩ | ⟨h, _⟩; exact h; exfalso; omega)
      obtain rfl : b3 = false := (by rcases toNat_one b3 with ⟨_, h⟩ | ⟨h, _⟩; exact h; exfalso; omega)
      obtain rfl : b4 = false := (by rcases toNat_one b4 with ⟨_, h⟩ | ⟨h, _⟩; exact h; exfalso; omega)
      obtain rfl : b5 = false := (by rcases toNat_one b5 with ⟨_, h⟩ | ⟨h, _⟩; exact h; exfalso; omega)
      unfold codeR at hc
      simp only [Bool.or_eq_true, beq_iff_eq] at hc
      rcases hc with (((rfl | rfl) | rfl) | rfl) | rfl
      · exact ⟨70, a, d, by decide, had, rfl⟩
      · exact ⟨71, a, d, by decide, had, rfl⟩
      · exact ⟨72, a, d, by decide, had, rfl⟩
      · exact ⟨73, a, d, by decide, had, rfl⟩
      · exact ⟨74, a, d, by decide, had, rfl⟩
  · have hsb : (!(sk == 0)).toNat = 1 := by rw [beq_eq_false_iff_ne.2 hs]; rfl
    rw [hsb] at z4
    have hr : rd = 0 := by
      by_cases hr : rd = 0
      · exact hr
      · have hrb : (!(rd == 0)).toNat = 1 := by rw [beq_eq_false_iff_ne.2 hr]; rfl
        omega
    subst hr
    obtain rfl : b0 = false := (by rcases toNat_one b0 with ⟨_, h⟩ | ⟨h, _⟩; exact h; exfalso; omega)
    obtain rfl : b1 = false := (by rcases toNat_one b1 with ⟨_, h⟩ | ⟨h, _⟩; exact h; exfalso; omega)
    obtain rfl : b2 = false := (by rcases toNat_one b2 with ⟨_, h⟩ | ⟨h, _⟩; exact h; exfalso; omega)
    obtain rfl : b3 = false := (by rcases toNat_one b3 with ⟨_, h⟩ | ⟨h, _⟩; exact h; exfalso; omega)
    obtain rfl : b4 = false := (by rcases toNat_one b4 with ⟨_, h⟩ | ⟨h, _⟩; exact h; exfalso; omega)
    obtain rfl : b5 = false := (by rcases toNat_one b5 with ⟨_, h⟩ | ⟨h, _⟩; exact h; exfalso; omega)
    refine ⟨sk.toNat + 6, a, d, by omega, had, ?_⟩
    unfold wayF
    rw [Flg.mk.injEq]
    refine ⟨(decide_eq_false (by omega)).symm, (decide_eq_false (by omega)).symm, (decide_eq_false (by omega)).symm, (decide_eq_false (by omega)).symm, (decide_eq_false (by omega)).symm, (decide_eq_false (by omega)).symm, ?_, ?_, ?_, ?_⟩
    · rw [decide_eq_true (by omega), decide_eq_true (by omega)]; rfl
    · rw [decide_eq_true (by omega), decide_eq_true (by omega)]; rfl
    · rw [if_pos (by omega)]; omega
    · rw [if_neg (by omega)]
theorem fl_back {f : Flg} (h : chkF f = 0) : FlBack f := by
  obtain ⟨i, a, d, hi, had, rfl⟩ := way_of h
  have hb := back_of hi had
  unfold backF at hb
  rw [Bool.and_eq_true, decide_eq_true_eq, Bool.or_eq_true, Bool.and_eq_true, decide_eq_true_eq, decide_eq_true_eq] at hb
  exact hb
theorem parse_chk {t : ByteArray} (h : (parseS t).2.1 = 0) : chkF (parseS t).1 = 0 := by
  unfold parseS parseF at h ⊢
  by_cases h0 : t.size = 0
  · rw [if_pos h0]; decide
  rw [if_neg h0] at h ⊢
  by_cases h1 : byS t 0 ≠ 91
  · rw [if_pos h1] at h; cases h
  rw [if_neg h1] at h ⊢
  by_cases h2 : t.size = 1
  · rw [if_pos h2] at h; cases h
  rw [if_neg h2] at h ⊢
  by_cases h3 : byS t (t.size - 1) ≠ 93
  · rw [if_pos h3] at h; cases h
  rw [if_neg h3] at h ⊢
  unfold doneR at h ⊢
  by_cases h4 : (runP (partsF t) zeroPut 1).2.1 = 0
  · rw [if_pos h4] at h ⊢
    by_cases h5 : wholeP (runP (partsF t) zeroPut 1).1 = 0
    · rw [if_pos h5] at h ⊢
      unfold wholeP at h5
      split at h5
      · cases h5
      · exact h5
    · rw [if_neg h5]; exact (by decide : chkF zeroF = 0)
  · rw [if_neg h4]; exact (by decide : chkF zeroF = 0)

/-! What a text says can be written. -/
structure CfGood (c : Cf) : Prop where
  cap : 0 ≤ c.cap ∧ c.cap ≤ 1000000
  lim : 0 ≤ c.lim ∧ c.lim ≤ 1000000
  dirs : ∀ d ∈ c.dirs, (0 ≤ d.mode ∧ d.mode ≤ 2) ∧ ∀ x ∈ d.rus, chkF x.fl = 0
  ros : ∀ r ∈ c.ros, RoBack r
theorem CfGood.back {c : Cf} (h : CfGood c) : CfBack c := ⟨h.cap, h.lim, fun d hd => ⟨(h.dirs d hd).1, fun x hx => fl_back ((h.dirs d hd).2 x hx)⟩, h.ros⟩
theorem chkRus_zero : ∀ l : List Ru, chkRus l = 0 ↔ ∀ x ∈ l, chkF x.fl = 0
  | [] => ⟨fun _ x hx => (by cases hx), fun _ => rfl⟩
  | r :: rs => by
    unfold chkRus
    by_cases h : chkF r.fl = 0
    · rw [if_pos h, chkRus_zero rs]
      exact ⟨fun h2 x hx => by rcases List.mem_cons.1 hx with rfl | hx; exact h; exact h2 x hx, fun h2 x hx => h2 x (by simp [hx])⟩
    · rw [if_neg h]
      exact ⟨fun e => absurd e h, fun h2 => absurd (h2 r (by simp)) h⟩
theorem chkDrs_zero : ∀ l : List Dr, chkDrs l = 0 ↔ ∀ d ∈ l, (0 ≤ d.mode ∧ d.mode ≤ 2) ∧ ∀ x ∈ d.rus, chkF x.fl = 0
  | [] => ⟨fun _ x hx => (by cases hx), fun _ => rfl⟩
  | d :: ds => by
    unfold chkDrs
    by_cases h : d.mode < 0 ∨ 2 < d.mode
    · rw [if_pos h]
      exact ⟨fun e => (by cases e), fun h2 => by have := (h2 d (by simp)).1; omega⟩
    · rw [if_neg h]
      by_cases h1 : chkRus d.rus = 0
      · rw [if_pos h1, chkDrs_zero ds]
        exact ⟨fun h2 x hx => by rcases List.mem_cons.1 hx with rfl | hx; exact ⟨by omega, (chkRus_zero _).1 h1⟩; exact h2 x hx, fun h2 x hx => h2 x (by simp [hx])⟩
      · rw [if_neg h1]
        exact ⟨fun e => absurd e h1, fun h2 => absurd ((chkRus_zero _).2 (h2 d (by simp)).2) h1⟩
theorem chkRos_zero : ∀ l : List Ro, chkRos l = 0 ↔ ∀ r ∈ l, RoBack r
  | [] => ⟨fun _ x hx => (by cases hx), fun _ => rfl⟩
  | r :: rs => by
    unfold chkRos
    by_cases h : r.kind < 1 ∨ 4 < r.kind
    · rw [if_pos h]
      exact ⟨fun e => (by cases e), fun h2 => by have := (h2 r (by simp)).1; omega⟩
    · rw [if_neg h]
      cases h1 : r.seg.any badSeg
      · rw [if_neg (by decide), chkRos_zero rs]
        exact ⟨fun h2 x hx => by rcases List.mem_cons.1 hx with rfl | hx; exact ⟨by omega, h1⟩; exact h2 x hx, fun h2 x hx => h2 x (by simp [hx])⟩
      · rw [if_pos rfl]
        exact ⟨fun e => (by cases e), fun h2 => by have := (h2 r (by simp)).2; rw [h1] at this; cases this⟩
theorem check_good (c : Cf) : checkP c = 0 ↔ CfGood c := by
  unfold checkP
  by_cases hb : badCap c = true
  · rw [if_pos hb]
    refine ⟨fun e => (by cases e), fun h => ?_⟩
    obtain ⟨h1, h2, _, _⟩ := h
    unfold badCap at hb
    simp only [Bool.or_eq_true, decide_eq_true_eq] at hb
    omega
  · rw [if_neg hb]
    unfold badCap at hb
    simp only [Bool.or_eq_true, decide_eq_true_eq] at hb
    by_cases h1 : chkDrs c.dirs = 0
    · rw [if_pos h1]
      exact ⟨fun h => ⟨by omega, by omega, (chkDrs_zero _).1 h1, (chkRos_zero _).1 h⟩, fun h => (chkRos_zero _).2 h.ros⟩
    · rw [if_neg h1]
      exact ⟨fun e => absurd e h1, fun h => absurd ((chkDrs_zero _).2 h.dirs) h1⟩
theorem opts_chk (nm : List ByteArray) (fl : Bool) : ∀ (ws : List Wd) (set : List Bool) (nx : Nat) (had : Bool) (f : Flg) {set' : List Bool} {f' : Flg} {e : Int × Int}, chkF f = 0 → optsP nm fl ws set nx had f = (some (set', f'), e) → chkF f' = 0
  | [], set, nx, had, f, set', f', e, hf, h => by cases h; exact hf
  | w :: ws, set, nx, had, f, set', f', e, hf, h => by
    have h : (if fl = true ∧ isBr w.t = true then
      if had = true then (none, 8, w.a)
      else if (parseS w.t).2.1 = 0 then optsP nm fl ws set nx true (parseS w.t).1
      else (none, (parseS w.t).2.1, w.a + if w.q then 0 else ((parseS w.t).2.2 : Int))
    else if Lib.idxOfS nm w.t < 0 then (none, 11, w.a)
    else if (Lib.idxOfS nm w.t).toNat < nx ∨ had = true then (none, 8, w.a)
    else optsP nm fl ws (set.set (Lib.idxOfS nm w.t).toNat true) ((Lib.idxOfS nm w.t).toNat + 1) had f) = (some (set', f'), e) := h
    split at h
    · split at h
      · cases h
      · split at h
        · rename_i hp
          exact opts_chk nm fl ws _ _ _ _ (parse_chk hp) h
        · cases h
    · split at h
      · cases h
      · split at h
        · cases h
        · exact opts_chk nm fl ws _ _ _ _ hf h
theorem idx_bound (s : ByteArray) : ∀ (ts : List ByteArray) (k : Nat), Lib.idxFromS ts s k < 0 ∨ ((k : Int) ≤ Lib.idxFromS ts s k ∧ Lib.idxFromS ts s k < (k : Int) + ts.length)
  | [], k => .inl (by simp [Lib.idxFromS])
  | t :: ts, k => by
    by_cases e : t = s
    · have h1 : Lib.idxFromS (t :: ts) s k = k := by simp [Lib.idxFromS, e]
      right; rw [h1, List.length_cons]; omega
    · have h1 : Lib.idxFromS (t :: ts) s k = Lib.idxFromS ts s (k + 1) := by simp [Lib.idxFromS, e]
      rw [h1]
      rcases idx_bound s ts (k + 1) with h | h
      · exact .inl h
      · right; rw [List.length_cons]; omega
theorem split_no (c : UInt8) (l : List UInt8) : ∀ p ∈ splitL c l, c ∉ p := by
  induction l with
  | nil => intro p hp; simp [splitL] at hp; subst hp; simp
  | cons x t ih =>
    intro p hp
    by_cases h : x = c
    · subst h
      rw [splitL_at] at hp
      rcases List.mem_cons.1 hp with rfl | hp
      · simp
      · exact ih p hp
    · cases e : splitL c t with
      | nil => exact absurd e (splitL_ne c t)
      | cons q qs =>
        rw [splitL_past t h e] at hp
        rw [e] at ih
        rcases List.mem_cons.1 hp with rfl | hp
        · rw [List.mem_cons, not_or]
          exact ⟨fun e => h e.symm, ih q (by simp)⟩
        · exact ih p (by simp [hp])
theorem segs_good {s : ByteArray} {l : List ByteArray} (h : segsP s = some l) : l.any badSeg = false := by
  unfold segsP at h
  split at h
  · cases h; rfl
  · split at h
    · rename_i c t _
      split at h
      · rename_i hc
        cases h
        rw [Bool.eq_false_iff]
        intro hb
        obtain ⟨b, hb1, hb2⟩ := List.any_eq_true.1 hb
        obtain ⟨p, hp, rfl⟩ := List.mem_map.1 hb1
        have h1 := List.all_eq_true.1 hc.2 p hp
        have h2 := split_no 47 t p hp
        unfold badSeg at hb2
        rw [Bool.or_eq_true, decide_eq_true_eq, decide_eq_true_eq, mkB_size, mkB_data] at hb2
        rcases hb2 with hb2 | hb2
        · exact (of_decide_eq_true h1) (List.length_eq_zero_iff.1 hb2)
        · exact h2 hb2
      · cases h
    · cases h
theorem num_good {w : Wd} {v : Int} {e : Int × Int} (h : numW w = (some v, e)) : 0 ≤ v ∧ v ≤ 1000000 := by
  have key : ∀ o : Option Int, (numX o 0 1000000).2 = 0 → 0 ≤ (numX o 0 1000000).1 ∧ (numX o 0 1000000).1 ≤ 1000000 := by
    intro o h0
    cases o with
    | none => cases h0
    | some n =>
      have h0 : (if n < 0 ∨ 1000000 < n then ((0 : Int), (2 : Int)) else (n, 0)).2 = 0 := h0
      show 0 ≤ (if n < 0 ∨ 1000000 < n then ((0 : Int), (2 : Int)) else (n, 0)).1 ∧ (if n < 0 ∨ 1000000 < n then ((0 : Int), (2 : Int)) else (n, 0)).1 ≤ 1000000
      by_cases hr : n < 0 ∨ 1000000 < n
      · rw [if_pos hr] at h0; cases h0
      · rw [if_neg hr]
        show 0 ≤ n ∧ n ≤ 1000000
        omega
  unfold numW at h
  split at h
  · rename_i h0
    cases h
    exact key _ h0
  · cases h
theorem CfGood.read {k : Nat} {s s' : Rd} {x : Rw} {e : Int × Int} (h : CfGood s.c) (hr : readP k s x = (some s', e)) : CfGood s'.c := by
  obtain ⟨h1, h2, h3, h4⟩ := h
  rcases read_cases hr with ⟨v, q, hn, rfl⟩ | ⟨v, q, hn, rfl⟩ | ⟨hi, rfl⟩ | ⟨set, f, q, hn, rfl⟩ | ⟨set, f, q, hn, rfl⟩ | ⟨l, hn, hi, rfl⟩
  · exact ⟨num_good hn, h2, h3, h4⟩
  · exact ⟨h1, num_good hn, h3, h4⟩
  · refine ⟨h1, h2, fun d hd => ?_, h4⟩
    rcases List.mem_append.1 hd with hd | hd
    · exact h3 d hd
    · simp at hd
      subst hd
      refine ⟨?_, fun y hy => by cases hy⟩
      show 0 ≤ Lib.idxOfS modesL _ ∧ Lib.idxOfS modesL _ ≤ 2
      rcases idx_bound (wdN x 2).t modesL 0 with e | e
      · exact absurd e hi
      · have e2 : modesL.length = 3 := rfl
        rw [e2] at e
        unfold Lib.idxOfS
        omega
  · exact ⟨h1, h2, h3, h4⟩
  · have hf := opts_chk _ _ _ _ _ _ _ (by decide) hn
    refine ⟨h1, h2, fun d hd => ?_, h4⟩
    have hd : d ∈ addRu s.c.dirs _ := hd
    unfold addRu at hd
    by_cases hl : s.c.dirs.length - 1 < s.c.dirs.length
    · have hg := h3 _ (List.getElem_mem hl)
      have hgd : s.c.dirs.getD (s.c.dirs.length - 1) ⟨⟨#[]⟩, 0, []⟩ = s.c.dirs[s.c.dirs.length - 1] := by rw [List.getD_eq_getElem?_getD, List.getElem?_eq_getElem hl]; rfl
      rw [hgd] at hd
      rcases List.mem_or_eq_of_mem_set hd with hd | rfl
      · exact h3 d hd
      · refine ⟨hg.1, fun y hy => ?_⟩
        rcases List.mem_append.1 hy with hy | hy
        · exact hg.2 y hy
        · simp at hy
          subst hy
          exact hf
    · have : s.c.dirs = [] := List.length_eq_zero_iff.1 (by omega)
      rw [this] at hd
      cases hd
  · refine ⟨h1, h2, h3, fun r hr => ?_⟩
    rcases List.mem_append.1 hr with hr | hr
    · exact h4 r hr
    · simp at hr
      subst hr
      refine ⟨?_, segs_good hn⟩
      show 1 ≤ Lib.idxOfS kindsL _ + 1 ∧ Lib.idxOfS kindsL _ + 1 ≤ 4
      rcases idx_bound (wdN x 2).t kindsL 0 with e | e
      · exact absurd e hi
      · have e2 : kindsL.length = 4 := rfl
        rw [e2] at e
        unfold Lib.idxOfS
        omega
theorem CfGood.row {n : Nat} {last : ByteArray} {s s' : Rd} {x : Rw} {e : Int × Int} (h : CfGood s.c) (hr : rowP n last s x = (some s', e)) : CfGood s'.c := by
  unfold rowP at hr
  split at hr
  · cases hr
  · split at hr
    · cases hr
    · split at hr
      · cases hr
      · exact h.read hr
theorem CfGood.run (size : Nat) : ∀ (xs : List Rw) (n : Nat) (last : ByteArray) (s : Rd) {s' : Rd} {e : Int × Int}, CfGood s.c → runRd size xs n last s = (some s', e) → CfGood s'.c
  | [], n, last, s, s', e, h, hr => by
    unfold runRd at hr
    split at hr
    · cases hr
    · cases hr; exact h
  | x :: xs, n, last, s, s', e, h, hr => by
    unfold runRd at hr
    rcases hp : rowP n last s x with ⟨_ | s1, q⟩
    · rw [hp] at hr; cases hr
    · rw [hp] at hr
      exact CfGood.run size xs _ _ _ (h.row hp) hr
/-- What is read can be written. -/
theorem whole_good {t : ByteArray} {s : Rd} {e : Int × Int} (h : wholeRd t = (some s, e)) : CfGood s.c := by
  unfold wholeRd at h
  rcases hp : rowsR t.data.toList with ⟨_ | rs, q⟩
  · rw [hp] at h; cases h
  · rw [hp] at h
    exact CfGood.run t.size rs 0 ⟨#[]⟩ zeroRd ⟨by decide, by decide, (fun d hd => by cases hd), (fun r hr => by cases hr)⟩ h
end Go.Proofs.YthpcbaamkeiffaaGreatDoor
