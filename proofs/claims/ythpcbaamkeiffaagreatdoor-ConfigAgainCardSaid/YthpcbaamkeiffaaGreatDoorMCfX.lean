/-
  Rows that say what a configuration's rows say are read as that configuration: plain; no condition.
-/
import Derived.Test.YthpcbaamkeiffaaGreatDoorMCfU
namespace Go.Proofs.YthpcbaamkeiffaaGreatDoor
set_option linter.unusedVariables false
set_option linter.unusedSimpArgs false

/-- A row says so: its words, quoted where they must be. -/
structure SayR (r : Rw) (ts : List ByteArray) : Prop where
  tx : r.w.map (·.t) = ts
  qu : ∀ d ∈ r.w, d.q = !bareW d.t.data.toList
def Says : List Rw → List (List ByteArray) → Prop
  | [], [] => True
  | r :: rs, t :: ts => SayR r t ∧ Says rs ts
  | _, _ => False
theorem Says.split : ∀ {a b : List (List ByteArray)} {rs : List Rw}, Says rs (a ++ b) → ∃ ra rb, rs = ra ++ rb ∧ Says ra a ∧ Says rb b
  | [], b, rs, h => ⟨[], rs, rfl, trivial, h⟩
  | t :: a, b, [], h => h.elim
  | t :: a, b, r :: rs, h => by
    obtain ⟨h1, h2⟩ := h
    obtain ⟨ra, rb, rfl, h3, h4⟩ := Says.split h2
    exact ⟨r :: ra, rb, rfl, ⟨h1, h3⟩, h4⟩
theorem Says.one {t : List ByteArray} : ∀ {rs : List Rw}, Says rs [t] → ∃ r, rs = [r] ∧ SayR r t
  | [], h => h.elim
  | [r], h => ⟨r, rfl, h.1⟩
  | _ :: _ :: _, h => h.2.elim
theorem Says.cons {t : List ByteArray} {ts : List (List ByteArray)} : ∀ {rs : List Rw}, Says rs (t :: ts) → ∃ r rr, rs = r :: rr ∧ SayR r t ∧ Says rr ts
  | [], h => h.elim
  | r :: rr, h => ⟨r, rr, rfl, h.1, h.2⟩
theorem Says.nil : ∀ {rs : List Rw}, Says rs [] → rs = []
  | [], _ => rfl
  | _ :: _, h => h.elim
theorem SayR.wd {r : Rw} {ts : List ByteArray} (h : SayR r ts) {i : Nat} {t : ByteArray} (hi : ts[i]? = some t) : (wdN r i).t = t ∧ (wdN r i).q = !bareW t.data.toList := by
  obtain ⟨h1, h2⟩ := h
  rw [← h1, List.getElem?_map] at hi
  cases e : r.w[i]? with
  | none => rw [e] at hi; cases hi
  | some d =>
    rw [e] at hi
    cases hi
    have : wdN r i = d := by unfold wdN; rw [List.getD_eq_getElem?_getD, e]; rfl
    rw [this]
    exact ⟨rfl, h2 d (List.mem_of_getElem? e)⟩
theorem SayR.len {r : Rw} {ts : List ByteArray} (h : SayR r ts) : r.w.length = ts.length := by rw [← h.tx, List.length_map]
theorem SayR.drop {r : Rw} {ts : List ByteArray} (h : SayR r ts) (k : Nat) : (r.w.drop k).map (·.t) = ts.drop k := by rw [List.map_drop, h.tx]

/-! Rows are read one after the other. -/
def Runs (xs : List Rw) (n : Nat) (last : ByteArray) (s : Rd) (n' : Nat) (last' : ByteArray) (s' : Rd) : Prop := ∀ size ys, runRd size (xs ++ ys) n last s = runRd size ys n' last' s'
theorem Runs.nil (n : Nat) (last : ByteArray) (s : Rd) : Runs [] n last s n last s := fun _ _ => rfl
theorem Runs.trans {xs ys : List Rw} {n n1 n2 : Nat} {l l1 l2 : ByteArray} {s s1 s2 : Rd} (h1 : Runs xs n l s n1 l1 s1) (h2 : Runs ys n1 l1 s1 n2 l2 s2) : Runs (xs ++ ys) n l s n2 l2 s2 := by
  intro size zs
  rw [List.append_assoc, h1, h2]
theorem Runs.one {x : Rw} {n : Nat} {last : ByteArray} {s s' : Rd} {e : Int × Int} (h : rowP n last s x = (some s', e)) : Runs [x] n last s (n + 1) (wdN x 0).t s' := by
  intro size ys
  show (match rowP n last s x with | (some s', _) => runRd size ys (n + 1) (wdN x 0).t s' | (none, e) => (none, e)) = _
  rw [h]
theorem row_read {n : Nat} {last : ByteArray} {s : Rd} {x : Rw} (k : Nat) (hk : kindP x = (k : Int)) (hq : (wdN x 0).q = false) (hs : standsP n last (wdN x 0).t s.c = true) (hl : lowN k ≤ x.w.length) (hh : x.w.length ≤ highN k) : rowP n last s x = readP k s x := by
  unfold rowP
  rw [hk, Int.toNat_natCast, if_neg (by rw [hq]; rintro (h | h); omega; cases h), hs, if_neg (by decide), if_neg (by omega)]

/-! Options. -/
theorem opts_nil (nm : List ByteArray) (fl : Bool) (set : List Bool) (nx : Nat) (had : Bool) (f : Flg) : optsP nm fl [] set nx had f = (some (set, f), 0, 0) := rfl
theorem opts_step {nm : List ByteArray} {fl : Bool} {w : Wd} {ws : List Wd} {set : List Bool} {nx : Nat} {f : Flg} (k : Nat) (hb : isBr w.t = false) (hi : Lib.idxOfS nm w.t = (k : Int)) (hk : nx ≤ k) :
    optsP nm fl (w :: ws) set nx false f = optsP nm fl ws (set.set k true) (k + 1) false f := by
  show (if fl = true ∧ isBr w.t = true then _ else if Lib.idxOfS nm w.t < 0 then _ else if (Lib.idxOfS nm w.t).toNat < nx ∨ false = true then _ else optsP nm fl ws (set.set (Lib.idxOfS nm w.t).toNat true) ((Lib.idxOfS nm w.t).toNat + 1) false f) = _
  rw [hi, Int.toNat_natCast, hb, if_neg (by decide +revert), if_neg (by omega), if_neg (by rintro (h | h); omega; cases h)]
theorem opts_flag {nm : List ByteArray} {w : Wd} {ws : List Wd} {set : List Bool} {nx : Nat} {f g : Flg} (hb : isBr w.t = true) (hp : parseS w.t = (g, 0, 0)) :
    optsP nm true (w :: ws) set nx false f = optsP nm true ws set nx true g := by
  show (if true = true ∧ isBr w.t = true then (if false = true then _ else if (parseS w.t).2.1 = 0 then optsP nm true ws set nx true (parseS w.t).1 else _) else _) = _
  rw [hb, if_pos ⟨rfl, rfl⟩, if_neg (by decide), hp, if_pos rfl]
theorem map_cons' {ws : List Wd} {t : ByteArray} {ts : List ByteArray} (h : ws.map (·.t) = t :: ts) : ∃ w wr, ws = w :: wr ∧ w.t = t ∧ wr.map (·.t) = ts := by
  cases ws with
  | nil => cases h
  | cons w wr => rw [List.map_cons] at h; injection h with h1 h2; exact ⟨w, wr, rfl, h1, h2⟩
theorem opts_word {nm : List ByteArray} {fl : Bool} {ws : List Wd} {ts : List ByteArray} {set : List Bool} {nx : Nat} {f : Flg} {t : ByteArray} (b : Bool) (k : Nat) (hb : isBr t = false) (hi : Lib.idxOfS nm t = (k : Int)) (hk : nx ≤ k) (hs : set[k]? = some false) (h : ws.map (·.t) = optB b t ++ ts) :
    ∃ wr nx', wr.map (·.t) = ts ∧ nx' ≤ k + 1 ∧ optsP nm fl ws set nx false f = optsP nm fl wr (set.set k b) nx' false f := by
  cases b with
  | false =>
    refine ⟨ws, nx, h, by omega, ?_⟩
    have : set.set k false = set := by
      refine List.ext_getElem? fun i => ?_
      by_cases e : k = i
      · subst e
        rw [List.getElem?_set_self' , hs]; rfl
      · rw [List.getElem?_set_ne e]
    rw [this]
  | true =>
    obtain ⟨w, wr, rfl, h1, h2⟩ := map_cons' h
    exact ⟨wr, k + 1, h2, Nat.le_refl _, opts_step k (by rw [h1]; exact hb) (by rw [h1]; exact hi) hk⟩
theorem opts_cond_back (no nc orr : Bool) (ws : List Wd) (h : ws.map (·.t) = optB no sNot ++ optB nc sNocase ++ optB orr sOr) : optsP condL false ws [false, false, false] 0 false zeroF = (some ([no, nc, orr], zeroF), 0, 0) := by
  rw [List.append_assoc] at h
  obtain ⟨w1, n1, h1, hn1, e1⟩ := opts_word (nm := condL) (fl := false) (set := [false, false, false]) (f := zeroF) no 0 (by decide) (by decide) (Nat.zero_le 0) rfl h
  rw [e1]
  obtain ⟨w2, n2, h2, hn2, e2⟩ := opts_word (nm := condL) (fl := false) (set := [no, false, false]) (f := zeroF) (nx := n1) nc 1 (by decide) (by decide) (by omega) rfl h1
  have e2 : optsP condL false w1 ([false, false, false].set 0 no) n1 false zeroF = optsP condL false w2 ([no, false, false].set 1 nc) n2 false zeroF := e2
  rw [e2]
  rw [← List.append_nil (optB orr sOr)] at h2
  obtain ⟨w3, n3, h3, hn3, e3⟩ := opts_word (nm := condL) (fl := false) (set := [no, nc, false]) (f := zeroF) (nx := n2) orr 2 (by decide) (by decide) (by omega) rfl h2
  have e3 : optsP condL false w2 ([no, false, false].set 1 nc) n2 false zeroF = optsP condL false w3 ([no, nc, false].set 2 orr) n3 false zeroF := e3
  rw [e3]
  have : w3 = [] := by cases w3 with
    | nil => rfl
    | cons a b => cases h3
  subst this
  rfl
/-- Flags are read back. -/
def FlBack (f : Flg) : Prop := parseS (ftxV f) = (f, 0, 0) ∧ (isBr (ftxV f) = true ∨ f = zeroF ∧ (ftxV f).size = 0)
theorem opts_rule_back (nc : Bool) (f : Flg) (hf : FlBack f) (ws : List Wd) (h : ws.map (·.t) = optB nc sNocase ++ optB (!decide ((ftxV f).size = 0)) (ftxV f)) : optsP ruleL true ws [false] 0 false zeroF = (some ([nc], f), 0, 0) := by
  obtain ⟨w1, n1, h1, hn1, e1⟩ := opts_word (nm := ruleL) (fl := true) (set := [false]) (f := zeroF) nc 0 (by decide) (by decide) (Nat.zero_le 0) rfl h
  rw [e1]
  rcases hf with ⟨hp, hb | ⟨hz, h0⟩⟩
  · have hne : (ftxV f).size ≠ 0 := by
      intro e
      have : (ftxV f).data.toList = [] := List.length_eq_zero_iff.1 (by rw [size_data]; exact e)
      unfold isBr at hb
      rw [this] at hb
      exact absurd hb (by decide)
    rw [decide_eq_false hne] at h1
    obtain ⟨w, wr, rfl, h2, h3⟩ := map_cons' (show w1.map (·.t) = ftxV f :: [] from h1)
    have : wr = [] := by cases wr with
      | nil => rfl
      | cons a b => cases h3
    subst this
    rw [opts_flag (g := f) (by rw [h2]; exact hb) (by rw [h2]; exact hp)]
    rfl
  · rw [decide_eq_true h0] at h1
    have : w1 = [] := by cases w1 with
      | nil => rfl
      | cons a b => cases h1
    subst this
    rw [hz]
    rfl

/-! Rows of a kind. -/
theorem txR_append (a b : List Rw) : txR (a ++ b) = txR a ++ txR b := by simp [txR]
theorem txR_row (l : List ByteArray) : (rowW l).w.map (·.t) = l := by
  show (l.map fun t => (⟨0, t, false⟩ : Wd)).map (·.t) = l
  rw [List.map_map]
  exact (List.map_congr_left (g := id) fun s _ => rfl).trans (List.map_id _)
/-- Where the rules stand. -/
def plR (rs : List Rw) : List Int := (rs.filter fun r => decide ((wdN r 0).t = sRule)).map (·.a)
theorem plR_append (a b : List Rw) : plR (a ++ b) = plR a ++ plR b := by simp [plR]
theorem plR_no {r : Rw} (h : (wdN r 0).t ≠ sRule) : plR [r] = [] := by unfold plR; rw [List.filter_cons, if_neg (by simpa using h)]; rfl
theorem plR_yes {r : Rw} (h : (wdN r 0).t = sRule) : plR [r] = [r.a] := by unfold plR; rw [List.filter_cons, if_pos (by simpa using h)]; rfl
theorem run_cond {n : Nat} {last : ByteArray} {s : Rd} {x : Cd} {r : Rw} (h : SayR r ((condRow x).w.map (·.t))) (hn : 2 ≤ n) (hd : s.c.dirs ≠ []) (hr : s.c.ros = []) :
    Runs [r] n last s (n + 1) sIf { s with cds := s.cds ++ [x] } ∧ plR [r] = [] := by
  unfold condRow at h
  rw [txR_row] at h
  have h0 := h.wd (i := 0) (t := sIf) (by simp)
  have h1 := h.wd (i := 1) (t := x.t) (by simp)
  have h2 := h.wd (i := 2) (t := x.p) (by simp)
  have hlen := h.len
  have hdr := h.drop 3
  have hl3 : (optB x.no sNot).length ≤ 1 ∧ (optB x.nc sNocase).length ≤ 1 ∧ (optB x.orr sOr).length ≤ 1 := ⟨by cases x.no <;> decide, by cases x.nc <;> decide, by cases x.orr <;> decide⟩
  have hro : rowP n last s r = readP 3 s r := by
    refine row_read 3 (by unfold kindP; rw [h0.1]; decide) (by rw [h0.2]; decide) ?_ ?_ ?_
    · rw [h0.1]
      unfold standsP
      rw [if_neg (by rintro (h | h); omega; revert h; decide), if_neg (by rintro (h | h); omega; revert h; decide), if_pos (.inl rfl)]
      exact decide_eq_true ⟨fun e => hd (List.length_eq_zero_iff.1 e), by rw [hr]; rfl⟩
    · rw [hlen]; simp [lowN]
    · rw [hlen]; simp only [List.length_append, List.length_cons, List.length_nil, highN]; show _ ≤ 6; omega
  have hop := opts_cond_back x.no x.nc x.orr (r.w.drop 3) (by rw [hdr]; simp)
  have hre : readP 3 s r = (some { s with cds := s.cds ++ [x] }, 0, 0) := by
    show (match optsP condL false (r.w.drop 3) [false, false, false] 0 false zeroF with | (some (set, _), _) => _ | (none, e) => _) = _
    rw [hop]
    dsimp only
    rw [h1.1, h2.1]
    rfl
  have := Runs.one (hro.trans hre)
  rw [h0.1] at this
  exact ⟨this, plR_no (by rw [h0.1]; decide)⟩
theorem run_conds : ∀ (xs : List Cd) {n : Nat} {last : ByteArray} {s : Rd} {rs : List Rw}, Says rs (txR (xs.map condRow)) → 2 ≤ n → s.c.dirs ≠ [] → s.c.ros = [] → ∃ last', Runs rs n last s (n + rs.length) last' { s with cds := s.cds ++ xs } ∧ plR rs = []
  | [], n, last, s, rs, h, hn, hd, hr => by
    obtain rfl := Says.nil h
    refine ⟨last, ?_, rfl⟩
    rw [List.append_nil]
    exact Runs.nil _ _ _
  | x :: xs, n, last, s, rs, h, hn, hd, hr => by
    obtain ⟨r, rr, rfl, h1, h2⟩ := Says.cons h
    obtain ⟨a1, a2⟩ := run_cond (last := last) h1 hn hd hr
    obtain ⟨l', b1, b2⟩ := run_conds xs (n := n + 1) (last := sIf) (s := { s with cds := s.cds ++ [x] }) h2 (by omega) hd hr
    refine ⟨l', ?_, ?_⟩
    · have := a1.trans b1
      rw [List.append_assoc] at this
      rw [List.length_cons, show n + (rr.length + 1) = n + 1 + rr.length by omega]
      exact this
    · rw [← List.singleton_append, plR_append, a2, b2]; rfl
theorem addRu_last (D : List Dr) (d : Dr) (r : Ru) : addRu (D ++ [d]) r = D ++ [⟨d.path, d.mode, d.rus ++ [r]⟩] := by
  unfold addRu
  have e : (D ++ [d]).length - 1 = D.length := by simp
  have e2 : (D ++ [d]).getD D.length ⟨⟨#[]⟩, 0, []⟩ = d := by rw [List.getD_eq_getElem?_getD, List.getElem?_append_right (Nat.le_refl _), Nat.sub_self]; rfl
  rw [e, e2, List.set_append_right _ _ (Nat.le_refl _), Nat.sub_self]
  rfl
theorem run_rule {n : Nat} {last : ByteArray} {s : Rd} {D : List Dr} {d : Dr} {x : Ru} {rs : List Rw} (h : Says rs (txR (ruRows x))) (hf : FlBack x.fl) (hn : 2 ≤ n) (hd : s.c.dirs = D ++ [d]) (hr : s.c.ros = []) (hc : s.cds = []) :
    Runs rs n last s (n + rs.length) sRule ⟨{ s.c with dirs := D ++ [⟨d.path, d.mode, d.rus ++ [x]⟩] }, [], s.pl ++ plR rs⟩ := by
  unfold ruRows at h
  rw [txR_append] at h
  obtain ⟨ra, rb, rfl, h1, h2⟩ := Says.split h
  obtain ⟨r, rfl, h9⟩ := Says.one (show Says rb [(ruleRow x).w.map (·.t)] from h2)
  clear h2
  have hdn : s.c.dirs ≠ [] := by rw [hd]; simp
  obtain ⟨l', a1, a2⟩ := run_conds x.cds (last := last) h1 hn hdn hr
  rw [hc, List.nil_append] at a1
  have h2 : SayR r ((ruleRow x).w.map (·.t)) := h9
  unfold ruleRow at h2
  rw [txR_row] at h2
  have g0 := h2.wd (i := 0) (t := sRule) (by simp)
  have g1 := h2.wd (i := 1) (t := x.p) (by simp)
  have g2 := h2.wd (i := 2) (t := x.tg) (by simp)
  have hlen := h2.len
  have hdr := h2.drop 3
  have hl3 : (optB x.nc sNocase).length ≤ 1 ∧ (optB (!decide ((ftxV x.fl).size = 0)) (ftxV x.fl)).length ≤ 1 := ⟨by cases x.nc <;> decide, by cases decide ((ftxV x.fl).size = 0) <;> simp [optB]⟩
  obtain ⟨s1, hs1⟩ : ∃ q : Rd, q = { s with cds := x.cds } := ⟨_, rfl⟩
  rw [← hs1] at a1
  have hro : rowP (n + ra.length) l' s1 r = readP 4 s1 r := by
    refine row_read 4 (by unfold kindP; rw [g0.1]; decide) (by rw [g0.2]; decide) ?_ ?_ ?_
    · rw [g0.1]
      unfold standsP
      rw [if_neg (by rintro (h | h); omega; revert h; decide), if_neg (by rintro (h | h); omega; revert h; decide), if_pos (.inr rfl)]
      exact decide_eq_true ⟨fun e => hdn (List.length_eq_zero_iff.1 (by rw [hs1] at e; exact e)), by rw [hs1]; show s.c.ros.length = 0; rw [hr]; rfl⟩
    · rw [hlen]; simp [lowN]
    · rw [hlen]; simp only [List.length_append, List.length_cons, List.length_nil, highN]; show _ ≤ 5; omega
  have hop := opts_rule_back x.nc x.fl hf (r.w.drop 3) (by rw [hdr]; simp)
  have hre : readP 4 s1 r = (some ⟨{ s.c with dirs := D ++ [⟨d.path, d.mode, d.rus ++ [x]⟩] }, [], s.pl ++ [r.a]⟩, 0, 0) := by
    show (match optsP ruleL true (r.w.drop 3) [false] 0 false zeroF with | (some (set, f), _) => _ | (none, e) => _) = _
    rw [hop]
    dsimp only
    rw [g1.1, g2.1, hs1]
    show (some (⟨{ s.c with dirs := addRu s.c.dirs ⟨x.p, x.nc, x.cds, x.tg, x.fl⟩ }, [], s.pl ++ [r.a]⟩ : Rd), (0 : Int), (0 : Int)) = _
    rw [hd, addRu_last]
  have hone := Runs.one (hro.trans hre)
  rw [g0.1] at hone
  have := a1.trans hone
  rw [List.length_append, plR_append, a2, plR_yes g0.1]
  exact this
theorem run_rules : ∀ (xs : List Ru) {n : Nat} {last : ByteArray} {s : Rd} {D : List Dr} {d : Dr} {rs : List Rw}, Says rs (txR (xs.flatMap ruRows)) → (∀ x ∈ xs, FlBack x.fl) → 2 ≤ n → s.c.dirs = D ++ [d] → s.c.ros = [] → s.cds = [] → last ≠ sIf →
    ∃ last', Runs rs n last s (n + rs.length) last' ⟨{ s.c with dirs := D ++ [⟨d.path, d.mode, d.rus ++ xs⟩] }, [], s.pl ++ plR rs⟩ ∧ last' ≠ sIf
  | [], n, last, s, D, d, rs, h, hf, hn, hd, hr, hc, hl => by
    obtain rfl := Says.nil h
    refine ⟨last, ?_, hl⟩
    have : (⟨{ s.c with dirs := D ++ [⟨d.path, d.mode, d.rus ++ []⟩] }, [], s.pl ++ plR []⟩ : Rd) = s := by
      obtain ⟨⟨c1, c2, c3, c4⟩, cd, pl⟩ := s
      dsimp only at hd hr hc
      subst hd hr hc
      obtain ⟨d1, d2, d3⟩ := d
      simp [plR]
    rw [this]
    exact Runs.nil _ _ _
  | x :: xs, n, last, s, D, d, rs, h, hf, hn, hd, hr, hc, hl => by
    rw [List.flatMap_cons, txR_append] at h
    obtain ⟨ra, rb, rfl, h1, h2⟩ := Says.split h
    have a1 := run_rule (last := last) h1 (hf x (by simp)) hn hd hr hc
    obtain ⟨l', b1, b2⟩ := run_rules xs (n := n + ra.length) (last := sRule) (s := ⟨{ s.c with dirs := D ++ [⟨d.path, d.mode, d.rus ++ [x]⟩] }, [], s.pl ++ plR ra⟩) (D := D) (d := ⟨d.path, d.mode, d.rus ++ [x]⟩) h2 (fun y hy => hf y (by simp [hy])) (by omega) rfl hr rfl (by decide)
    refine ⟨l', ?_, b2⟩
    have := a1.trans b1
    rw [List.length_append, plR_append, ← Nat.add_assoc, ← List.append_assoc s.pl, show d.rus ++ x :: xs = d.rus ++ [x] ++ xs by simp]
    exact this
theorem idx_modes (m : Int) (h : 0 ≤ m ∧ m ≤ 2) : Lib.idxOfS modesL (modesL.getD m.toNat ⟨#[]⟩) = m := by
  rcases (show m = 0 ∨ m = 1 ∨ m = 2 by omega) with rfl | rfl | rfl <;> decide
theorem idx_kinds (m : Int) (h : 1 ≤ m ∧ m ≤ 4) : Lib.idxOfS kindsL (kindsL.getD (m - 1).toNat ⟨#[]⟩) = m - 1 := by
  rcases (show m = 1 ∨ m = 2 ∨ m = 3 ∨ m = 4 by omega) with rfl | rfl | rfl | rfl <;> decide
/-- A directory that is read back. -/
def DrBack (d : Dr) : Prop := (0 ≤ d.mode ∧ d.mode ≤ 2) ∧ ∀ x ∈ d.rus, FlBack x.fl
theorem run_dir {n : Nat} {last : ByteArray} {s : Rd} {d : Dr} {rs : List Rw} (h : Says rs (txR (drRows d))) (hf : DrBack d) (hn : 2 ≤ n) (hr : s.c.ros = []) (hc : s.cds = []) (hl : last ≠ sIf) :
    ∃ last', Runs rs n last s (n + rs.length) last' ⟨{ s.c with dirs := s.c.dirs ++ [d] }, [], s.pl ++ plR rs⟩ ∧ last' ≠ sIf := by
  unfold drRows at h
  obtain ⟨r, rr, rfl, h1, h2⟩ := Says.cons (show Says rs ((rowW [sDir, d.path, modesL.getD d.mode.toNat ⟨#[]⟩]).w.map (·.t) :: txR (d.rus.flatMap ruRows)) from h)
  rw [txR_row] at h1
  have g0 := h1.wd (i := 0) (t := sDir) (by simp)
  have g1 := h1.wd (i := 1) (t := d.path) (by simp)
  have g2 := h1.wd (i := 2) (t := modesL.getD d.mode.toNat ⟨#[]⟩) (by simp)
  have hlen := h1.len
  have hro : rowP n last s r = readP 2 s r := by
    refine row_read 2 (by unfold kindP; rw [g0.1]; decide) (by rw [g0.2]; decide) ?_ (by rw [hlen]; exact Nat.le_of_ble_eq_true rfl) (by rw [hlen]; exact Nat.le_of_ble_eq_true rfl)
    rw [g0.1]
    unfold standsP
    rw [if_neg (by rintro (h | h); omega; revert h; decide), if_neg (by rintro (h | h); omega; revert h; decide), if_neg (by decide), if_neg hl, hr]
    rfl
  have hre : readP 2 s r = (some { s with c := { s.c with dirs := s.c.dirs ++ [⟨d.path, d.mode, []⟩] } }, 0, 0) := by
    show (if Lib.idxOfS modesL (wdN r 2).t < 0 then _ else _) = _
    rw [g2.1, g1.1, idx_modes d.mode hf.1, if_neg (by have := hf.1; omega)]
  have hone := Runs.one (hro.trans hre)
  rw [g0.1] at hone
  obtain ⟨l', b1, b2⟩ := run_rules d.rus (n := n + 1) (last := sDir) (s := { s with c := { s.c with dirs := s.c.dirs ++ [⟨d.path, d.mode, []⟩] } }) (D := s.c.dirs) (d := ⟨d.path, d.mode, []⟩) h2 hf.2 (by omega) rfl hr hc (by decide)
  refine ⟨l', ?_, b2⟩
  have := hone.trans b1
  rw [List.length_cons, ← List.singleton_append, plR_append, plR_no (by rw [g0.1]; decide), List.nil_append, show n + (rr.length + 1) = n + 1 + rr.length by omega]
  exact this
theorem run_dirs : ∀ (xs : List Dr) {n : Nat} {last : ByteArray} {s : Rd} {rs : List Rw}, Says rs (txR (xs.flatMap drRows)) → (∀ x ∈ xs, DrBack x) → 2 ≤ n → s.c.ros = [] → s.cds = [] → last ≠ sIf →
    ∃ last', Runs rs n last s (n + rs.length) last' ⟨{ s.c with dirs := s.c.dirs ++ xs }, [], s.pl ++ plR rs⟩ ∧ last' ≠ sIf
  | [], n, last, s, rs, h, hf, hn, hr, hc, hl => by
    obtain rfl := Says.nil h
    refine ⟨last, ?_, hl⟩
    have : (⟨{ s.c with dirs := s.c.dirs ++ [] }, [], s.pl ++ plR []⟩ : Rd) = s := by
      obtain ⟨⟨c1, c2, c3, c4⟩, cd, pl⟩ := s
      dsimp only at hr hc
      subst hr hc
      simp [plR]
    rw [this]
    exact Runs.nil _ _ _
  | x :: xs, n, last, s, rs, h, hf, hn, hr, hc, hl => by
    rw [List.flatMap_cons, txR_append] at h
    obtain ⟨ra, rb, rfl, h1, h2⟩ := Says.split h
    obtain ⟨l1, a1, a2⟩ := run_dir (last := last) h1 (hf x (by simp)) hn hr hc hl
    obtain ⟨l', b1, b2⟩ := run_dirs xs (n := n + ra.length) (last := l1) (s := ⟨{ s.c with dirs := s.c.dirs ++ [x] }, [], s.pl ++ plR ra⟩) h2 (fun y hy => hf y (by simp [hy])) (by omega) hr rfl a2
    refine ⟨l', ?_, b2⟩
    have := a1.trans b1
    rw [List.length_append, plR_append, ← Nat.add_assoc, ← List.append_assoc s.pl, show s.c.dirs ++ x :: xs = s.c.dirs ++ [x] ++ xs by simp]
    exact this

/-! Routes. -/
theorem split_joinL : ∀ (l : List (List UInt8)), l ≠ [] → (∀ p ∈ l, (47 : UInt8) ∉ p) → splitL 47 (Lib.join l [47]) = l
  | [], h, _ => absurd rfl h
  | [p], _, h => by rw [Lib.join_one, splitL_none (h p (by simp))]
  | p :: q :: l, _, h => by
    have e : Lib.join (p :: q :: l) [47] = p ++ 47 :: Lib.join (q :: l) [47] := by
      rw [Lib.join_cons, Lib.join_cons]
      simp [Lib.joinTail]
    rw [e, splitL_hit (h p (by simp)), split_joinL (q :: l) (by simp) (fun x hx => h x (by simp [hx]))]
theorem bad_seg {s : ByteArray} (h : badSeg s = false) : s.data.toList ≠ [] ∧ (47 : UInt8) ∉ s.data.toList := by
  unfold badSeg at h
  rw [Bool.or_eq_false_iff, decide_eq_false_iff_not, decide_eq_false_iff_not] at h
  refine ⟨fun e => h.1 ?_, h.2⟩
  rw [← size_data, e]; rfl
theorem segs_back (l : List ByteArray) (h : l.any badSeg = false) : segsP (pathB l) = some l := by
  have hb : ∀ s ∈ l, badSeg s = false := fun s hs => by
    cases e : badSeg s
    · rfl
    · rw [List.any_eq_true.2 ⟨s, hs, e⟩] at h; cases h
  by_cases h0 : l = []
  · subst h0; rfl
  · have hd : (pathB l).data.toList = 47 :: Lib.join (l.map (·.data.toList)) [47] := by
      unfold pathB
      rw [if_neg h0]
      show (ByteArray.append slashB _).data.toList = _
      simp [slashB]
    have hm : l.map (·.data.toList) ≠ [] := by simpa using h0
    have hsp := split_joinL (l.map (·.data.toList)) hm (fun p hp => by
      obtain ⟨s, hs, rfl⟩ := List.mem_map.1 hp
      exact (bad_seg (hb s hs)).2)
    have hj : Lib.join (l.map (·.data.toList)) [47] ≠ [] := by
      cases l with
      | nil => exact absurd rfl h0
      | cons a t =>
        have := (bad_seg (hb a (by simp))).1
        rw [List.map_cons, Lib.join_cons]
        intro e
        exact this (List.append_eq_nil_iff.1 e).1
    unfold segsP
    rw [hd, if_neg (by intro e; injection e with _ e; exact hj e)]
    dsimp only
    have hall : (l.map (·.data.toList)).all (fun p => decide (p ≠ [])) = true := by
      refine List.all_eq_true.2 fun p hp => ?_
      obtain ⟨s, hs, rfl⟩ := List.mem_map.1 hp
      exact decide_eq_true (bad_seg (hb s hs)).1
    rw [hsp, if_pos ⟨rfl, hall⟩]
    · rw [List.map_map]
      congr 1
      refine (List.map_congr_left (g := id) fun s _ => ?_).trans (List.map_id _)
      exact mkB_of s
def RoBack (r : Ro) : Prop := (1 ≤ r.kind ∧ r.kind ≤ 4) ∧ r.seg.any badSeg = false
theorem run_route {n : Nat} {last : ByteArray} {s : Rd} {x : Ro} {r : Rw} (h : SayR r ((roRow x).w.map (·.t))) (hf : RoBack x) (hn : 2 ≤ n) (hl : last ≠ sIf) :
    Runs [r] n last s (n + 1) sRoute { s with c := { s.c with ros := s.c.ros ++ [x] } } ∧ plR [r] = [] := by
  unfold roRow at h
  rw [txR_row] at h
  have g0 := h.wd (i := 0) (t := sRoute) (by simp)
  have g1 := h.wd (i := 1) (t := pathB x.seg) (by simp)
  have g2 := h.wd (i := 2) (t := kindsL.getD (x.kind - 1).toNat ⟨#[]⟩) (by simp)
  have g3 := h.wd (i := 3) (t := x.txt) (by simp)
  have hlen := h.len
  have hro : rowP n last s r = readP 5 s r := by
    refine row_read 5 (by unfold kindP; rw [g0.1]; decide) (by rw [g0.2]; decide) ?_ (by rw [hlen]; exact Nat.le_of_ble_eq_true rfl) (by rw [hlen]; exact Nat.le_of_ble_eq_true rfl)
    rw [g0.1]
    unfold standsP
    rw [if_neg (by rintro (h | h); omega; revert h; decide), if_neg (by rintro (h | h); omega; revert h; decide), if_neg (by decide), if_neg hl]
    rfl
  have hre : readP 5 s r = (some { s with c := { s.c with ros := s.c.ros ++ [x] } }, 0, 0) := by
    show (match segsP (wdN r 1).t with | none => _ | some l => if Lib.idxOfS kindsL (wdN r 2).t < 0 then _ else _) = _
    rw [g1.1, segs_back x.seg hf.2]
    dsimp only
    rw [g2.1, g3.1, idx_kinds x.kind hf.1, if_neg (by have := hf.1; omega), show x.kind - 1 + 1 = x.kind by omega]
  have := Runs.one (hro.trans hre)
  rw [g0.1] at this
  exact ⟨this, plR_no (by rw [g0.1]; decide)⟩
theorem run_routes : ∀ (xs : List Ro) {n : Nat} {last : ByteArray} {s : Rd} {rs : List Rw}, Says rs (txR (xs.map roRow)) → (∀ x ∈ xs, RoBack x) → 2 ≤ n → last ≠ sIf →
    ∃ last', Runs rs n last s (n + rs.length) last' { s with c := { s.c with ros := s.c.ros ++ xs } } ∧ plR rs = [] ∧ last' ≠ sIf
  | [], n, last, s, rs, h, hf, hn, hl => by
    obtain rfl := Says.nil h
    refine ⟨last, ?_, rfl, hl⟩
    rw [List.append_nil]
    exact Runs.nil _ _ _
  | x :: xs, n, last, s, rs, h, hf, hn, hl => by
    obtain ⟨r, rr, rfl, h1, h2⟩ := Says.cons h
    obtain ⟨a1, a2⟩ := run_route (last := last) (s := s) h1 (hf x (by simp)) hn hl
    obtain ⟨l', b1, b2, b3⟩ := run_routes xs (n := n + 1) (last := sRoute) (s := { s with c := { s.c with ros := s.c.ros ++ [x] } }) h2 (fun y hy => hf y (by simp [hy])) (by omega) (by decide)
    refine ⟨l', ?_, ?_, b3⟩
    · have := a1.trans b1
      rw [List.length_cons, show n + (rr.length + 1) = n + 1 + rr.length by omega, show s.c.ros ++ x :: xs = s.c.ros ++ [x] ++ xs by simp]
      exact this
    · rw [← List.singleton_append, plR_append, a2, b2]; rfl

/-! Numbers, and the whole. -/
theorem num_back (n : Int) (h : 0 ≤ n ∧ n ≤ 1000000) : numR (itoaT n).data.toList 0 1000000 = (n, 0) := by
  have h9 : (trimM (Lib.itoa n)).length ≤ 9 := by
    have hb : ∀ k : Nat, ∀ m : Nat, m < 10 ^ (k + 1) → (Lib.decDigits m).length ≤ k + 1 := by
      intro k
      induction k with
      | zero => intro m hm; rw [Lib.decDigits_one (by omega)]; exact Nat.le_refl _
      | succ k ih =>
        intro m hm
        by_cases h10 : m < 10
        · rw [Lib.decDigits_one h10]; simp
        · rw [Lib.decDigits, dif_neg h10, List.length_append, List.length_singleton]
          have := ih (m / 10) (by rw [Nat.pow_succ] at hm; omega)
          omega
    have h1 : Lib.itoa n = Lib.decDigits n.toNat := by unfold Lib.itoa; rw [if_neg (by omega)]
    rw [h1]
    have h2 := hb 6 n.toNat (by have : (10 : Nat) ^ (6 + 1) = 10000000 := by decide
                                omega)
    unfold trimM
    split
    · rw [List.length_tail]; omega
    · omega
  show numX (numS (Lib.itoa n)) 0 1000000 = _
  rw [itoa_num n h9]
  show (if n < 0 ∨ 1000000 < n then _ else _) = _
  rw [if_neg (by omega)]
theorem run_cap {n : Nat} {s : Rd} {r : Rw} {v : Int} (h : SayR r [sCap, itoaT v]) (hv : 0 ≤ v ∧ v ≤ 1000000) (last : ByteArray) : Runs [r] 0 last s 1 sCap { s with c := { s.c with cap := v } } ∧ plR [r] = [] := by
  have g0 := h.wd (i := 0) (t := sCap) (by simp)
  have g1 := h.wd (i := 1) (t := itoaT v) (by simp)
  have hlen := h.len
  have hro : rowP 0 last s r = readP 0 s r := by
    refine row_read 0 (by unfold kindP; rw [g0.1]; decide) (by rw [g0.2]; decide) ?_ (by rw [hlen]; exact Nat.le_of_ble_eq_true rfl) (by rw [hlen]; exact Nat.le_of_ble_eq_true rfl)
    rw [g0.1]
    unfold standsP
    rw [if_pos (.inl rfl)]
    exact decide_eq_true ⟨rfl, rfl⟩
  have hre : readP 0 s r = (some { s with c := { s.c with cap := v } }, 0, 0) := by
    show (match numW (wdN r 1) with | (some n, _) => _ | (none, e) => _) = _
    unfold numW
    rw [g1.1, num_back v hv, if_pos rfl]
  have := Runs.one (hro.trans hre)
  rw [g0.1] at this
  exact ⟨this, plR_no (by rw [g0.1]; decide)⟩
theorem run_limit {n : Nat} {s : Rd} {r : Rw} {v : Int} (h : SayR r [sLimit, itoaT v]) (hv : 0 ≤ v ∧ v ≤ 1000000) (last : ByteArray) : Runs [r] 1 last s 2 sLimit { s with c := { s.c with lim := v } } ∧ plR [r] = [] := by
  have g0 := h.wd (i := 0) (t := sLimit) (by simp)
  have g1 := h.wd (i := 1) (t := itoaT v) (by simp)
  have hlen := h.len
  have hro : rowP 1 last s r = readP 1 s r := by
    refine row_read 1 (by unfold kindP; rw [g0.1]; decide) (by rw [g0.2]; decide) ?_ (by rw [hlen]; exact Nat.le_of_ble_eq_true rfl) (by rw [hlen]; exact Nat.le_of_ble_eq_true rfl)
    rw [g0.1]
    unfold standsP
    rw [if_neg (by decide), if_pos (.inl rfl)]
    exact decide_eq_true ⟨rfl, rfl⟩
  have hre : readP 1 s r = (some { s with c := { s.c with lim := v } }, 0, 0) := by
    show (match numW (wdN r 1) with | (some n, _) => _ | (none, e) => _) = _
    unfold numW
    rw [g1.1, num_back v hv, if_pos rfl]
  have := Runs.one (hro.trans hre)
  rw [g0.1] at this
  exact ⟨this, plR_no (by rw [g0.1]; decide)⟩
/-- A configuration that is read back. -/
structure CfBack (c : Cf) : Prop where
  cap : 0 ≤ c.cap ∧ c.cap ≤ 1000000
  lim : 0 ≤ c.lim ∧ c.lim ≤ 1000000
  dirs : ∀ d ∈ c.dirs, DrBack d
  ros : ∀ r ∈ c.ros, RoBack r
theorem rows_back (c : Cf) (hc : CfBack c) (rs : List Rw) (h : Says rs (txR (cfRows c))) (size : Nat) : runRd size rs 0 ⟨#[]⟩ zeroRd = (some ⟨c, [], plR rs⟩, 0, 0) := by
  unfold cfRows at h
  rw [txR_append, txR_append] at h
  obtain ⟨r1, r3, rfl, h1, h3⟩ := Says.split h
  obtain ⟨ra, rb, rfl, ha, hb⟩ := Says.split h1
  obtain ⟨x, xr, rfl, hx, hxr⟩ := Says.cons (show Says ra ([sCap, itoaT c.cap] :: [[sLimit, itoaT c.lim]]) from ha)
  obtain ⟨y, rfl, hy⟩ := Says.one hxr
  obtain ⟨e1, p1⟩ := run_cap (n := 0) (s := zeroRd) hx hc.cap ⟨#[]⟩
  obtain ⟨e2, p2⟩ := run_limit (n := 0) (s := { zeroRd with c := { zeroRd.c with cap := c.cap } }) hy hc.lim sCap
  obtain ⟨l3, e3, n3⟩ := run_dirs c.dirs (n := 2) (last := sLimit) (s := ⟨⟨c.cap, c.lim, [], []⟩, [], []⟩) hb hc.dirs (Nat.le_refl _) rfl rfl (by decide)
  obtain ⟨l4, e4, p4, n4⟩ := run_routes c.ros (n := 2 + rb.length) (last := l3) (s := ⟨⟨c.cap, c.lim, c.dirs, []⟩, [], plR rb⟩) h3 hc.ros (by omega) n3
  have hall := ((e1.trans e2).trans e3).trans e4
  have hrun := hall size []
  rw [List.append_nil] at hrun
  have hpl : plR (([x] ++ [y] ++ rb) ++ r3) = plR rb := by rw [plR_append, plR_append, plR_append, p1, p2, p4]; simp
  have e0 : x :: [y] = [x] ++ [y] := rfl
  rw [e0, hpl, hrun]
  show (if 2 + rb.length + r3.length < 2 ∨ l4 = sIf then _ else _) = _
  rw [if_neg (by rintro (h | h); omega; exact n4 h)]
  rfl
end Go.Proofs.YthpcbaamkeiffaaGreatDoor
