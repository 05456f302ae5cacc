/-
  A configuration's text is read back; so it is with remarks and more blanks; where the rules stand: plain; no condition.
-/
import Derived.Test.YthpcbaamkeiffaaGreatDoorMCpA
import Derived.Test.YthpcbaamkeiffaaGreatDoorMRxA
namespace Go.Proofs.YthpcbaamkeiffaaGreatDoor
set_option linter.unusedVariables false
set_option linter.unusedSimpArgs false

/-! Lines. -/
theorem lineL_says : ∀ (ws : List ByteArray) (o : Nat), ws ≠ [] → ∃ W, lineL o (lineW ws) = (some W, 0) ∧ W.map (·.t) = ws ∧ ∀ d ∈ W, d.q = !bareW d.t.data.toList
  | [], _, h => absurd rfl h
  | [t], o, _ => by
    rw [lineW_one]
    have h := lineL_wr o t.data.toList [] rfl
    rw [List.append_nil, lineL_nil, mkB_of] at h
    refine ⟨[⟨o, t, !bareW t.data.toList⟩], h, rfl, fun d hd => ?_⟩
    simp at hd
    rw [hd]
  | t :: u :: ws, o, _ => by
    obtain ⟨W, h1, h2, h3⟩ := lineL_says (u :: ws) (o + (wrW t.data.toList).length + 1) (by simp)
    rw [lineW_cons, lineL_wr o t.data.toList _ rfl, lineL_blank (show isBl 32 = true from rfl), h1, mkB_of]
    refine ⟨⟨o, t, !bareW t.data.toList⟩ :: W, rfl, by rw [List.map_cons, h2], fun d hd => ?_⟩
    rcases List.mem_cons.1 hd with rfl | hd
    · rfl
    · exact h3 d hd
theorem row_says {o o' : Nat} {t : List ByteArray} {W : List Wd} (ht : t ≠ []) (h2 : W.map (·.t) = t) (h3 : ∀ d ∈ W, d.q = !bareW d.t.data.toList) : rowOf o W = [⟨o, W⟩] ∧ SayR ⟨o, W⟩ t := by
  refine ⟨?_, ⟨h2, h3⟩⟩
  unfold rowOf
  rw [if_neg (by rintro rfl; exact ht h2.symm)]

/-! Texts. -/
def txL2 (ts : List (List ByteArray)) : List UInt8 := ts.flatMap fun t => lineW t ++ [10]
def offR : Nat → List (List ByteArray) → List Int
  | _, [] => []
  | o, t :: ts => (o : Int) :: offR (o + (lineW t).length + 1) ts
/-- Lines that are short enough. -/
def ShortL (ts : List (List ByteArray)) (m : Nat) : Prop := ∀ t ∈ ts, t ≠ [] ∧ (lineW t).length ≤ m
theorem textF_some : ∀ (ts : List (List ByteArray)) (out s : List UInt8) (e : Int), out.length ≤ 20000 → textF ts out = (some s, e) → e = 0 ∧ s = out ++ txL2 ts ∧ s.length ≤ 20000 ∧ ShortL ts 1000
  | [], out, s, e, ho, h => by
    cases h
    exact ⟨rfl, by simp [txL2], ho, (fun t ht => by cases ht)⟩
  | t :: ts, out, s, e, ho, h => by
    rw [textF_cons] at h
    by_cases h1 : t = []
    · rw [if_pos h1] at h; cases h
    · rw [if_neg h1] at h
      by_cases h2 : 1000 < (lineW t).length ∨ 20000 < out.length + (lineW t).length + 1
      · rw [if_pos h2] at h; cases h
      · rw [if_neg h2] at h
        obtain ⟨a1, a2, a3, a4⟩ := textF_some ts _ s e (by simp; omega) h
        refine ⟨a1, by rw [a2]; simp [txL2], a3, fun x hx => ?_⟩
        rcases List.mem_cons.1 hx with rfl | hx
        · exact ⟨h1, by omega⟩
        · exact a4 x hx
theorem rows_text : ∀ (ts : List (List ByteArray)) (o : Nat), ShortL ts 1000 → ∃ rs, rowsF o (splitL 10 (txL2 ts)) = (some rs, 0, 0) ∧ Says rs ts ∧ rs.map (·.a) = offR o ts
  | [], o, _ => ⟨[], by
    show rowsF o (splitL 10 []) = _
    rw [splitL_none (by simp), rowsF_line (by decide) (lineL_nil o)]; rfl, trivial, rfl⟩
  | t :: ts, o, h => by
    obtain ⟨hne, hle⟩ := h t (by simp)
    obtain ⟨rs, h1, h2, h3⟩ := rows_text ts (o + (lineW t).length + 1) (fun x hx => h x (by simp [hx]))
    obtain ⟨W, w1, w2, w3⟩ := lineL_says t o hne
    obtain ⟨r1, r2⟩ := row_says (o := o) (o' := o) hne w2 w3
    have e : txL2 (t :: ts) = lineW t ++ 10 :: txL2 ts := by simp [txL2]
    rw [e, splitL_hit (no_line (lineW_all t)), rowsF_line (by omega) w1, h1, r1]
    exact ⟨⟨o, W⟩ :: rs, rfl, ⟨r2, h2⟩, by show (o : Int) :: rs.map (·.a) = _; rw [h3]; rfl⟩

/-! Remarks and blanks. -/
def insL : List UInt8 := [32, 9, 35, 32, 97, 110, 100, 32, 111, 110, 101, 32, 109, 111, 114, 101]
def remL : List UInt8 := [35, 32, 97, 32, 114, 101, 109, 97, 114, 107]
def widL (ts : List (List ByteArray)) : List UInt8 := ts.flatMap fun t => lineW t ++ 10 :: (insL ++ [10, 32, 32])
def wideL (ts : List (List ByteArray)) : List UInt8 := remL ++ 10 :: 10 :: widL ts
theorem ins_line (o : Nat) : lineL o insL = (some [], 0) := by
  unfold insL
  rw [lineL_blank (by decide), lineL_blank (by decide), lineL_rem]
theorem rows_wide : ∀ (ts : List (List ByteArray)) (o : Nat) (bl : List UInt8), (bl = [] ∨ bl = [32, 32]) → ShortL ts 998 → ∃ rs, rowsF o (splitL 10 (bl ++ widL ts)) = (some rs, 0, 0) ∧ Says rs ts
  | [], o, bl, hb, _ => ⟨[], by
    show rowsF o (splitL 10 (bl ++ [])) = _
    rw [List.append_nil]
    rcases hb with rfl | rfl
    · rw [splitL_none (by simp), rowsF_line (by decide) (lineL_nil o)]; rfl
    · rw [splitL_none (by decide), rowsF_line (by decide) (show lineL o [32, 32] = (some [], 0) by rw [lineL_blank (by decide), lineL_blank (by decide), lineL_nil])]; rfl, trivial⟩
  | t :: ts, o, bl, hb, h => by
    obtain ⟨hne, hle⟩ := h t (by simp)
    have e : bl ++ widL (t :: ts) = (bl ++ lineW t) ++ 10 :: (insL ++ 10 :: ([32, 32] ++ widL ts)) := by simp [widL]
    have hbl : bl.length ≤ 2 := by rcases hb with rfl | rfl <;> decide
    have h10 : (10 : UInt8) ∉ bl ++ lineW t := by
      rw [List.mem_append]
      rintro (h | h)
      · rcases hb with rfl | rfl
        · cases h
        · revert h; decide
      · exact no_line (lineW_all t) h
    obtain ⟨W, w1, w2, w3⟩ : ∃ W, lineL o (bl ++ lineW t) = (some W, 0) ∧ W.map (·.t) = t ∧ ∀ d ∈ W, d.q = !bareW d.t.data.toList := by
      rcases hb with rfl | rfl
      · exact lineL_says t o hne
      · obtain ⟨W, w1, w2⟩ := lineL_says t (o + 1 + 1) hne
        refine ⟨W, ?_, w2⟩
        show lineL o (32 :: 32 :: lineW t) = _
        rw [lineL_blank (by decide), lineL_blank (by decide), w1]
    obtain ⟨rs, h1, h2⟩ := rows_wide ts (o + (bl ++ lineW t).length + 1 + insL.length + 1) [32, 32] (.inr rfl) (fun x hx => h x (by simp [hx]))
    obtain ⟨r1, r2⟩ := row_says (o := o) (o' := o) hne w2 w3
    rw [e, splitL_hit h10, splitL_hit (by decide), rowsF_line (by rw [List.length_append]; omega) w1, rowsF_line (by decide) (ins_line _), h1, r1]
    exact ⟨⟨o, W⟩ :: rs, rfl, ⟨r2, h2⟩⟩
theorem rows_wide_all (ts : List (List ByteArray)) (h : ShortL ts 998) (hl : (wideL ts).length ≤ 20000) : ∃ rs, rowsR (wideL ts) = (some rs, 0, 0) ∧ Says rs ts := by
  obtain ⟨rs, h1, h2⟩ := rows_wide ts (0 + remL.length + 1 + 0 + 1) [] (.inl rfl) h
  refine ⟨rs, ?_, h2⟩
  unfold rowsR
  rw [if_neg (by omega)]
  unfold wideL
  have e1 : lineL 0 remL = (some [], 0) := lineL_rem
  have e2 : lineL (0 + remL.length + 1) [] = (some [], 0) := lineL_nil _
  rw [splitL_hit (by decide), show (10 :: widL ts : List UInt8) = [] ++ 10 :: widL ts from rfl, splitL_hit (by simp), rowsF_line (by decide) e1, rowsF_line (by decide) e2]
  rw [List.nil_append] at h1
  rw [show (0 + remL.length + 1 + ([] : List UInt8).length + 1) = 0 + remL.length + 1 + 0 + 1 from rfl, h1]
  rfl

/-! Where the rules stand. -/
theorem plR_len : ∀ {rs : List Rw} {ts : List (List ByteArray)}, Says rs ts → (∀ t ∈ ts, t ≠ []) → (plR rs).length = (ts.filter fun t => decide (t.head? = some sRule)).length
  | [], [], _, _ => rfl
  | [], _ :: _, h, _ => h.elim
  | _ :: _, [], h, _ => h.elim
  | r :: rs, t :: ts, h, hne => by
    have h0 : decide ((wdN r 0).t = sRule) = decide (t.head? = some sRule) := by
      cases t with
      | nil => exact absurd rfl (hne [] (by simp))
      | cons a t => rw [(h.1.wd (i := 0) (t := a) rfl).1]; simp
    have ih := plR_len h.2 (fun x hx => hne x (by simp [hx]))
    unfold plR at ih ⊢
    rw [List.filter_cons, List.filter_cons, h0]
    cases decide (t.head? = some sRule)
    · simpa using ih
    · simpa using ih
def cntRu (c : Cf) : Nat := (c.dirs.map fun d => d.rus.length).sum
theorem head_row (l : List ByteArray) : (rowW l).w.map (·.t) = l := txR_row l
theorem cnt_rules (l : List Ru) : ((txR (l.flatMap ruRows)).filter fun t => decide (t.head? = some sRule)).length = l.length := by
  induction l with
  | nil => rfl
  | cons x l ih =>
    rw [List.flatMap_cons, txR_append, List.filter_append, List.length_append, ih]
    have h1 : ((txR (ruRows x)).filter fun t => decide (t.head? = some sRule)).length = 1 := by
      unfold ruRows
      rw [txR_append, List.filter_append, List.length_append]
      have a : ((txR (x.cds.map condRow)).filter fun t => decide (t.head? = some sRule)) = [] := by
        refine List.filter_eq_nil_iff.2 fun t ht => ?_
        unfold txR at ht
        rw [List.map_map] at ht
        obtain ⟨y, _, rfl⟩ := List.mem_map.1 ht
        show ¬ decide (((condRow y).w.map (·.t)).head? = some sRule) = true
        unfold condRow
        rw [txR_row]
        show ¬ decide (some sIf = some sRule) = true
        decide
      rw [a]
      have b : txR [ruleRow x] = [[sRule, x.p, x.tg] ++ optB x.nc sNocase ++ optB (!decide ((ftxV x.fl).size = 0)) (ftxV x.fl)] := by
        show [(ruleRow x).w.map (·.t)] = _
        unfold ruleRow
        rw [txR_row]
      rw [b, List.filter_cons]
      rfl
    rw [h1, List.length_cons]; omega
theorem cnt_no {l : List (List ByteArray)} (h : ∀ t ∈ l, t.head? ≠ some sRule) : (l.filter fun t => decide (t.head? = some sRule)) = [] := List.filter_eq_nil_iff.2 fun t ht => by simpa using h t ht
theorem cnt_dirs (l : List Dr) : ((txR (l.flatMap drRows)).filter fun t => decide (t.head? = some sRule)).length = (l.map fun d => d.rus.length).sum := by
  induction l with
  | nil => rfl
  | cons x l ih =>
    rw [List.flatMap_cons, txR_append, List.filter_append, List.length_append, ih, List.map_cons, List.sum_cons]
    congr 1
    unfold drRows
    show ((((rowW [sDir, x.path, modesL.getD x.mode.toNat ⟨#[]⟩]).w.map (·.t)) :: txR (x.rus.flatMap ruRows)).filter _).length = _
    rw [txR_row, List.filter_cons, List.head?_cons, if_neg (show ¬ decide (some sDir = some sRule) = true by decide), cnt_rules]
theorem cnt_all (c : Cf) : ((txR (cfRows c)).filter fun t => decide (t.head? = some sRule)).length = cntRu c := by
  unfold cfRows
  rw [txR_append, txR_append, List.filter_append, List.filter_append, List.length_append, List.length_append, cnt_dirs]
  have a : ((txR [rowW [sCap, itoaT c.cap], rowW [sLimit, itoaT c.lim]]).filter fun t => decide (t.head? = some sRule)) = [] := cnt_no fun t ht => by
    have ht : t ∈ [(rowW [sCap, itoaT c.cap]).w.map (·.t), (rowW [sLimit, itoaT c.lim]).w.map (·.t)] := ht
    rw [txR_row, txR_row] at ht
    simp at ht
    rcases ht with rfl | rfl
    · show some sCap ≠ some sRule; decide
    · show some sLimit ≠ some sRule; decide
  have b : ((txR (c.ros.map roRow)).filter fun t => decide (t.head? = some sRule)) = [] := cnt_no fun t ht => by
    unfold txR at ht
    rw [List.map_map] at ht
    obtain ⟨y, _, rfl⟩ := List.mem_map.1 ht
    show ((roRow y).w.map (·.t)).head? ≠ some sRule
    unfold roRow
    rw [txR_row]
    show some sRoute ≠ some sRule
    decide
  rw [a, b]
  unfold cntRu
  simp
theorem cfRows_ne (c : Cf) : ∀ t ∈ txR (cfRows c), t ≠ [] := by
  have key : ∀ r ∈ cfRows c, r.w ≠ [] := by
    intro r hr
    unfold cfRows at hr
    rcases List.mem_append.1 hr with hr | hr
    · rcases List.mem_append.1 hr with hr | hr
      · simp at hr
        rcases hr with rfl | rfl <;> simp [rowW]
      · obtain ⟨d, _, hd⟩ := List.mem_flatMap.1 hr
        unfold drRows at hd
        rcases List.mem_cons.1 hd with rfl | hd
        · simp [rowW]
        · obtain ⟨x, _, hx⟩ := List.mem_flatMap.1 hd
          unfold ruRows at hx
          rcases List.mem_append.1 hx with hx | hx
          · obtain ⟨y, _, rfl⟩ := List.mem_map.1 hx
            simp [condRow, rowW]
          · simp at hx
            subst hx
            simp [ruleRow, rowW]
    · obtain ⟨y, _, rfl⟩ := List.mem_map.1 hr
      simp [roRow, rowW]
  intro t ht
  unfold txR at ht
  obtain ⟨r, hr, rfl⟩ := List.mem_map.1 ht
  simpa using key r hr
/-- Rules stand so: each place says 'rule ', and the places ascend. -/
def PlOk (s : List UInt8) (pl : List Int) : Prop := (∀ v ∈ pl, ∃ p : Nat, v = (p : Int) ∧ p + 5 ≤ s.length ∧ (s.drop p).take 5 = [114, 117, 108, 101, 32]) ∧ pl.Pairwise (· < ·)
theorem offs_ge : ∀ (ts : List (List ByteArray)) (o : Nat), ∀ v ∈ offR o ts, (o : Int) ≤ v
  | [], o, v, h => by cases h
  | t :: ts, o, v, h => by
    rcases List.mem_cons.1 h with rfl | h
    · exact Int.le_refl _
    · have := offs_ge ts _ v h
      omega
theorem plR_mem {rs : List Rw} {v : Int} (h : v ∈ plR rs) : v ∈ rs.map (·.a) := by
  unfold plR at h
  obtain ⟨r, hr, rfl⟩ := List.mem_map.1 h
  exact List.mem_map.2 ⟨r, (List.mem_filter.1 hr).1, rfl⟩
theorem rule_line {t : List ByteArray} (h : t.head? = some sRule) (h2 : 2 ≤ t.length) : ∃ u, lineW t = [114, 117, 108, 101, 32] ++ u := by
  match t, h, h2 with
  | a :: b :: r, h, _ =>
    cases h
    exact ⟨lineW (b :: r), by rw [lineW_cons]; rfl⟩
theorem pl_ok : ∀ (ts : List (List ByteArray)) (rs : List Rw) (pre : List UInt8), Says rs ts → (∀ t ∈ ts, t.head? = some sRule → 2 ≤ t.length) → rs.map (·.a) = offR pre.length ts → (∀ t ∈ ts, t ≠ []) → PlOk (pre ++ txL2 ts) (plR rs)
  | [], [], pre, _, _, _, _ => ⟨(fun v hv => by cases hv), List.Pairwise.nil⟩
  | [], _ :: _, _, h, _, _, _ => h.elim
  | _ :: _, [], _, h, _, _, _ => h.elim
  | t :: ts, r :: rs, pre, h, h2, ha, hne => by
    have ha : r.a :: rs.map (·.a) = (pre.length : Int) :: offR (pre.length + (lineW t).length + 1) ts := ha
    injection ha with ha0 ha1
    have hpre : (pre ++ (lineW t ++ [10])).length = pre.length + (lineW t).length + 1 := by simp; omega
    have e : pre ++ txL2 (t :: ts) = (pre ++ (lineW t ++ [10])) ++ txL2 ts := by simp [txL2]
    have ih := pl_ok ts rs (pre ++ (lineW t ++ [10])) h.2 (fun x hx => h2 x (by simp [hx])) (by rw [hpre]; exact ha1) (fun x hx => hne x (by simp [hx]))
    rw [← e] at ih
    by_cases h0 : (wdN r 0).t = sRule
    · have hpl : plR (r :: rs) = r.a :: plR rs := by rw [← List.singleton_append, plR_append, plR_yes h0]; rfl
      rw [hpl]
      have hth : t.head? = some sRule := by
        cases t with
        | nil => exact absurd rfl (hne [] (by simp))
        | cons a t => rw [(h.1.wd (i := 0) (t := a) rfl).1] at h0; rw [h0]; rfl
      obtain ⟨u, hu⟩ := rule_line hth (h2 t (by simp) hth)
      refine ⟨fun v hv => ?_, List.Pairwise.cons (fun v hv => ?_) ih.2⟩
      · rcases List.mem_cons.1 hv with rfl | hv
        · refine ⟨pre.length, ha0, ?_, ?_⟩
          · rw [e, List.length_append, hpre, hu]; simp; omega
          · rw [e, List.append_assoc, List.drop_left, hu]; rfl
        · exact ih.1 v hv
      · have hv := plR_mem hv
        rw [ha1] at hv
        have := offs_ge ts _ v hv
        omega
    · have hpl : plR (r :: rs) = plR rs := by rw [← List.singleton_append, plR_append, plR_no h0]; rfl
      rw [hpl]
      exact ih
theorem rule_long (c : Cf) : ∀ t ∈ txR (cfRows c), 2 ≤ t.length := by
  intro t ht
  unfold txR at ht
  obtain ⟨r, hr, rfl⟩ := List.mem_map.1 ht
  rw [List.length_map]
  unfold cfRows at hr
  rcases List.mem_append.1 hr with hr | hr
  · rcases List.mem_append.1 hr with hr | hr
    · simp at hr
      rcases hr with rfl | rfl <;> simp [rowW]
    · obtain ⟨d, _, hd⟩ := List.mem_flatMap.1 hr
      unfold drRows at hd
      rcases List.mem_cons.1 hd with rfl | hd
      · simp [rowW]
      · obtain ⟨x, _, hx⟩ := List.mem_flatMap.1 hd
        unfold ruRows at hx
        rcases List.mem_append.1 hx with hx | hx
        · obtain ⟨y, _, rfl⟩ := List.mem_map.1 hx
          simp [condRow, rowW]
        · simp at hx
          subst hx
          simp [ruleRow, rowW]
  · obtain ⟨y, _, rfl⟩ := List.mem_map.1 hr
    simp [roRow, rowW]
/-- A configuration's text is read as the configuration. -/
theorem text_reads {c : Cf} {s : List UInt8} {e : Int} (h : cfText c = (some s, e)) : e = 0 ∧ s.length ≤ 20000 ∧ CfGood c ∧ s = txL2 (txR (cfRows c)) ∧ ShortL (txR (cfRows c)) 1000 ∧
    ∃ pl, wholeRd (mkB s) = (some ⟨c, [], pl⟩, 0, 0) ∧ pl.length = cntRu c ∧ PlOk s pl := by
  unfold cfText at h
  split at h
  · rename_i hc
    have hg := (check_good c).1 hc
    obtain ⟨e0, hs, hl, hsh⟩ := textF_some _ [] s e (by simp) h
    rw [List.nil_append] at hs
    obtain ⟨rs, h1, h2, h3⟩ := rows_text (txR (cfRows c)) 0 hsh
    refine ⟨e0, hl, hg, hs, hsh, plR rs, ?_, ?_, ?_⟩
    · unfold wholeRd
      rw [mkB_data]
      have hr : rowsR s = (some rs, 0, 0) := by unfold rowsR; rw [if_neg (by omega), hs, h1]
      rw [hr]
      exact rows_back c hg.back rs h2 _
    · rw [plR_len h2 (cfRows_ne c), cnt_all]
    · have := pl_ok (txR (cfRows c)) rs [] h2 (fun t ht _ => rule_long c t ht) h3 (cfRows_ne c)
      rw [List.nil_append, ← hs] at this
      exact this
  · cases h
/-- So it is with remarks and more blanks. -/
theorem wide_reads {c : Cf} (hg : CfGood c) (h : ShortL (txR (cfRows c)) 998) (hl : (wideL (txR (cfRows c))).length ≤ 20000) : ∃ pl, wholeRd (mkB (wideL (txR (cfRows c)))) = (some ⟨c, [], pl⟩, 0, 0) ∧ pl.length = cntRu c := by
  obtain ⟨rs, h1, h2⟩ := rows_wide_all _ h hl
  refine ⟨plR rs, ?_, ?_⟩
  · unfold wholeRd
    rw [mkB_data, h1]
    exact rows_back c hg.back rs h2 _
  · rw [plR_len h2 (cfRows_ne c), cnt_all]
/-- What is read can be written, or is too long, and its text is read as the same. -/
theorem again_law {t : ByteArray} {s : Rd} {e : Int × Int} (h : wholeRd t = (some s, e)) : cfText s.c = (none, 4) ∨ ∃ u pl, cfText s.c = (some u, 0) ∧ u.length ≤ 20000 ∧ wholeRd (mkB u) = (some ⟨s.c, [], pl⟩, 0, 0) := by
  have hg := whole_good h
  have hc := (check_good s.c).2 hg
  rcases textF_err (txR (cfRows s.c)) [] (cfRows_ne s.c) with ⟨u, hu⟩ | hu
  · have ht : cfText s.c = (some u, 0) := by unfold cfText; rw [if_pos hc]; exact hu
    obtain ⟨_, hl, _, _, _, pl, hw, _⟩ := text_reads ht
    exact .inr ⟨u, pl, ht, hl, hw⟩
  · left
    unfold cfText
    rw [if_pos hc]
    exact hu
end Go.Proofs.YthpcbaamkeiffaaGreatDoor
