/-
  A set is read from its text; different sets have different texts: plain; no program is in sight; no condition.
-/
import Derived.Test.YtcfdadgijnmemaaDoorSetW
namespace Go.Proofs.YtcfdadgijnmemaaDoor
set_option linter.unusedVariables false
set_option linter.unusedSimpArgs false

theorem spanP_at (p : Nat → Bool) (a m c : Nat) : spanP p a m c = (p c || (decide (a ≤ c) && decide (c < a + m))) := by
  induction m with
  | zero =>
    have : (decide (a ≤ c) && decide (c < a + 0)) = false := by rw [Bool.and_eq_false_iff, decide_eq_false_iff_not, decide_eq_false_iff_not]; omega
    rw [this, Bool.or_false]; rfl
  | succ m ih =>
    unfold spanP insP
    rw [ih, Bool.eq_iff_iff]
    simp only [Bool.or_eq_true, Bool.and_eq_true, decide_eq_true_eq]
    constructor
    · rintro (h | h | h)
      · right; omega
      · left; exact h
      · right; omega
    · rintro (h | h)
      · right; left; exact h
      · by_cases e : c = a + m
        · left; exact e
        · right; right; omega
theorem addR_at (q : Nat → Bool) (lo hi c : Nat) (h : lo ≤ hi) : addR q lo hi c = (q c || (decide (lo ≤ c) && decide (c ≤ hi))) := by
  unfold addR orP rngV
  have hb : rngBad (fun _ => lo) (fun _ => hi) 1 = false := by
    unfold rngBad rngBad
    simp; omega
  rw [hb, if_neg (by decide)]
  show (q c || spanP noP lo (hi + 1 - lo) c) = _
  rw [spanP_at]
  have : decide (c < lo + (hi + 1 - lo)) = decide (c ≤ hi) := by rw [decide_eq_decide]; omega
  rw [this]; rfl
theorem runE_all (p : Nat → Bool) : ∀ (f l c : Nat), l < c → c ≤ runE p f l → p c = true := by
  intro f
  induction f with
  | zero => intro l c h1 h2; exact absurd h2 (by show ¬ c ≤ l; omega)
  | succ f ih =>
    intro l c h1 h2
    have h2' : c ≤ (if l < 255 && p (l + 1) then runE p f (l + 1) else l) := h2
    split at h2'
    · rename_i hc
      simp at hc
      by_cases e : c = l + 1
      · rw [e]; exact hc.2
      · exact ih (l + 1) c (by omega) h2'
    · omega
theorem runE_end (p : Nat → Bool) : ∀ (f l : Nat), 255 - l ≤ f → runE p f l < 255 → p (runE p f l + 1) = false := by
  intro f
  induction f with
  | zero => intro l h1 h2; exact absurd h2 (by show ¬ l < 255; omega)
  | succ f ih =>
    intro l h1 h2
    have e : runE p (f + 1) l = if l < 255 && p (l + 1) then runE p f (l + 1) else l := rfl
    rw [e] at h2 ⊢
    split at h2
    · rename_i hc
      rw [if_pos hc]
      exact ih (l + 1) (by omega) h2
    · rename_i hc
      rw [if_neg hc]
      simp at hc
      exact hc h2
theorem hexS_at : ∀ n : Nat, n < 16 → (hexS n).data.toList = [UInt8.ofNat (dj n)] ∧ dgt (UInt8.ofNat (dj n)).toNat = n := by decide +kernel
theorem wrS_list (b : Nat) (hb : b < 256) : (plainP b = true ∧ (wrS b).data.toList = [UInt8.ofNat b]) ∨ (plainP b = false ∧ (wrS b).data.toList = [92, 120, UInt8.ofNat (dj (b / 16)), UInt8.ofNat (dj (b % 16))]) := by
  unfold wrS
  cases hp : plainP b
  · right
    refine ⟨rfl, ?_⟩
    rw [if_neg (by decide)]
    rw [ByteArray.data_append, ByteArray.data_append, Array.toList_append, Array.toList_append, (hexS_at _ (by omega)).1, (hexS_at _ (by omega)).1]
    rfl
  · left; exact ⟨rfl, rfl⟩
theorem rdB_wr (b : Nat) (hb : b < 256) (t : List UInt8) : ∃ n, n ≠ 0 ∧ rdB ((wrS b).data.toList ++ t) = (b, n) ∧ ((wrS b).data.toList ++ t).drop n = t := by
  rcases wrS_list b hb with ⟨hp, hl⟩ | ⟨hp, hl⟩
  · refine ⟨1, by decide, ?_, by rw [hl]; rfl⟩
    rw [hl]
    show (if plainP (UInt8.ofNat b).toNat then ((UInt8.ofNat b).toNat, 1) else _) = _
    rw [u8_nat b hb, hp, if_pos rfl]
  · refine ⟨4, by decide, ?_, by rw [hl]; rfl⟩
    rw [hl]
    show (if plainP (92 : UInt8).toNat then ((92 : UInt8).toNat, 1) else if 0 ≤ dgt (UInt8.ofNat (dj (b / 16))).toNat ∧ 0 ≤ dgt (UInt8.ofNat (dj (b % 16))).toNat then (16 * (dgt (UInt8.ofNat (dj (b / 16))).toNat).toNat + (dgt (UInt8.ofNat (dj (b % 16))).toNat).toNat, 4) else (0, 0)) = _
    rw [show plainP (92 : UInt8).toNat = false from by decide +kernel, if_neg (by decide), (hexS_at (b / 16) (by omega)).2, (hexS_at (b % 16) (by omega)).2, if_pos (by omega)]
    congr 1
    omega
theorem wr_head (b : Nat) (hb : b < 256) (t : List UInt8) : ∀ u, (wrS b).data.toList ++ t ≠ 45 :: u := by
  intro u h
  rcases wrS_list b hb with ⟨hp, hl⟩ | ⟨hp, hl⟩
  · rw [hl] at h
    injection h with h _
    have : b = 45 := by
      have := congrArg UInt8.toNat h
      rw [u8_nat b hb] at this
      exact this
    subst this
    exact absurd hp (by decide +kernel)
  · rw [hl] at h
    injection h with h _
    exact absurd h (by decide)
theorem wr_ne (b : Nat) (hb : b < 256) (t : List UInt8) : (wrS b).data.toList ++ t ≠ [] := by
  rcases wrS_list b hb with ⟨_, hl⟩ | ⟨_, hl⟩ <;> rw [hl] <;> simp
theorem txt_head (p : Nat → Bool) : ∀ (f b : Nat), ∀ u, (txtE p f b).data.toList ≠ 45 :: u := by
  intro f
  induction f with
  | zero => intro b u h; cases h
  | succ f ih =>
    intro b u
    have e : txtE p (f + 1) b = if 256 ≤ b then ⟨#[]⟩ else if p b then piece b (runL p b) ++ txtE p f (runL p b + 1) else txtE p f (b + 1) := rfl
    rw [e]
    split
    · intro h; cases h
    · rename_i hb
      split
      · have hL := runL_ge p b (by omega)
        unfold piece
        split
        · rw [ByteArray.data_append, Array.toList_append]; exact wr_head b (by omega) _ u
        · split
          · rw [ByteArray.data_append, Array.toList_append, ByteArray.data_append, Array.toList_append, List.append_assoc]; exact wr_head b (by omega) _ u
          · rw [ByteArray.data_append, Array.toList_append, ByteArray.data_append, Array.toList_append, ByteArray.data_append, Array.toList_append, List.append_assoc, List.append_assoc]; exact wr_head b (by omega) _ u
      · exact ih (b + 1) u
theorem prs_wr (q : Nat → Bool) (b : Nat) (hb : b < 256) (t : List UInt8) (ht : ∀ u, t ≠ 45 :: u) : prsL q ((wrS b).data.toList ++ t) = prsL (addR q b b) t := by
  obtain ⟨n, hn, hr, hd⟩ := rdB_wr b hb t
  have := prsL_one q _ (wr_ne b hb t) (by rw [hr]; exact hn) (by rw [hr, hd]; exact ht)
  rw [hr, hd] at this
  exact this
theorem prs_span (q : Nat → Bool) (b l : Nat) (hb : b < l) (hl : l < 256) (t : List UInt8) : prsL q ((wrS b).data.toList ++ (45 :: ((wrS l).data.toList ++ t))) = prsL (addR q b l) t := by
  obtain ⟨n, hn, hr, hd⟩ := rdB_wr b (by omega) (45 :: ((wrS l).data.toList ++ t))
  obtain ⟨m, hm, hr2, hd2⟩ := rdB_wr l hl t
  have := prsL_two q _ ((wrS l).data.toList ++ t) (wr_ne b (by omega) _) (by rw [hr]; exact hn) (by rw [hr]; exact hd)
  rw [hr, hr2, hd2, if_neg hm, if_neg (show ¬ l ≤ b by omega)] at this
  exact this
/-- A text is read back, whatever has been read before. -/
theorem txt_back (p : Nat → Bool) : ∀ (f b : Nat) (q : Nat → Bool), 256 - b ≤ f → b ≤ 256 → ∃ q', prsL q (txtE p f b).data.toList = (q', 0) ∧ ∀ c, c < 256 → q' c = (q c || (p c && decide (b ≤ c))) := by
  intro f
  induction f with
  | zero =>
    intro b q h1 h2
    refine ⟨q, prsL_nil q, fun c hc => ?_⟩
    rw [decide_eq_false (by omega)]; simp
  | succ f ih =>
    intro b q h1 h2
    have e : txtE p (f + 1) b = if 256 ≤ b then ⟨#[]⟩ else if p b then piece b (runL p b) ++ txtE p f (runL p b + 1) else txtE p f (b + 1) := rfl
    rw [e]
    split
    · refine ⟨q, prsL_nil q, fun c hc => ?_⟩
      rw [decide_eq_false (by omega)]; simp
    · rename_i hb
      split
      · rename_i hpb
        have hL := runL_ge p b (by omega)
        obtain ⟨L, hLe⟩ : ∃ L, L = runL p b := ⟨_, rfl⟩
        rw [← hLe] at hL ⊢
        have hall : ∀ c, b ≤ c → c ≤ L → p c = true := fun c c1 c2 => by
          by_cases ec : c = b
          · rw [ec]; exact hpb
          · exact runE_all p 256 b c (by omega) (by rw [hLe] at c2; exact c2)
        have fin : ∀ q1 : Nat → Bool, (∀ c, c < 256 → q1 c = (q c || (decide (b ≤ c) && decide (c ≤ L)))) → ∃ q', prsL q1 (txtE p f (L + 1)).data.toList = (q', 0) ∧ ∀ c, c < 256 → q' c = (q c || (p c && decide (b ≤ c))) := by
          intro q1 hq1
          obtain ⟨q', hq', hm⟩ := ih (L + 1) q1 (by omega) (by omega)
          refine ⟨q', hq', fun c hc => ?_⟩
          rw [hm c hc, hq1 c hc]
          by_cases c1 : b ≤ c
          · by_cases c2 : c ≤ L
            · rw [hall c c1 c2, decide_eq_true c1, decide_eq_true c2]; simp
            · rw [decide_eq_true c1, decide_eq_false c2, decide_eq_true (by omega : L + 1 ≤ c)]; simp
          · rw [decide_eq_false c1, decide_eq_false (by omega : ¬ L + 1 ≤ c)]; simp
        have hth := txt_head p f (L + 1)
        unfold piece
        split
        · rename_i e1
          rw [ByteArray.data_append, Array.toList_append, prs_wr q b (by omega) _ hth]
          refine fin _ (fun c hc => ?_)
          rw [addR_at _ _ _ _ (Nat.le_refl _), e1]
        · split
          · rename_i e1 e2
            rw [ByteArray.data_append, Array.toList_append, ByteArray.data_append, Array.toList_append, List.append_assoc, prs_wr q b (by omega) _ (wr_head L (by omega) _), prs_wr _ L (by omega) _ hth]
            refine fin _ (fun c hc => ?_)
            rw [addR_at _ _ _ _ (Nat.le_refl _), addR_at _ _ _ _ (Nat.le_refl _), Bool.or_assoc]
            congr 1
            rw [Bool.eq_iff_iff]
            simp only [Bool.or_eq_true, Bool.and_eq_true, decide_eq_true_eq]
            omega
          · rename_i e1 e2
            rw [ByteArray.data_append, Array.toList_append, ByteArray.data_append, Array.toList_append, ByteArray.data_append, Array.toList_append, List.append_assoc, List.append_assoc]
            have := prs_span q b L (by omega) (by omega) (txtE p f (L + 1)).data.toList
            rw [show (({ data := #[45] } : ByteArray).data.toList ++ ((wrS L).data.toList ++ (txtE p f (L + 1)).data.toList)) = 45 :: ((wrS L).data.toList ++ (txtE p f (L + 1)).data.toList) from rfl, this]
            refine fin _ (fun c hc => ?_)
            rw [addR_at _ _ _ _ (by omega)]
      · rename_i hpb
        obtain ⟨q', hq', hm⟩ := ih (b + 1) q (by omega) (by omega)
        refine ⟨q', hq', fun c hc => ?_⟩
        rw [hm c hc]
        by_cases ec : c = b
        · subst ec
          rw [decide_eq_false (by omega : ¬ c + 1 ≤ c)]
          have : p c = false := by simpa using hpb
          rw [this]; simp
        · have : decide (b + 1 ≤ c) = decide (b ≤ c) := by rw [decide_eq_decide]; omega
          rw [this]
theorem txt_size (p : Nat → Bool) : ∀ (f b : Nat), b ≤ 256 → (txtE p f b).size ≤ 4 * (256 - b) := by
  intro f
  induction f with
  | zero => intro b hb; exact Nat.zero_le _
  | succ f ih =>
    intro b hb
    have e : txtE p (f + 1) b = if 256 ≤ b then ⟨#[]⟩ else if p b then piece b (runL p b) ++ txtE p f (runL p b + 1) else txtE p f (b + 1) := rfl
    rw [e]
    split
    · exact Nat.zero_le _
    · split
      · have hL := runL_ge p b (by omega)
        have h1 := ih (runL p b + 1) (by omega)
        have z1 := (wrS_size b (by omega)).1
        have z2 := (wrS_size (runL p b) (by omega)).1
        rw [ByteArray.size_append]
        unfold piece
        split
        · omega
        · split
          · rw [ByteArray.size_append]; omega
          · rw [ByteArray.size_append, ByteArray.size_append, show ({ data := #[45] } : ByteArray).size = 1 from rfl]; omega
      · have h1 := ih (b + 1) (by omega)
        omega
theorem parse_text (p : Nat → Bool) : (parseP (txtP p 0)).2 = 0 ∧ ∀ c, c < 256 → (parseP (txtP p 0)).1 c = p c := by
  have hs : (txtP p 0).size ≤ 1024 := txt_size p 256 0 (by omega)
  unfold parseP
  rw [if_neg (by omega)]
  obtain ⟨q', hq', hm⟩ := txt_back p 256 0 noP (by omega) (by omega)
  show (prsL noP (txtE p 256 0).data.toList).2 = 0 ∧ ∀ c, c < 256 → (prsL noP (txtE p 256 0).data.toList).1 c = p c
  rw [hq']
  exact ⟨rfl, fun c hc => by show q' c = p c; rw [hm c hc]; simp [noP]⟩
theorem parses_text (p : Nat → Bool) : parsesB (txtP p 0) p = true := by
  obtain ⟨h1, h2⟩ := parse_text p
  unfold parsesB
  rw [h1, eqP_yes h2]; rfl
/-- Sets with one text are equal. -/
theorem text_eq (p q : Nat → Bool) : decide (txtP p 0 = txtP q 0) = eqP p q := by
  rw [Bool.eq_iff_iff, decide_eq_true_eq, eqP_iff]
  constructor
  · intro h c hc
    rw [← (parse_text p).2 c hc, ← (parse_text q).2 c hc, h]
  · intro h
    have hr : ∀ (f l : Nat), l ≤ 255 → runE p f l = runE q f l := by
      intro f
      induction f with
      | zero => intro l _; rfl
      | succ f ih =>
        intro l hl
        show (if l < 255 && p (l + 1) then runE p f (l + 1) else l) = (if l < 255 && q (l + 1) then runE q f (l + 1) else l)
        by_cases e : l < 255
        · rw [h (l + 1) (by omega), ih (l + 1) (by omega)]
        · rw [decide_eq_false e]; rfl
    have ht : ∀ (f b : Nat), txtE p f b = txtE q f b := by
      intro f
      induction f with
      | zero => intro b; rfl
      | succ f ih =>
        intro b
        show (if 256 ≤ b then _ else if p b then piece b (runL p b) ++ txtE p f (runL p b + 1) else txtE p f (b + 1)) = (if 256 ≤ b then _ else if q b then piece b (runL q b) ++ txtE q f (runL q b + 1) else txtE q f (b + 1))
        by_cases e : 256 ≤ b
        · rw [if_pos e, if_pos e]
        · rw [if_neg e, if_neg e, h b (by omega), ih, ih, show runL p b = runL q b from hr 256 b (by omega)]
    exact ht 256 0

theorem lstP_sorted (p : Nat → Bool) (n : Nat) : (lstP p n).Pairwise (fun a b => a.val < b.val) := by
  induction n with
  | zero => exact List.Pairwise.nil
  | succ n ih =>
    by_cases h : n < 256
    · cases hp : p n
      · rw [lstP_no p n hp]; exact ih
      · rw [lstP_yes p n h hp, List.pairwise_append]
        refine ⟨ih, List.pairwise_singleton _ _, fun a ha b hb => ?_⟩
        simp at hb
        subst hb
        exact ((lstP_mem p n a).1 ha).1
    · have : lstP p (n + 1) = lstP p n := by
        show (if h : n < 256 then _ else _) = _
        rw [dif_neg h]
      rw [this]; exact ih
/-- Where the loop stands before its round i. -/
def lastAt (L : List (Fin 256)) : Nat → Int
  | 0 => -1
  | i + 1 => ((L[i]?.map (·.val)).getD 0 : Nat)
theorem lastAt_succ (L : List (Fin 256)) (i : Nat) (hi : i < L.length) : lastAt L (i + 1) = (L[i].val : Int) := by
  show (((L[i]?.map (·.val)).getD 0 : Nat) : Int) = _
  rw [List.getElem?_eq_getElem hi]; rfl
theorem lastAt_bound (L : List (Fin 256)) (i : Nat) (hi : i ≤ L.length) : -1 ≤ lastAt L i ∧ lastAt L i ≤ 255 := by
  cases i with
  | zero => show (-1 : Int) ≤ -1 ∧ (-1 : Int) ≤ 255; omega
  | succ i => rw [lastAt_succ L i hi]; have := L[i].isLt; omega
theorem lst_at (p : Nat → Bool) (i j : Nat) (hi : i < (lstP p 256).length) (hj : j < (lstP p 256).length) : i < j → (lstP p 256)[i].val < (lstP p 256)[j].val := fun h => (List.pairwise_iff_getElem.1 (lstP_sorted p 256)) i j hi hj h
theorem lst_past (p : Nat → Bool) (i : Nat) (hi : i ≤ (lstP p 256).length) (c : Nat) (hc : c < 256) (hp : p c = true) (ha : lastAt (lstP p 256) i < c) : ∃ j, ∃ hj : j < (lstP p 256).length, i ≤ j ∧ (lstP p 256)[j].val = c := by
  have hm : (⟨c, hc⟩ : Fin 256) ∈ lstP p 256 := (lstP_mem p 256 _).2 ⟨hc, hp⟩
  obtain ⟨j, hj, e⟩ := List.getElem_of_mem hm
  refine ⟨j, hj, ?_, by rw [e]⟩
  apply Nat.le_of_not_lt
  intro hlt
  cases i with
  | zero => omega
  | succ i =>
    rw [lastAt_succ _ i (by omega)] at ha
    by_cases ej : j = i
    · subst ej; rw [e] at ha; simp at ha
    · have := lst_at p j i hj (by omega) (by omega)
      rw [e] at this
      simp at this
      omega
theorem nxt_lst (p : Nat → Bool) (i : Nat) (hi : i < (lstP p 256).length) : nxtP p (lastAt (lstP p 256) i + 1) = some (lstP p 256)[i].val := by
  have hx := ((lstP_mem p 256 (lstP p 256)[i]).1 (List.getElem_mem hi))
  refine nxtN_some p _ 256 _ (Nat.le_refl _) (by omega) hx.1 hx.2 ?_ (fun c _ hc hpc => ?_)
  · cases i with
    | zero => show (-1 : Int) + 1 ≤ _; omega
    | succ i =>
      rw [lastAt_succ _ i (by omega)]
      have := lst_at p i (i + 1) (by omega) hi (by omega)
      omega
  · intro h
    obtain ⟨j, hj, hij, e⟩ := lst_past p i (by omega) c (by omega) hpc (by omega)
    by_cases ej : i = j
    · subst ej; omega
    · have := lst_at p i j hi hj (by omega)
      omega
theorem nxt_end (p : Nat → Bool) : nxtP p (lastAt (lstP p 256) (lstP p 256).length + 1) = none := by
  refine nxtN_none p _ 256 (Nat.le_refl _) (fun c _ hc hpc h => ?_)
  obtain ⟨j, hj, hij, e⟩ := lst_past p _ (Nat.le_refl _) c hc hpc (by omega)
  omega
end Go.Proofs.YtcfdadgijnmemaaDoor
