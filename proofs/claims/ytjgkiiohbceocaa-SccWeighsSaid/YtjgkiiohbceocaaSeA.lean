/-
  What holds of components, levels and orders of any valid graph (for SccOnce), in plain words; no program is in sight.
-/
import Derived.Test.YtjgkiiohbceocaaSdU
namespace Go.Proofs.Ytjgkiiohbceocaa
set_option linter.unusedVariables false
set_option linter.unusedSimpArgs false

/-! A list of edges in order is valid. -/
theorem chkE_asc {m : Nat} : ∀ {L : List (Nat × Nat)} {b : Option Edg} {i : Nat}, (∀ x ∈ L, x.1 < m ∧ x.2 < m) → L.Pairwise ltP → (∀ p ∈ L.head?, badE b (conE p) = false) → (chkE (m : Int) b i (L.map conE)).1 = 0
  | [], _, _, _, _, _ => rfl
  | x :: L, b, i, h1, h2, h3 => by
    have hx := h1 x (by simp)
    have e1 : (nodE (m : Int) (conE x).f && nodE (m : Int) (conE x).t) = true := by
      show (nodE (m : Int) ((x.1 : Nat) : Int) && nodE (m : Int) ((x.2 : Nat) : Int)) = true
      unfold nodE
      rw [decide_eq_true (show (0 : Int) ≤ (x.1 : Int) by omega), decide_eq_true (show (x.1 : Int) < (m : Int) by omega), decide_eq_true (show (0 : Int) ≤ (x.2 : Int) by omega), decide_eq_true (show (x.2 : Int) < (m : Int) by omega)]; rfl
    show (if (nodE (m : Int) (conE x).f && nodE (m : Int) (conE x).t) = true then (if badE b (conE x) = true then (8, i) else chkE (m : Int) (some (conE x)) (i + 1) (L.map conE)) else (2, i)).1 = 0
    rw [if_pos e1, if_neg (by rw [h3 x (by simp)]; decide)]
    rw [List.pairwise_cons] at h2
    refine chkE_asc (fun y hy => h1 y (by simp [hy])) h2.2 (fun p hp => ?_)
    have hlt := h2.1 p (List.mem_of_mem_head? hp)
    show (decide (((p.1 : Nat) : Int) < ((x.1 : Nat) : Int)) || (decide (((p.1 : Nat) : Int) = ((x.1 : Nat) : Int)) && decide (((p.2 : Nat) : Int) ≤ ((x.2 : Nat) : Int)))) = false
    rcases hlt with h | ⟨h, h'⟩
    · rw [decide_eq_false (show ¬ ((p.1 : Nat) : Int) < ((x.1 : Nat) : Int) by omega), decide_eq_false (show ¬ ((p.1 : Nat) : Int) = ((x.1 : Nat) : Int) by omega)]; rfl
    · rw [decide_eq_false (show ¬ ((p.1 : Nat) : Int) < ((x.1 : Nat) : Int) by omega), decide_eq_false (show ¬ ((p.2 : Nat) : Int) ≤ ((x.2 : Nat) : Int) by omega), Bool.and_false]; rfl
theorem chkG_asc {m : Nat} (hm : m ≤ 64) {L : List (Nat × Nat)} (h1 : ∀ x ∈ L, x.1 < m ∧ x.2 < m) (h2 : L.Pairwise ltP) : (chkG (m : Int) (L.map conE)).1 = 0 := by
  have : outN (m : Int) = false := by
    unfold outN
    rw [decide_eq_false (show ¬ (m : Int) < 0 by omega), decide_eq_false (show ¬ (64 : Int) < (m : Int) by omega)]; rfl
  unfold chkG
  rw [if_neg (by rw [this]; decide)]
  exact chkE_asc h1 h2 (fun p _ => rfl)
/-! The graph that is made of a table. -/
def rowG (T : Nat → Nat → Bool) (a : Nat) : Nat → List (Nat × Nat)
  | 0 => []
  | b + 1 => if T a b = true then rowG T a b ++ [(a, b)] else rowG T a b
def allG (T : Nat → Nat → Bool) (n : Nat) : Nat → List (Nat × Nat)
  | 0 => []
  | a + 1 => allG T n a ++ rowG T a n
theorem rowG_mem {T : Nat → Nat → Bool} {a : Nat} {x : Nat × Nat} : ∀ {b : Nat}, x ∈ rowG T a b → x.1 = a ∧ x.2 < b
  | 0, h => by cases h
  | b + 1, h => by
    unfold rowG at h
    split at h
    · rcases List.mem_append.1 h with h | h
      · have := rowG_mem h; omega
      · rw [List.mem_singleton] at h; subst h; exact ⟨rfl, Nat.lt_succ_self b⟩
    · have := rowG_mem h; omega
theorem rowG_asc (T : Nat → Nat → Bool) (a : Nat) : ∀ b, (rowG T a b).Pairwise ltP
  | 0 => List.Pairwise.nil
  | b + 1 => by
    unfold rowG
    split
    · rw [List.pairwise_append]
      refine ⟨rowG_asc T a b, List.pairwise_singleton _ _, fun x hx y hy => ?_⟩
      rw [List.mem_singleton] at hy
      subst hy
      have := rowG_mem hx
      exact .inr this
    · exact rowG_asc T a b
theorem rowG_len (T : Nat → Nat → Bool) (a : Nat) : ∀ b, (rowG T a b).length ≤ b
  | 0 => Nat.le_refl _
  | b + 1 => by
    have := rowG_len T a b
    unfold rowG
    split
    · rw [List.length_append, List.length_singleton]; omega
    · omega
theorem allG_mem {T : Nat → Nat → Bool} {n : Nat} {x : Nat × Nat} : ∀ {a : Nat}, x ∈ allG T n a → x.1 < a ∧ x.2 < n
  | 0, h => by cases h
  | a + 1, h => by
    unfold allG at h
    rcases List.mem_append.1 h with h | h
    · have := allG_mem h; omega
    · have := rowG_mem h; omega
theorem allG_asc (T : Nat → Nat → Bool) (n : Nat) : ∀ a, (allG T n a).Pairwise ltP
  | 0 => List.Pairwise.nil
  | a + 1 => by
    unfold allG
    rw [List.pairwise_append]
    refine ⟨allG_asc T n a, rowG_asc T a n, fun x hx y hy => ?_⟩
    have h1 := allG_mem hx
    have h2 := rowG_mem hy
    exact .inl (by omega)
theorem allG_len (T : Nat → Nat → Bool) (n : Nat) : ∀ a, (allG T n a).length ≤ a * n
  | 0 => Nat.zero_le _
  | a + 1 => by
    have h1 := allG_len T n a
    have h2 := rowG_len T a n
    unfold allG
    rw [List.length_append, Nat.succ_mul]; omega

/-! Counting. -/
theorem cntB_add {f g h : Nat → Bool} (hx : ∀ x, h x = (f x || g x)) (hd : ∀ x, f x = true → g x = false) : ∀ n, cntB h n = cntB f n + cntB g n
  | 0 => rfl
  | n + 1 => by
    have ih := cntB_add hx hd n
    show cntB h n + (if h n = true then 1 else 0) = cntB f n + (if f n = true then 1 else 0) + (cntB g n + (if g n = true then 1 else 0))
    rw [ih, hx n]
    cases h1 : f n with
    | true => rw [hd n h1]; simp; omega
    | false => cases g n <;> simp <;> omega
theorem cntB_filter (f : Nat → Bool) : ∀ n, ((List.range n).filter f).length = cntB f n
  | 0 => rfl
  | n + 1 => by
    rw [List.range_succ, List.filter_append, List.length_append, cntB_filter f n]
    show _ = cntB f n + (if f n = true then 1 else 0)
    rw [List.filter_cons, List.filter_nil]
    split <;> rfl
theorem cntB_all {f : Nat → Bool} : ∀ {n : Nat}, (∀ x, x < n → f x = true) → cntB f n = n
  | 0, _ => rfl
  | n + 1, h => by
    show cntB f n + (if f n = true then 1 else 0) = n + 1
    rw [cntB_all (fun x hx => h x (by omega)), if_pos (h n (by omega))]
/-- The sizes of the components, the first k of them. -/
theorem parts_cnt {n : Nat} {T : Nat → Nat → Bool} (ht : Trans' T) : ∀ k, k ≤ (partsV n T).length → sumL ((partsV n T).take k) = cntB (fun x => decide (partI n T x < k)) n
  | 0, _ => by
    rw [List.take_zero]
    show 0 = _
    have : ∀ m, cntB (fun x => decide (partI n T x < 0)) m = 0 := by
      intro m
      induction m with
      | zero => rfl
      | succ m ih =>
        show cntB (fun x => decide (partI n T x < 0)) m + (if decide (partI n T m < 0) = true then 1 else 0) = 0
        rw [ih, if_neg (by simp)]
    rw [this n]
  | k + 1, hk => by
    obtain ⟨c, hc⟩ : ∃ c, (partsV n T)[k]? = some c := ⟨_, List.getElem?_eq_getElem (by omega)⟩
    have ih := parts_cnt (n := n) ht k (by omega)
    have hs : sumL ((partsV n T).take (k + 1)) = sumL ((partsV n T).take k) + c.length := by
      rw [List.take_add_one, hc]
      unfold sumL
      simp
    rw [hs, ih]
    obtain ⟨r, hr, hcr⟩ := partsV_at hc
    have hlen : c.length = cntB (fun x => decide (partI n T x = k)) n := by
      rw [hcr]
      unfold mem_
      rw [cntB_filter]
      refine cntB_congr (fun x hx => ?_)
      rw [Bool.eq_iff_iff, decide_eq_true_eq, partI_mem ht hc hx, hcr, mem_mem]
      exact ⟨fun h => ⟨hx, h⟩, fun h => h.2⟩
    rw [hlen]
    refine (cntB_add (f := fun x => decide (partI n T x < k)) (g := fun x => decide (partI n T x = k)) (h := fun x => decide (partI n T x < k + 1)) (fun x => ?_) (fun x h => ?_) n).symm
    · rw [Bool.eq_iff_iff, Bool.or_eq_true, decide_eq_true_eq, decide_eq_true_eq, decide_eq_true_eq]; omega
    · rw [decide_eq_true_eq] at h; exact decide_eq_false (by omega)
theorem parts_lt {n : Nat} {T : Nat → Nat → Bool} (ht : Trans' T) {x : Nat} (hx : x < n) : partI n T x < (partsV n T).length := by
  have := partI_lt ht hx
  unfold partsV
  rwa [List.length_map]
theorem parts_sum {n : Nat} {T : Nat → Nat → Bool} (ht : Trans' T) : sumL (partsV n T) = n := by
  have h := parts_cnt (n := n) ht (partsV n T).length (Nat.le_refl _)
  rw [List.take_length] at h
  rw [h]
  exact cntB_all (fun x hx => decide_eq_true (parts_lt ht hx))
theorem mem_nodup (n : Nat) (T : Nat → Nat → Bool) (r : Nat) : (mem_ n T r).Nodup := List.Pairwise.filter _ List.nodup_range
theorem take_not {c : List Nat} (hn : c.Nodup) {j x : Nat} (hx : c[j]? = some x) : x ∉ c.take j := by
  intro h
  obtain ⟨i, hi⟩ := List.mem_iff_getElem?.1 h
  rw [List.getElem?_take] at hi
  split at hi
  · rename_i hij
    obtain ⟨h1, e1⟩ := List.getElem?_eq_some_iff.1 hi
    obtain ⟨h2, e2⟩ := List.getElem?_eq_some_iff.1 hx
    exact (List.pairwise_iff_getElem.1 hn) i j h1 h2 hij (by rw [e1, e2])
  · cases hi

/-! Edges between components go on, and down. -/
theorem edge_parts {m : Nat} {E : Nat → Nat → Bool} (hw : Within m E) {a b : Nat} (h : E a b = true) :
    edgP E (partsV m (rea m E)) (partI m (rea m E) a) (partI m (rea m E) b) = true := by
  have ht : Trans' (rea m E) := fun i j k h1 h2 => rea_trans hw h1 h2
  obtain ⟨ha, hb⟩ := hw a b h
  have la := parts_lt ht ha
  have lb := parts_lt ht hb
  obtain ⟨ca, hca⟩ : ∃ c, (partsV m (rea m E))[partI m (rea m E) a]? = some c := ⟨_, List.getElem?_eq_getElem la⟩
  obtain ⟨cb, hcb⟩ : ∃ c, (partsV m (rea m E))[partI m (rea m E) b]? = some c := ⟨_, List.getElem?_eq_getElem lb⟩
  unfold edgP edgL
  rw [hca, hcb, Option.getD_some, Option.getD_some, List.any_eq_true]
  refine ⟨a, (partI_mem ht hca ha).1 rfl, ?_⟩
  rw [List.any_eq_true]
  exact ⟨b, (partI_mem ht hcb hb).1 rfl, h⟩
theorem edge_down {m : Nat} {E : Nat → Nat → Bool} (hw : Within m E) {a b : Nat} (h : E a b = true) :
    partI m (rea m E) a ≤ partI m (rea m E) b ∧ (partI m (rea m E) a < partI m (rea m E) b → levF (partsV m (rea m E)).length (edgP E (partsV m (rea m E))) (partI m (rea m E) b) < levF (partsV m (rea m E)).length (edgP E (partsV m (rea m E))) (partI m (rea m E) a)) := by
  have he := edge_parts hw h
  obtain ⟨l1, l2⟩ := edgP_lt he
  refine ⟨?_, fun hlt => ?_⟩
  · by_cases e : partI m (rea m E) a = partI m (rea m E) b
    · omega
    · have := edgP_topo hw e he; omega
  · rw [levF_at l1]
    obtain ⟨d, hd⟩ : ∃ d, partI m (rea m E) b = partI m (rea m E) a + 1 + d := ⟨partI m (rea m E) b - (partI m (rea m E) a + 1), by omega⟩
    have hg := (mxI_ge (e := edgP E (partsV m (rea m E))) (h := fun k => levF (partsV m (rea m E)).length (edgP E (partsV m (rea m E))) k + 1) (i := partI m (rea m E) a) (a0 := 0) (c := (partsV m (rea m E)).length - (partI m (rea m E) a + 1))).2 d (by omega) (by rw [← hd]; exact he)
    rw [← hd] at hg
    omega

/-! Loops, and orders. -/
theorem loops_any {m : Nat} {T : Nat → Nat → Bool} (ht : Trans' T) : ((partsV m T).map fun c => T (c.headD 0) (c.headD 0)).any id = lpT T m := by
  rw [Bool.eq_iff_iff, List.any_eq_true]
  constructor
  · rintro ⟨b, hb, hb2⟩
    obtain ⟨c, hc, rfl⟩ := List.mem_map.1 hb
    obtain ⟨i, hi⟩ := List.mem_iff_getElem?.1 hc
    obtain ⟨r, hr, rfl⟩ := partsV_at hi
    obtain ⟨r1, r2⟩ := (partsR_mem ht).1 (List.mem_of_getElem? hr)
    obtain ⟨t, he⟩ := mem_head (T := T) r1 r2
    rw [he] at hb2
    unfold lpT
    rw [List.any_eq_true]
    exact ⟨r, List.mem_range.2 r1, hb2⟩
  · intro h
    unfold lpT at h
    rw [List.any_eq_true] at h
    obtain ⟨x, hx, hxx⟩ := h
    have hx := List.mem_range.1 hx
    obtain ⟨r, h1, h2, h3⟩ := root_of ht x
    have hr : r < m := by omega
    obtain ⟨i, hi⟩ := List.mem_iff_getElem?.1 ((partsR_mem (n := m) ht).2 ⟨hr, h2⟩)
    obtain ⟨t, he⟩ := mem_head (n := m) (T := T) hr h2
    refine ⟨_, List.mem_map.2 ⟨mem_ m T r, ?_, rfl⟩, ?_⟩
    · unfold partsV
      exact List.mem_map.2 ⟨r, List.mem_of_getElem? hi, rfl⟩
    · rw [he]
      show T r r = true
      rcases tog_iff.1 h3 with e | ⟨e1, e2⟩
      · subst e; exact hxx
      · exact ht _ _ _ e1 e2
/-- Where edges go on, nothing reaches itself. -/
theorem wlk_up {n : Nat} {E : Nat → Nat → Bool} (hw : Within n E) (hup : ∀ i k, E i k = true → i < k) : ∀ {d i j : Nat}, wlk n E (d + 1) i j = true → i < j
  | 0, i, j, h => by
    obtain ⟨k, h1, h2⟩ := (wlk_succ hw).1 h
    have := wlk_zero.1 h2
    subst this
    exact hup _ _ h1
  | d + 1, i, j, h => by
    obtain ⟨k, h1, h2⟩ := (wlk_succ hw).1 h
    have := wlk_up hw hup h2
    have := hup _ _ h1
    omega
theorem no_loop {n : Nat} {E : Nat → Nat → Bool} (hw : Within n E) (hup : ∀ i k, E i k = true → i < k) : lpT (rea n E) n = false := by
  cases h : lpT (rea n E) n with
  | false => rfl
  | true =>
    unfold lpT at h
    rw [List.any_eq_true] at h
    obtain ⟨x, _, hx⟩ := h
    obtain ⟨d, hd⟩ := (rea_wlk hw).1 hx
    have := wlk_up hw hup hd
    omega
theorem relE_con {L : List (Nat × Nat)} {i k : Nat} : relE (L.map conE) i k = true ↔ (i, k) ∈ L := by
  unfold relE
  rw [List.any_eq_true]
  constructor
  · rintro ⟨e, he, h⟩
    obtain ⟨p, hp, rfl⟩ := List.mem_map.1 he
    rw [Bool.and_eq_true, decide_eq_true_eq, decide_eq_true_eq] at h
    have h1 : ((p.1 : Nat) : Int) = (i : Int) := h.1
    have h2 : ((p.2 : Nat) : Int) = (k : Int) := h.2
    have : p = (i, k) := by
      obtain ⟨a, b⟩ := p
      simp only [Prod.mk.injEq]
      simp only at h1 h2
      omega
    rw [← this]; exact hp
  · intro h
    exact ⟨conE (i, k), List.mem_map.2 ⟨_, h, rfl⟩, by rw [Bool.and_eq_true, decide_eq_true_eq, decide_eq_true_eq]; exact ⟨rfl, rfl⟩⟩
/-- The graph of components has an order. -/
theorem cond_order {m : Nat} (hm : m ≤ 64) {E : Nat → Nat → Bool} (hw : Within m E) :
    eOrder (((partsV m (rea m E)).length : Nat) : Int) ((condL (partsV m (rea m E)).length (edgP E (partsV m (rea m E)))).map conE) = 0 := by
  have ht : Trans' (rea m E) := fun i j k h1 h2 => rea_trans hw h1 h2
  have hp := parts_what ht hm
  obtain ⟨L, hL⟩ : ∃ L, L = condL (partsV m (rea m E)).length (edgP E (partsV m (rea m E))) := ⟨_, rfl⟩
  obtain ⟨np, hnp⟩ : ∃ np, np = (partsV m (rea m E)).length := ⟨_, rfl⟩
  have hmem : ∀ i k, (i, k) ∈ L → i < k ∧ k < np := by
    intro i k h
    rw [hL] at h
    obtain ⟨h1, h2, h3, h4⟩ := mem_condTo.1 h
    exact ⟨edgP_topo hw h3 h4, by rw [hnp]; exact h2⟩
  have hck : (chkG (np : Int) (L.map conE)).1 = 0 := chkG_asc (by rw [hnp]; exact hp.1) (fun x hx => by
    have := hmem x.1 x.2 hx
    omega) (by rw [hL]; exact condTo_asc _ _ _)
  rw [← hL, ← hnp]
  obtain ⟨n', e1, _, _, hw', _⟩ := ok_nat hck
  have e1 : np = n' := by omega
  subst e1
  unfold eOrder
  rw [if_pos hck, if_neg]
  have hR : rR (np : Int) (L.map conE) = rea np (relE (L.map conE)) := by unfold rR; rw [Int.toNat_natCast]
  rw [hR, Int.toNat_natCast, no_loop hw' (fun i k h => (hmem i k (relE_con.1 h)).1)]
  decide
end Go.Proofs.Ytjgkiiohbceocaa
