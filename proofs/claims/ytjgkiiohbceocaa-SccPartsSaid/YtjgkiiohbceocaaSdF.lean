/-
  What Heaviest answers, as plain functions; no program is in sight.
-/
import Derived.Test.YtjgkiiohbceocaaSdE
namespace Go.Proofs.Ytjgkiiohbceocaa
set_option linter.unusedVariables false
set_option linter.unusedSimpArgs false

/-- A weight that is not allowed. -/
def badW (x : Int) : Bool := decide (x < 0) || decide (1000 < x)
def intL (l : List Int) : List Value := l.map fun x => .int .i64 x
theorem intL_at {l : List Int} {k : Nat} {x : Int} (h : l[k]? = some x) : (intL l)[k]? = some (.int .i64 x) := by unfold intL; rw [List.getElem?_map, h]; rfl
theorem intL_len (l : List Int) : (intL l).length = l.length := by simp [intL]
def wN (wl : List Int) (k : Nat) : Nat := ((wl[k]?).getD 0).toNat
theorem wN_at {wl : List Int} {k : Nat} (hk : k < wl.length) (hb : wl.any badW = false) : ∃ x : Int, wl[k]? = some x ∧ x = (wN wl k : Int) ∧ wN wl k ≤ 1000 := by
  have he : wl[k]? = some wl[k] := List.getElem?_eq_getElem hk
  have := (List.any_eq_false.1 hb) wl[k] (List.getElem_mem hk)
  unfold badW at this
  rw [Bool.not_eq_true, Bool.or_eq_false_iff, decide_eq_false_iff_not, decide_eq_false_iff_not] at this
  refine ⟨wl[k], he, ?_, ?_⟩ <;> unfold wN <;> rw [he, Option.getD_some] <;> omega
/-- The greatest weight of a component. -/
def oT (wl : List Int) (l : List Nat) : Nat := l.foldl (fun a k => max a (wN wl k)) 0
theorem oT_step {wl : List Int} {l : List Nat} {t x : Nat} (hx : l[t]? = some x) : oT wl (l.take (t + 1)) = max (oT wl (l.take t)) (wN wl x) := by
  unfold oT
  rw [List.take_add_one, hx, List.foldl_append]; rfl
theorem oT_le {wl : List Int} {B : Nat} : ∀ {l : List Nat}, (∀ x ∈ l, wN wl x ≤ B) → ∀ a, a ≤ B → l.foldl (fun a k => max a (wN wl k)) a ≤ B
  | [], _, a, h => h
  | x :: l, h, a, ha => oT_le (fun y hy => h y (by simp [hy])) (max a (wN wl x)) (Nat.max_le.2 ⟨ha, h x (by simp)⟩)
def ownF (wl : List Int) (ls : List (List Nat)) (i : Nat) : Nat := oT wl ((ls[i]?).getD [])
theorem wN_le {wl : List Int} (hb : wl.any badW = false) (k : Nat) : wN wl k ≤ 1000 := by
  by_cases hk : k < wl.length
  · exact (wN_at hk hb).choose_spec.2.2
  · unfold wN
    rw [List.getElem?_eq_none (by omega)]
    decide
theorem ownF_le {wl : List Int} (hb : wl.any badW = false) (ls : List (List Nat)) (i : Nat) : ownF wl ls i ≤ 1000 := oT_le (fun x _ => wN_le hb x) 0 (by decide)
/-- own, as far as it is filled. -/
def ownT (m : Nat) (own : Nat → Nat) (j k : Nat) : Nat := if m - j ≤ k then own k else 0
theorem ownT_low {m : Nat} {own : Nat → Nat} {j k : Nat} (h : k < m - j) : ownT m own j k = 0 := by unfold ownT; rw [if_neg (by omega)]
theorem ownT_next {m : Nat} {own : Nat → Nat} {j : Nat} (hj : j < m) (k : Nat) : ownT m own (j + 1) k = upd (ownT m own j) (m - 1 - j) (own (m - 1 - j)) k := by
  by_cases h : k = m - 1 - j
  · subst h; rw [upd_same]; unfold ownT; rw [if_pos (by omega)]
  · rw [upd_other _ _ h]
    unfold ownT
    by_cases h2 : m - j ≤ k
    · rw [if_pos h2, if_pos (by omega)]
    · rw [if_neg h2, if_neg (by omega)]
theorem hvI_bound {e : Nat → Nat → Bool} {own : Nat → Nat} {i : Nat} {H : Nat → Nat × List Nat} {B L : Nat} (ho : own i ≤ 1000) : ∀ {c : Nat}, (∀ d, d < c → (H (i + 1 + d)).1 ≤ B ∧ (H (i + 1 + d)).2.length ≤ L) →
    (hvI e own i H c).1 ≤ B + 1000 ∧ (hvI e own i H c).2.length ≤ L + 1 ∧ (hvI e own i H c).2 ≠ []
  | 0, _ => ⟨show own i ≤ _ by omega, show 1 ≤ L + 1 by omega, by intro h; cases h⟩
  | c + 1, hh => by
    obtain ⟨h1, h2, h3⟩ := hvI_bound (e := e) ho (c := c) (fun d hd => hh d (by omega))
    obtain ⟨g1, g2⟩ := hh c (by omega)
    unfold hvI
    split
    · exact ⟨show own i + _ ≤ _ by omega, show _ + 1 ≤ _ by omega, by intro h; cases h⟩
    · exact ⟨h1, h2, h3⟩
theorem hvS_bound {m : Nat} {e : Nat → Nat → Bool} {own : Nat → Nat} (ho : ∀ i, own i ≤ 1000) : ∀ j k, (hvS m e own j k).1 ≤ 1000 * j ∧ (hvS m e own j k).2.length ≤ j
  | 0, k => ⟨Nat.zero_le _, Nat.zero_le _⟩
  | j + 1, k => by
    show (upd (hvS m e own j) (m - 1 - j) (hvI e own (m - 1 - j) (hvS m e own j) j) k).1 ≤ _ ∧ (upd (hvS m e own j) (m - 1 - j) (hvI e own (m - 1 - j) (hvS m e own j) j) k).2.length ≤ _
    by_cases h : k = m - 1 - j
    · subst h
      rw [upd_same]
      obtain ⟨h1, h2, _⟩ := hvI_bound (e := e) (c := j) (ho (m - 1 - j)) (fun d _ => hvS_bound (m := m) (e := e) ho j (m - 1 - j + 1 + d))
      exact ⟨by omega, h2⟩
    · rw [upd_other _ _ h]
      obtain ⟨h1, h2⟩ := hvS_bound (m := m) (e := e) ho j k
      exact ⟨by omega, by omega⟩
theorem hvS_ne {m : Nat} {e : Nat → Nat → Bool} {own : Nat → Nat} (ho : ∀ i, own i ≤ 1000) : ∀ j k, j ≤ m → m - j ≤ k → k < m → (hvS m e own j k).2 ≠ []
  | 0, k, hj, h1, h2 => by omega
  | j + 1, k, hj, h1, h2 => by
    show (upd (hvS m e own j) (m - 1 - j) (hvI e own (m - 1 - j) (hvS m e own j) j) k).2 ≠ []
    by_cases h : k = m - 1 - j
    · subst h
      rw [upd_same]
      exact (hvI_bound (e := e) (c := j) (ho (m - 1 - j)) (fun d _ => hvS_bound (m := m) (e := e) ho j (m - 1 - j + 1 + d))).2.2
    · rw [upd_other _ _ h]
      exact hvS_ne ho j k (by omega) (by omega) h2
theorem hvS_zero {m : Nat} {e : Nat → Nat → Bool} {own : Nat → Nat} : ∀ {j k : Nat}, k < m - j → hvS m e own j k = (0, [])
  | 0, _, _ => rfl
  | j + 1, k, h => by
    show upd (hvS m e own j) (m - 1 - j) _ k = _
    rw [upd_other _ _ (by omega)]
    exact hvS_zero (by omega)
def atV (B : Nat → Nat) (i : Nat) : Int := match argM B i with
  | none => -1
  | some a => (a : Int)
theorem atV_first (B : Nat → Nat) : atV B 1 = 0 := rfl
theorem atV_step {B : Nat → Nat} {i a : Nat} (h : argM B i = some a) : atV B (i + 1) = if B a < B i then (i : Int) else (a : Int) := by
  unfold atV argM
  rw [h]
  show (match (if B a < B i then some i else some a) with | none => -1 | some a => (a : Int)) = _
  by_cases hb : B a < B i
  · rw [if_pos hb, if_pos hb]
  · rw [if_neg hb, if_neg hb]
/-- What Heaviest answers. -/
def eHv (n : Int) (l : List Edg) (wl : List Int) : Int := if (chkG n l).1 = 0 then (if (wl.length : Int) = n then (if wl.any badW = true then 2 else 0) else 3) else (chkG n l).1
def hvV (m : Nat) (E : Nat → Nat → Bool) (wl : List Int) (ls : List (List Nat)) : Nat × List Nat := match argM (fun i => (hvF ls.length (edgP E ls) (ownF wl ls) i).1) ls.length with
  | none => (0, [])
  | some a => hvF ls.length (edgP E ls) (ownF wl ls) a
def vHv (n : Int) (l : List Edg) (wl : List Int) : Nat × List Nat := if eHv n l wl = 0 then hvV n.toNat (relE l) wl (pV n l) else (0, [])
end Go.Proofs.Ytjgkiiohbceocaa
