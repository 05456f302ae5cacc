/-
  Shortest ways, as plain functions: the greedy one and the reference's levels are the same; no program is in sight; no condition.
-/
import Derived.Test.YtjgkiiohbceocaaScH
namespace Go.Proofs.Ytjgkiiohbceocaa
set_option linter.unusedVariables false
set_option linter.unusedSimpArgs false

/-! Ways of so many steps. -/
def wlk (n : Nat) (E : Nat → Nat → Bool) : Nat → Nat → Nat → Bool
  | 0 => fun i j => decide (i = j)
  | d + 1 => fun i j => (List.range n).any fun k => E i k && wlk n E d k j
theorem wlk_zero {n : Nat} {E : Nat → Nat → Bool} {i j : Nat} : wlk n E 0 i j = true ↔ i = j := decide_eq_true_iff
theorem wlk_succ {n : Nat} {E : Nat → Nat → Bool} (hw : Within n E) {d i j : Nat} : wlk n E (d + 1) i j = true ↔ ∃ k, E i k = true ∧ wlk n E d k j = true := by
  show ((List.range n).any fun k => E i k && wlk n E d k j) = true ↔ _
  rw [List.any_eq_true]
  constructor
  · rintro ⟨k, _, h⟩
    rw [Bool.and_eq_true] at h
    exact ⟨k, h⟩
  · rintro ⟨k, h1, h2⟩
    exact ⟨k, List.mem_range.2 (hw i k h1).2, by rw [h1, h2]; rfl⟩
theorem wlk_add {n : Nat} {E : Nat → Nat → Bool} (hw : Within n E) : ∀ (a b : Nat) {i k j : Nat}, wlk n E a i k = true → wlk n E b k j = true → wlk n E (a + b) i j = true
  | 0, b, i, k, j, h1, h2 => by
    obtain rfl := wlk_zero.1 h1
    rw [Nat.zero_add]; exact h2
  | a + 1, b, i, k, j, h1, h2 => by
    obtain ⟨x, h3, h4⟩ := (wlk_succ hw).1 h1
    rw [show a + 1 + b = (a + b) + 1 by omega]
    exact (wlk_succ hw).2 ⟨x, h3, wlk_add hw a b h4 h2⟩
theorem rea_wlk {n : Nat} {E : Nat → Nat → Bool} (hw : Within n E) {i j : Nat} : rea n E i j = true ↔ ∃ d, wlk n E (d + 1) i j = true := by
  constructor
  · intro h
    refine clo_least E (fun i j => ∃ d, wlk n E (d + 1) i j = true) (fun i j h => ⟨0, (wlk_succ hw).2 ⟨j, h, wlk_zero.2 rfl⟩⟩) ?_ n i j h
    rintro i j k ⟨a, ha⟩ ⟨b, hb⟩
    exact ⟨a + 1 + b, wlk_add hw (a + 1) (b + 1) ha hb⟩
  · rintro ⟨d, h⟩
    induction d generalizing i with
    | zero =>
      obtain ⟨k, h1, h2⟩ := (wlk_succ hw).1 h
      obtain rfl := wlk_zero.1 h2
      exact clo_mono E n i k h1
    | succ d ih =>
      obtain ⟨k, h1, h2⟩ := (wlk_succ hw).1 h
      exact rea_trans hw (clo_mono E n i k h1) (ih h2)

/-! How far it is. -/
def farS (n : Nat) (E : Nat → Nat → Bool) (t : Nat) : Nat → Nat → Nat
  | 0 => fun _ => 0
  | d + 1 => fun i => if (decide (farS n E t d i = 0) && wlk n E (d + 1) i t) = true then d + 1 else farS n E t d i
theorem farS_what (n : Nat) (E : Nat → Nat → Bool) (t i : Nat) : ∀ N, (farS n E t N i = 0 ∧ ∀ d, 1 ≤ d → d ≤ N → wlk n E d i t = false) ∨
    (1 ≤ farS n E t N i ∧ farS n E t N i ≤ N ∧ wlk n E (farS n E t N i) i t = true ∧ ∀ d, 1 ≤ d → d < farS n E t N i → wlk n E d i t = false)
  | 0 => .inl ⟨rfl, fun d h1 h2 => by omega⟩
  | N + 1 => by
    have hd : farS n E t (N + 1) i = if (decide (farS n E t N i = 0) && wlk n E (N + 1) i t) = true then N + 1 else farS n E t N i := rfl
    rw [hd]
    rcases farS_what n E t i N with ⟨h1, h2⟩ | ⟨h1, h2, h3, h4⟩
    · cases hw : wlk n E (N + 1) i t with
      | true =>
        rw [h1, decide_eq_true rfl, Bool.true_and, if_pos rfl]
        exact .inr ⟨by omega, Nat.le_refl _, hw, fun d h3 h4 => h2 d h3 (by omega)⟩
      | false =>
        rw [Bool.and_false, if_neg (by decide), h1]
        refine .inl ⟨rfl, fun d h3 h4 => ?_⟩
        by_cases e : d = N + 1
        · subst e; exact hw
        · exact h2 d h3 (by omega)
    · rw [decide_eq_false (show ¬ farS n E t N i = 0 by omega), Bool.false_and, if_neg (by decide)]
      exact .inr ⟨h1, by omega, h3, h4⟩
/-- A way of d steps and none shorter: d is how far it is. -/
theorem farS_eq {n : Nat} {E : Nat → Nat → Bool} {t i N d : Nat} (h1 : 1 ≤ d) (h2 : d ≤ N) (h3 : wlk n E d i t = true) (h4 : ∀ d', 1 ≤ d' → d' < d → wlk n E d' i t = false) : farS n E t N i = d := by
  rcases farS_what n E t i N with ⟨g1, g2⟩ | ⟨g1, g2, g3, g4⟩
  · rw [g2 d h1 h2] at h3; cases h3
  · rcases Nat.lt_trichotomy (farS n E t N i) d with h | h | h
    · rw [h4 _ g1 h] at g3; cases g3
    · exact h
    · rw [g4 d h1 h] at h3; cases h3
/-- The next one on a shortest way is one step nearer. -/
theorem farS_next {n : Nat} {E : Nat → Nat → Bool} (hw : Within n E) {t N i k d : Nat} (hf : farS n E t N i = d + 2) (hik : E i k = true) (hk : wlk n E (d + 1) k t = true) : farS n E t N k = d + 1 := by
  rcases farS_what n E t i N with ⟨g1, g2⟩ | ⟨g1, g2, g3, g4⟩
  · omega
  · refine farS_eq (by omega) (by omega) hk (fun d' h1 h2 => ?_)
    cases e : wlk n E d' k t with
    | false => rfl
    | true =>
      have := g4 (d' + 1) (by omega) (by omega)
      rw [(wlk_succ hw).2 ⟨k, hik, e⟩] at this
      cases this
theorem pigeon : ∀ (n D : Nat) (g : Nat → Nat), (∀ s, 1 ≤ s → s ≤ D → ∃ x, x < n ∧ g x = s) → D ≤ n
  | 0, D, g, h => by
    refine Nat.le_of_not_lt fun hD => ?_
    obtain ⟨x, hx, _⟩ := h 1 (by omega) (by omega)
    omega
  | n + 1, D, g, h => by
    by_cases hD : D = 0
    · omega
    · have : D - 1 ≤ n := by
        refine pigeon n (D - 1) (fun x => if g x = D then g n else g x) (fun s h1 h2 => ?_)
        obtain ⟨x, hx, hg⟩ := h s h1 (by omega)
        by_cases hxn : x = n
        · subst hxn
          obtain ⟨y, hy, hgy⟩ := h D (by omega) (by omega)
          have : y ≠ x := fun e => by subst e; omega
          exact ⟨y, by omega, by show (if g y = D then g x else g y) = s; rw [if_pos hgy]; exact hg⟩
        · exact ⟨x, by omega, by show (if g x = D then g n else g x) = s; rw [if_neg (by omega)]; exact hg⟩
      omega
theorem farS_bound {n : Nat} {E : Nat → Nat → Bool} (hw : Within n E) {t i N : Nat} : farS n E t N i ≤ n := by
  by_cases h0 : farS n E t N i = 0
  · omega
  · have key : ∀ c, c < farS n E t N i → ∃ x, x < n ∧ farS n E t N x = farS n E t N i - c := by
      intro c
      induction c with
      | zero =>
        intro _
        rcases farS_what n E t i N with ⟨g1, g2⟩ | ⟨g1, g2, g3, g4⟩
        · omega
        · obtain ⟨d, hd⟩ : ∃ d, farS n E t N i = d + 1 := ⟨farS n E t N i - 1, by omega⟩
          rw [hd] at g3
          obtain ⟨k, hk, _⟩ := (wlk_succ hw).1 g3
          exact ⟨i, (hw i k hk).1, by omega⟩
      | succ c ih =>
        intro hc
        obtain ⟨x, hx, hf⟩ := ih (by omega)
        obtain ⟨d, hd⟩ : ∃ d, farS n E t N i - c = d + 2 := ⟨farS n E t N i - c - 2, by omega⟩
        rw [hd] at hf
        rcases farS_what n E t x N with ⟨g1, g2⟩ | ⟨g1, g2, g3, g4⟩
        · omega
        · rw [hf] at g3
          obtain ⟨k, hk, hkw⟩ := (wlk_succ hw).1 g3
          exact ⟨k, (hw x k hk).2, by rw [farS_next hw hf hk hkw]; omega⟩
    refine pigeon n _ (farS n E t N) (fun s h1 h2 => ?_)
    obtain ⟨x, hx, hf⟩ := key (farS n E t N i - s) (by omega)
    exact ⟨x, hx, by omega⟩
/-- Who is reached is not too far. -/
theorem far_iff {n : Nat} {E : Nat → Nat → Bool} (hw : Within n E) {t i : Nat} : rea n E i t = true ↔ farS n E t n i ≠ 0 := by
  rw [rea_wlk hw]
  constructor
  · rintro ⟨d, h⟩ h0
    have hb := farS_bound hw (t := t) (i := i) (N := d + 1)
    rcases farS_what n E t i (d + 1) with ⟨g1, g2⟩ | ⟨g1, g2, g3, g4⟩
    · rw [g2 (d + 1) (by omega) (by omega)] at h; cases h
    · rcases farS_what n E t i n with ⟨k1, k2⟩ | ⟨k1, k2, k3, k4⟩
      · rw [k2 _ g1 hb] at g3; cases g3
      · omega
  · intro h
    rcases farS_what n E t i n with ⟨k1, k2⟩ | ⟨k1, k2, k3, k4⟩
    · omega
    · exact ⟨farS n E t n i - 1, by rw [show farS n E t n i - 1 + 1 = farS n E t n i by omega]; exact k3⟩

/-! The greedy way. -/
def gre (n : Nat) (E : Nat → Nat → Bool) (F : Nat → Nat) : Nat → Nat → List Nat
  | 0 => fun _ => []
  | d + 1 => fun a => match (List.range n).find? fun i => E a i && decide (F i = d + 1) with
    | some i => i :: gre n E F d i
    | none => gre n E F d a
def walkB (E : Nat → Nat → Bool) : Nat → List Nat → Nat → Prop
  | a, [], b => a = b
  | a, x :: l, b => E a x = true ∧ walkB E x l b
def lexle : List Nat → List Nat → Prop
  | [], _ => True
  | _ :: _, [] => False
  | x :: a, y :: b => x < y ∨ (x = y ∧ lexle a b)
def lexlt : List Nat → List Nat → Prop
  | _, [] => False
  | [], _ :: _ => True
  | x :: a, y :: b => x < y ∨ (x = y ∧ lexlt a b)
theorem lexle_refl : ∀ a, lexle a a
  | [] => trivial
  | x :: a => .inr ⟨rfl, lexle_refl a⟩
theorem lexle_of_lt : ∀ {a b : List Nat}, lexlt a b → lexle a b
  | [], _, _ => trivial
  | _ :: _, [], h => h.elim
  | x :: a, y :: b, h => by
    rcases h with h | ⟨h, g⟩
    · exact .inl h
    · exact .inr ⟨h, lexle_of_lt g⟩
theorem lexle_trans : ∀ {a b c : List Nat}, lexle a b → lexle b c → lexle a c
  | [], _, _, _, _ => trivial
  | _ :: _, [], _, h, _ => h.elim
  | _ :: _, _ :: _, [], _, h => h.elim
  | x :: a, y :: b, z :: c, h1, h2 => by
    rcases h1 with h1 | ⟨h1, g1⟩ <;> rcases h2 with h2 | ⟨h2, g2⟩
    · exact .inl (by omega)
    · exact .inl (by omega)
    · exact .inl (by omega)
    · exact .inr ⟨by omega, lexle_trans g1 g2⟩
theorem lexle_anti : ∀ {a b : List Nat}, lexle a b → lexle b a → a = b
  | [], [], _, _ => rfl
  | [], _ :: _, _, h => h.elim
  | _ :: _, [], h, _ => h.elim
  | x :: a, y :: b, h1, h2 => by
    rcases h1 with h1 | ⟨h1, g1⟩ <;> rcases h2 with h2 | ⟨h2, g2⟩
    · omega
    · omega
    · omega
    · subst h1; rw [lexle_anti g1 g2]
theorem lexlt_app : ∀ {a b : List Nat} (x y : Nat), a.length = b.length → lexlt a b → lexlt (a ++ [x]) (b ++ [y])
  | _, [], _, _, _, h => by
    cases ‹List Nat› <;> exact h.elim
  | [], _ :: _, _, _, h, _ => by simp at h
  | a :: l, b :: r, x, y, hl, h => by
    rcases h with h | ⟨h, g⟩
    · exact .inl h
    · exact .inr ⟨h, lexlt_app x y (by simpa using hl) g⟩
theorem lexle_app : ∀ {a b : List Nat} (x : Nat), a.length = b.length → lexle a b → lexle (a ++ [x]) (b ++ [x])
  | [], [], _, _, _ => .inr ⟨rfl, trivial⟩
  | [], _ :: _, _, h, _ => by simp at h
  | _ :: _, [], _, h, _ => by simp at h
  | a :: l, b :: r, x, hl, h => by
    rcases h with h | ⟨h, g⟩
    · exact .inl h
    · exact .inr ⟨h, lexle_app x (by simpa using hl) g⟩
theorem lexlt_last : ∀ (a : List Nat) {x y : Nat}, x < y → lexlt (a ++ [x]) (a ++ [y])
  | [], _, _, h => .inl h
  | _ :: a, _, _, h => .inr ⟨rfl, lexlt_last a h⟩
theorem walkB_wlk {n : Nat} {E : Nat → Nat → Bool} (hw : Within n E) : ∀ {d a b : Nat}, wlk n E d a b = true ↔ ∃ l, walkB E a l b ∧ l.length = d
  | 0, a, b => by
    rw [wlk_zero]
    constructor
    · rintro rfl; exact ⟨[], rfl, rfl⟩
    · rintro ⟨l, h, hl⟩
      obtain rfl := List.length_eq_zero_iff.1 hl
      exact h
  | d + 1, a, b => by
    rw [wlk_succ hw]
    constructor
    · rintro ⟨k, h1, h2⟩
      obtain ⟨l, h3, h4⟩ := (walkB_wlk hw).1 h2
      exact ⟨k :: l, ⟨h1, h3⟩, by rw [List.length_cons, h4]⟩
    · rintro ⟨l, h, hl⟩
      match l, h, hl with
      | x :: l, h, hl => exact ⟨x, h.1, (walkB_wlk hw).2 ⟨l, h.2, by simpa using hl⟩⟩
theorem find_least {n r : Nat} {p : Nat → Bool} (h : (List.range n).find? p = some r) : r < n ∧ p r = true ∧ ∀ i, i < r → p i = false := by
  rw [List.find?_range_eq_some] at h
  exact ⟨List.mem_range.1 h.2.1, h.1, fun i hi => by have := h.2.2 i hi; rwa [Bool.not_eq_true'] at this⟩
theorem gre_what {n : Nat} {E : Nat → Nat → Bool} (hw : Within n E) {t : Nat} : ∀ (d a : Nat), farS n E t n a = d + 1 →
    walkB E a (gre n E (farS n E t n) d a ++ [t]) t ∧ (gre n E (farS n E t n) d a ++ [t]).length = d + 1 ∧ ∀ q, walkB E a q t → q.length = d + 1 → lexle (gre n E (farS n E t n) d a ++ [t]) q
  | 0, a, hf => by
    have h3 : wlk n E 1 a t = true := by
      rcases farS_what n E t a n with ⟨k1, k2⟩ | ⟨k1, k2, k3, k4⟩
      · omega
      · rwa [hf] at k3
    obtain ⟨k, h1, h2⟩ := (wlk_succ hw).1 h3
    obtain rfl := wlk_zero.1 h2
    refine ⟨⟨h1, rfl⟩, rfl, fun q hq hl => ?_⟩
    match q, hq, hl with
    | [x], hq, _ =>
      have : x = k := hq.2
      subst this
      exact lexle_refl _
  | d + 1, a, hf => by
    have h3 : wlk n E (d + 2) a t = true := by
      rcases farS_what n E t a n with ⟨k1, k2⟩ | ⟨k1, k2, k3, k4⟩
      · omega
      · rwa [hf] at k3
    obtain ⟨k, h1, h2⟩ := (wlk_succ hw).1 h3
    have hk := farS_next hw hf h1 h2
    have hkn := (hw a k h1).2
    obtain ⟨i, hi⟩ : ∃ i, (List.range n).find? (fun i => E a i && decide (farS n E t n i = d + 1)) = some i := by
      cases e : (List.range n).find? (fun i => E a i && decide (farS n E t n i = d + 1)) with
      | some i => exact ⟨i, rfl⟩
      | none =>
        have := List.find?_eq_none.1 e k (List.mem_range.2 hkn)
        rw [h1, decide_eq_true hk] at this
        exact absurd rfl this
    have hg : gre n E (farS n E t n) (d + 1) a = i :: gre n E (farS n E t n) d i := by
      show (match (List.range n).find? (fun i => E a i && decide (farS n E t n i = d + 1)) with | some i => i :: gre n E (farS n E t n) d i | none => gre n E (farS n E t n) d a) = _
      rw [hi]
    obtain ⟨hin, hip, hil⟩ := find_least hi
    rw [Bool.and_eq_true, decide_eq_true_eq] at hip
    obtain ⟨g1, g2, g3⟩ := gre_what hw d i hip.2
    rw [hg, List.cons_append]
    refine ⟨⟨hip.1, g1⟩, by rw [List.length_cons, g2], fun q hq hl => ?_⟩
    match q, hq, hl with
    | x :: q, hq, hl =>
      have hxw : wlk n E (d + 1) x t = true := (walkB_wlk hw).2 ⟨q, hq.2, by simpa using hl⟩
      have hx := farS_next hw hf hq.1 hxw
      rcases Nat.lt_trichotomy i x with h | h | h
      · exact .inl h
      · subst h
        exact .inr ⟨rfl, g3 q hq.2 (by simpa using hl)⟩
      · have := hil x h
        rw [hq.1, decide_eq_true hx] at this
        cases this

/-! The reference's levels. -/
def lastOf (a : Nat) (l : List Nat) : Nat := (l.getLast?).getD a
theorem lastOf_snoc (a : Nat) (l : List Nat) (k : Nat) : lastOf a (l ++ [k]) = k := by unfold lastOf; rw [List.getLast?_concat]; rfl
def mkS (E : Nat → Nat → Bool) (a : Nat) (s : List (List Nat) × (Nat → Bool)) (p : List Nat × Nat) : List (List Nat) × (Nat → Bool) :=
  if (E (lastOf a p.1) p.2 && !s.2 p.2) = true then (s.1 ++ [p.1 ++ [p.2]], upd s.2 p.2 true) else s
def mkI (E : Nat → Nat → Bool) (a : Nat) (l : List Nat) (s : List (List Nat) × (Nat → Bool)) : Nat → List (List Nat) × (Nat → Bool)
  | 0 => s
  | k + 1 => mkS E a (mkI E a l s k) (l, k)
def mkW (n : Nat) (E : Nat → Nat → Bool) (a : Nat) (ws : List (List Nat)) : List (List Nat) × (Nat → Bool) := ws.foldl (fun s l => mkI E a l s n) ([], fun _ => false)
def prs (n : Nat) (ws : List (List Nat)) : List (List Nat × Nat) := ws.flatMap fun l => (List.range n).map fun k => (l, k)
theorem mkI_flat (E : Nat → Nat → Bool) (a : Nat) (l : List Nat) (s : List (List Nat) × (Nat → Bool)) : ∀ k, mkI E a l s k = ((List.range k).map fun k => (l, k)).foldl (mkS E a) s
  | 0 => rfl
  | k + 1 => by
    rw [List.range_succ, List.map_append, List.foldl_append, ← mkI_flat E a l s k]; rfl
theorem mkW_flat (n : Nat) (E : Nat → Nat → Bool) (a : Nat) : ∀ (ws : List (List Nat)) (s : List (List Nat) × (Nat → Bool)), ws.foldl (fun s l => mkI E a l s n) s = (prs n ws).foldl (mkS E a) s
  | [], s => rfl
  | l :: ws, s => by
    show ws.foldl (fun s l => mkI E a l s n) (mkI E a l s n) = (prs n (l :: ws)).foldl (mkS E a) s
    rw [mkW_flat n E a ws, mkI_flat]
    unfold prs
    rw [List.flatMap_cons, List.foldl_append]
structure StOk (E : Nat → Nat → Bool) (a : Nat) (ps : List (List Nat × Nat)) (s : List (List Nat) × (Nat → Bool)) : Prop where
  mem : ∀ x ∈ s.1, ∃ p ∈ ps, E (lastOf a p.1) p.2 = true ∧ x = p.1 ++ [p.2]
  asc : s.1.Pairwise lexlt
  seen : ∀ k, s.2 k = true → ∃ x ∈ s.1, lastOf a x = k
  all : ∀ p ∈ ps, E (lastOf a p.1) p.2 = true → ∃ x ∈ s.1, lastOf a x = p.2 ∧ lexle x (p.1 ++ [p.2])
def ordP (p q : List Nat × Nat) : Prop := lexlt (p.1 ++ [p.2]) (q.1 ++ [q.2])
theorem StOk.step {E : Nat → Nat → Bool} {a : Nat} {ps : List (List Nat × Nat)} {s : List (List Nat) × (Nat → Bool)} (h : StOk E a ps s) {p : List Nat × Nat} (hp : ∀ q ∈ ps, ordP q p) : StOk E a (ps ++ [p]) (mkS E a s p) := by
  unfold mkS
  cases he : E (lastOf a p.1) p.2 with
  | false =>
    rw [Bool.false_and, if_neg (by decide)]
    refine ⟨fun x hx => ?_, h.asc, h.seen, fun q hq hqe => ?_⟩
    · obtain ⟨q, hq, r⟩ := h.mem x hx
      exact ⟨q, List.mem_append_left _ hq, r⟩
    · rcases List.mem_append.1 hq with hq | hq
      · exact h.all q hq hqe
      · rw [List.mem_singleton] at hq
        subst hq
        rw [he] at hqe; cases hqe
  | true =>
    cases hs : s.2 p.2 with
    | true =>
      rw [Bool.true_and, Bool.not_true, if_neg (by decide)]
      refine ⟨fun x hx => ?_, h.asc, h.seen, fun q hq hqe => ?_⟩
      · obtain ⟨q, hq, r⟩ := h.mem x hx
        exact ⟨q, List.mem_append_left _ hq, r⟩
      · rcases List.mem_append.1 hq with hq | hq
        · exact h.all q hq hqe
        · rw [List.mem_singleton] at hq
          subst hq
          obtain ⟨x, hx, hxl⟩ := h.seen _ hs
          obtain ⟨r, hr, _, rfl⟩ := h.mem x hx
          exact ⟨_, hx, hxl, lexle_of_lt (hp r hr)⟩
    | false =>
      rw [Bool.true_and, Bool.not_false, if_pos rfl]
      refine ⟨fun x hx => ?_, ?_, fun k hk => ?_, fun q hq hqe => ?_⟩
      · rcases List.mem_append.1 hx with hx | hx
        · obtain ⟨q, hq, r⟩ := h.mem x hx
          exact ⟨q, List.mem_append_left _ hq, r⟩
        · rw [List.mem_singleton] at hx
          exact ⟨p, List.mem_append_right _ (List.mem_singleton.2 rfl), he, hx⟩
      · refine List.pairwise_append.2 ⟨h.asc, List.pairwise_singleton _ _, fun x hx y hy => ?_⟩
        rw [List.mem_singleton] at hy
        subst hy
        obtain ⟨r, hr, _, rfl⟩ := h.mem x hx
        exact hp r hr
      · by_cases e : k = p.2
        · subst e
          exact ⟨_, List.mem_append_right _ (List.mem_singleton.2 rfl), lastOf_snoc _ _ _⟩
        · have hk : upd s.2 p.2 true k = true := hk
          rw [upd_other _ _ e] at hk
          obtain ⟨x, hx, hxl⟩ := h.seen k hk
          exact ⟨x, List.mem_append_left _ hx, hxl⟩
      · rcases List.mem_append.1 hq with hq | hq
        · obtain ⟨x, hx, hxl⟩ := h.all q hq hqe
          exact ⟨x, List.mem_append_left _ hx, hxl⟩
        · rw [List.mem_singleton] at hq
          subst hq
          exact ⟨_, List.mem_append_right _ (List.mem_singleton.2 rfl), lastOf_snoc _ _ _, lexle_refl _⟩
theorem StOk.fold {E : Nat → Nat → Bool} {a : Nat} : ∀ (rs ps : List (List Nat × Nat)) (s : List (List Nat) × (Nat → Bool)), StOk E a ps s → (ps ++ rs).Pairwise ordP → StOk E a (ps ++ rs) (rs.foldl (mkS E a) s)
  | [], ps, s, h, _ => by rw [List.append_nil]; exact h
  | r :: rs, ps, s, h, hp => by
    rw [show ps ++ r :: rs = (ps ++ [r]) ++ rs by simp] at hp ⊢
    refine StOk.fold rs (ps ++ [r]) (mkS E a s r) (h.step fun q hq => ?_) hp
    have := (List.pairwise_append.1 (List.pairwise_append.1 hp).1).2.2
    exact this q hq r (List.mem_singleton.2 rfl)
theorem StOk.start (E : Nat → Nat → Bool) (a : Nat) : StOk E a [] ([], fun _ => false) where
  mem := fun x (hx : x ∈ ([] : List (List Nat))) => by cases hx
  asc := List.Pairwise.nil
  seen := fun k (hk : false = true) => by cases hk
  all := fun p (hp : p ∈ ([] : List (List Nat × Nat))) => by cases hp
theorem prs_asc (n d : Nat) : ∀ (ws : List (List Nat)), (∀ l ∈ ws, l.length = d) → ws.Pairwise lexlt → (prs n ws).Pairwise ordP
  | [], _, _ => List.Pairwise.nil
  | l :: ws, hd, hp => by
    rw [List.pairwise_cons] at hp
    unfold prs
    rw [List.flatMap_cons]
    refine List.pairwise_append.2 ⟨?_, prs_asc n d ws (fun x hx => hd x (by simp [hx])) hp.2, fun p hp' q hq => ?_⟩
    · rw [List.pairwise_map]
      exact List.pairwise_lt_range.imp (fun h => lexlt_last l h)
    · obtain ⟨k, _, rfl⟩ := List.mem_map.1 hp'
      obtain ⟨r, hr, hq⟩ := List.mem_flatMap.1 hq
      obtain ⟨k', _, rfl⟩ := List.mem_map.1 hq
      exact lexlt_app _ _ (by rw [hd l (by simp), hd r (by simp [hr])]) (hp.1 r hr)
/-- The ways of d steps, the least one to each node. -/
structure LvOk (E : Nat → Nat → Bool) (a d : Nat) (ws : List (List Nat)) : Prop where
  len : ∀ l ∈ ws, l.length = d
  walk : ∀ l ∈ ws, walkB E a l (lastOf a l)
  asc : ws.Pairwise lexlt
  all : ∀ l b, walkB E a l b → l.length = d → ∃ q ∈ ws, lastOf a q = b ∧ lexle q l
theorem walkB_last {E : Nat → Nat → Bool} : ∀ {l : List Nat} {a b : Nat}, walkB E a l b → b = lastOf a l
  | [], _, _, h => h.symm
  | [x], a, b, h => h.2.symm
  | x :: y :: l, a, b, h => by
    have := walkB_last (l := y :: l) h.2
    rw [this]
    unfold lastOf
    rw [List.getLast?_cons_cons]
    cases e : (y :: l).getLast? with
    | none => simp at e
    | some z => rfl
theorem walkB_snoc {E : Nat → Nat → Bool} : ∀ {l : List Nat} {a b c : Nat}, walkB E a l b → E b c = true → walkB E a (l ++ [c]) c
  | [], a, b, c, h, he => by
    have h : a = b := h
    subst h
    exact ⟨he, rfl⟩
  | x :: l, a, b, c, h, he => ⟨h.1, walkB_snoc h.2 he⟩
theorem walkB_split {E : Nat → Nat → Bool} : ∀ {l : List Nat} {a b c : Nat}, walkB E a (l ++ [c]) b → c = b ∧ ∃ x, walkB E a l x ∧ E x c = true
  | [], a, b, c, h => ⟨h.2, a, rfl, h.1⟩
  | y :: l, a, b, c, h => by
    obtain ⟨h1, x, h2, h3⟩ := walkB_split h.2
    exact ⟨h1, x, ⟨h.1, h2⟩, h3⟩
theorem LvOk.next {n : Nat} {E : Nat → Nat → Bool} (hw : Within n E) {a d : Nat} {ws : List (List Nat)} (h : LvOk E a d ws) : LvOk E a (d + 1) (mkW n E a ws).1 := by
  have hs : StOk E a (prs n ws) (mkW n E a ws) := by
    unfold mkW
    rw [mkW_flat]
    have := StOk.fold (prs n ws) [] _ (StOk.start E a) (by simpa using prs_asc n d ws h.len h.asc)
    simpa using this
  refine ⟨fun x hx => ?_, fun x hx => ?_, hs.asc, fun l b hl hd => ?_⟩
  · obtain ⟨p, hp, he, rfl⟩ := hs.mem x hx
    obtain ⟨r, hr, hp⟩ := List.mem_flatMap.1 hp
    obtain ⟨k, _, rfl⟩ := List.mem_map.1 hp
    rw [List.length_append, h.len r hr]; rfl
  · obtain ⟨p, hp, he, rfl⟩ := hs.mem x hx
    obtain ⟨r, hr, hp⟩ := List.mem_flatMap.1 hp
    obtain ⟨k, _, rfl⟩ := List.mem_map.1 hp
    rw [lastOf_snoc]
    exact walkB_snoc (h.walk r hr) he
  · have hne : l ≠ [] := fun e => by subst e; simp at hd
    obtain ⟨p, c, rfl⟩ : ∃ p c, l = p ++ [c] := ⟨l.dropLast, l.getLast hne, (List.dropLast_concat_getLast hne).symm⟩
    obtain ⟨rfl, x, hx, hxc⟩ := walkB_split hl
    have hpd : p.length = d := by simpa using hd
    obtain ⟨q, hq, hql, hqp⟩ := h.all p x hx hpd
    obtain ⟨y, hy, hyl, hyq⟩ := hs.all (q, c) (List.mem_flatMap.2 ⟨q, hq, List.mem_map.2 ⟨c, List.mem_range.2 (hw x c hxc).2, rfl⟩⟩) (by show E (lastOf a q) c = true; rw [hql]; exact hxc)
    exact ⟨y, hy, hyl, lexle_trans hyq (lexle_app c (by rw [h.len q hq, hpd]) hqp)⟩
def rpF (n : Nat) (E : Nat → Nat → Bool) (a t : Nat) : Nat → List (List Nat) → Option (List Nat)
  | 0, _ => none
  | f + 1, ws => match (mkW n E a ws).1.find? fun l => decide (lastOf a l = t) with
    | some l => some l
    | none => rpF n E a t f (mkW n E a ws).1
theorem find_first {p : List Nat → Bool} : ∀ {l : List (List Nat)} {r : List Nat}, l.Pairwise lexlt → l.find? p = some r → ∀ s ∈ l, p s = true → lexle r s
  | [], r, _, h, s, hs, _ => by cases hs
  | x :: l, r, hp, h, s, hs, hps => by
    rw [List.find?_cons] at h
    rw [List.pairwise_cons] at hp
    cases e : p x with
    | true =>
      rw [e] at h
      simp only [Option.some.injEq] at h
      subst h
      rcases List.mem_cons.1 hs with rfl | hs
      · exact lexle_refl _
      · exact lexle_of_lt (hp.1 s hs)
    | false =>
      rw [e] at h
      rcases List.mem_cons.1 hs with rfl | hs
      · rw [e] at hps; cases hps
      · exact find_first hp.2 h s hs hps
theorem rpF_what {n : Nat} {E : Nat → Nat → Bool} (hw : Within n E) {a t : Nat} : ∀ (f d : Nat) (ws : List (List Nat)), d + f = n → LvOk E a d ws → (∀ d', 1 ≤ d' → d' ≤ d → wlk n E d' a t = false) →
    rpF n E a t f ws = if farS n E t n a = 0 then none else some (gre n E (farS n E t n) (farS n E t n a - 1) a ++ [t])
  | 0, d, ws, hdf, hl, hno => by
    rcases farS_what n E t a n with ⟨g1, g2⟩ | ⟨g1, g2, g3, g4⟩
    · rw [if_pos g1]; rfl
    · rw [hno _ g1 (by omega)] at g3; cases g3
  | f + 1, d, ws, hdf, hl, hno => by
    have hn := hl.next hw
    unfold rpF
    cases hf : (mkW n E a ws).1.find? fun l => decide (lastOf a l = t) with
    | some q =>
      show some q = _
      have hq := List.mem_of_find?_eq_some hf
      have hqt := List.find?_some hf
      rw [decide_eq_true_eq] at hqt
      have hqw := hn.walk q hq
      rw [hqt] at hqw
      have hql := hn.len q hq
      have hfar : farS n E t n a = d + 1 := farS_eq (by omega) (by omega) ((walkB_wlk hw).2 ⟨q, hqw, hql⟩) (fun d' h1 h2 => hno d' h1 (by omega))
      obtain ⟨g1, g2, g3⟩ := gre_what hw d a hfar
      rw [if_neg (by omega), hfar, show d + 1 - 1 = d by omega]
      congr 1
      obtain ⟨q', hq', hqt', hqp⟩ := hn.all _ t g1 g2
      refine lexle_anti (lexle_trans (find_first hn.asc hf q' hq' (by rw [decide_eq_true_eq]; exact hqt')) hqp) (g3 q hqw hql)
    | none =>
      show rpF n E a t f (mkW n E a ws).1 = _
      refine rpF_what hw f (d + 1) _ (by omega) hn (fun d' h1 h2 => ?_)
      by_cases e : d' = d + 1
      · subst e
        cases hk : wlk n E (d + 1) a t with
        | false => rfl
        | true =>
          obtain ⟨l, hl1, hl2⟩ := (walkB_wlk hw).1 hk
          obtain ⟨q, hq, hqt, _⟩ := hn.all l t hl1 hl2
          have := List.find?_eq_none.1 hf q hq
          rw [decide_eq_true hqt] at this
          exact absurd rfl this
      · exact hno d' h1 (by omega)
/-- The reference's way is the greedy one. -/
theorem rpF_eq {n : Nat} {E : Nat → Nat → Bool} (hw : Within n E) (a t : Nat) : rpF n E a t n [[]] = if farS n E t n a = 0 then none else some (gre n E (farS n E t n) (farS n E t n a - 1) a ++ [t]) :=
  rpF_what hw n 0 [[]] (by omega) ⟨fun l hl => by rw [List.mem_singleton] at hl; subst hl; rfl, fun l hl => by rw [List.mem_singleton] at hl; subst hl; rfl, List.pairwise_singleton _ _,
    fun l b hl hd => by
      obtain rfl := List.length_eq_zero_iff.1 hd
      have hl : a = b := hl
      subst hl
      exact ⟨[], List.mem_singleton.2 rfl, rfl, trivial⟩⟩ (fun d' h1 h2 => by omega)
end Go.Proofs.Ytjgkiiohbceocaa
