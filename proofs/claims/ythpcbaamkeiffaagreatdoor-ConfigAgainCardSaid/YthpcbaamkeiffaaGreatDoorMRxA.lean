/-
  The laws' own functions on lists of words, rows, texts, walked; no condition beyond sizes.
  Flags of rules, as plain data: their error, and what is next after a rule was tried; no program is in sight; no condition.
  Lists whose elements have several cells, and values inside: read, and owned; no condition.
  Configurations as plain data; how a value shows one, to readers and to owners; no program is in sight beyond the types' numbers; no condition.
  Rows of texts: more blanks, empty lines and remarks change no words; two texts, one behind the other; what is written is read back; no program is in sight; no condition.
  Texts of rows: how far a writer has come; no program is in sight; no condition.
-/
import Derived.Deep.QuietTactic
import Derived.BigQuiet
import Derived.Lib.ItoaNum
import Derived.Deep.AppendLies
import Derived.Test.YthpcbaamkeiffaaGreatDoorMRwJ
import Derived.Test.YthpcbaamkeiffaaGreatDoorMRwQt
namespace Go.Proofs.YthpcbaamkeiffaaGreatDoor
open Go.RowKit
set_option linter.unusedVariables false
set_option linter.unusedSimpArgs false

/-! Lists that are only read. -/
def wdAt (ws : List Wd) : Nat → Nat → Value := fun i j => match ws[i]? with
  | some d => ((wdC d)[j]?).getD (.bool false)
  | none => .bool false
def rwAt (rs : List Rw) (vs : List Value) : Nat → Nat → Value := fun i j => match rs[i]?, vs[i]? with
  | some r, some u => if j = 0 then .int .i64 (r.a : Int) else u
  | _, _ => .bool false
def txAt (ts : List ByteArray) : Nat → Nat → Value := fun i _ => match ts[i]? with
  | some t => .string t
  | none => .bool false
theorem wdsC_at (ws : List Wd) : ∀ t, t < ws.length * 3 → (wdsC ws)[t]? = some (wdAt ws (t / 3) (t % 3)) := by
  induction ws with
  | nil => intro t h; simp at h
  | cons d ds ih =>
    intro t h
    match t, h with
    | 0, _ => rfl
    | 1, _ => rfl
    | 2, _ => rfl
    | t + 3, h =>
      have h2 := ih t (by rw [List.length_cons] at h; omega)
      have e1 : (t + 3) / 3 = t / 3 + 1 := by omega
      have e2 : (t + 3) % 3 = t % 3 := by omega
      rw [e1, e2]
      exact h2
theorem rowsC_at : ∀ (rs : List Rw) (vs : List Value), vs.length = rs.length → ∀ t, t < rs.length * 2 → (rowsC rs vs)[t]? = some (rwAt rs vs (t / 2) (t % 2))
  | [], _, _, t, h => by simp at h
  | r :: rs, [], h, _, _ => by simp at h
  | r :: rs, v :: vs, hl, t, h => by
    match t, h with
    | 0, _ => rfl
    | 1, _ => rfl
    | t + 2, h =>
      have h2 := rowsC_at rs vs (by simpa using hl) t (by rw [List.length_cons] at h; omega)
      have e1 : (t + 2) / 2 = t / 2 + 1 := by omega
      have e2 : (t + 2) % 2 = t % 2 := by omega
      rw [e1, e2]
      exact h2
theorem eq_flatC {l : List Value} {f : Nat → Nat → Value} {m n : Nat} (hl : l.length = n * m) (h : ∀ t, t < n * m → l[t]? = some (f (t / m) (t % m))) : l = flatC f m n := by
  apply List.ext_getElem?
  intro t
  by_cases ht : t < n * m
  · rw [flatC_at _ _ _ _ ht, h t ht]
  · rw [List.getElem?_eq_none (by omega), List.getElem?_eq_none (by rw [flatC_len]; omega)]
theorem rowsC_len : ∀ (rs : List Rw) (vs : List Value), vs.length = rs.length → (rowsC rs vs).length = rs.length * 2
  | [], [], _ => rfl
  | r :: rs, [], h => by simp at h
  | [], v :: vs, h => by simp at h
  | r :: rs, v :: vs, h => by
    have := rowsC_len rs vs (by simpa using h)
    show (rowsC rs vs).length + 1 + 1 = _
    rw [this, List.length_cons]; omega
def WordsIn (W : World) (v : Value) (ws : List Wd) : Prop := ∃ A c, v = .slice A ws.length c ∧ ArgOk A ws.length c ∧ Cells W A 3 ws.length (wdAt ws)
def RowsIn (W : World) (v : Value) (rs : List Rw) : Prop :=
  ∃ A c vs, v = .slice A rs.length c ∧ ArgOk A rs.length c ∧ Cells W A 2 rs.length (rwAt rs vs) ∧ vs.length = rs.length ∧ ∀ (i : Nat) (r : Rw) (u : Value), rs[i]? = some r → vs[i]? = some u → WordsIn W u r.w
def TextsIn (W : World) (v : Value) (ts : List ByteArray) : Prop := ∃ A c, v = .slice A ts.length c ∧ ArgOk A ts.length c ∧ Cells W A 1 ts.length (txAt ts)
theorem WordsIn.below {W W' : World} {v : Value} {ws : List Wd} (h : WordsIn W v ws) (hb : Below W.heap.size W W') : WordsIn W' v ws := by
  obtain ⟨A, c, h1, h2, h3⟩ := h
  exact ⟨A, c, h1, h2, h3.below hb⟩
theorem RowsIn.below {W W' : World} {v : Value} {rs : List Rw} (h : RowsIn W v rs) (hb : Below W.heap.size W W') : RowsIn W' v rs := by
  obtain ⟨A, c, vs, h1, h2, h3, h4, h5⟩ := h
  exact ⟨A, c, vs, h1, h2, h3.below hb, h4, fun i r u hr hu => (h5 i r u hr hu).below hb⟩
theorem TextsIn.below {W W' : World} {v : Value} {ts : List ByteArray} (h : TextsIn W v ts) (hb : Below W.heap.size W W') : TextsIn W' v ts := by
  obtain ⟨A, c, h1, h2, h3⟩ := h
  exact ⟨A, c, h1, h2, h3.below hb⟩
theorem own_words {W : World} {B : Nat} {v : Value} {ws : List Wd} (h : W.ownsRow B 116 3 v ws.length (wdsC ws)) : WordsIn W v ws := by
  rw [eq_flatC (f := wdAt ws) (m := 3) (n := ws.length) (wdsC_len ws) (wdsC_at ws)] at h
  obtain ⟨A, c, h1, h2, h3⟩ := row_cells (by decide) h
  exact ⟨A, c, h1, h3, h2⟩
theorem InnerOk.at_ {W : World} {B : Nat} : ∀ {rs : List Rw} {vs : List Value}, InnerOk W B rs vs → ∀ (i : Nat) (r : Rw) (u : Value), rs[i]? = some r → vs[i]? = some u → WordsIn W u r.w
  | [], [], _, i, r, u, hr, _ => by simp at hr
  | r :: rs, v :: vs, h, 0, r', u, hr, hu => by
    cases hr; cases hu
    exact own_words h.1
  | r :: rs, v :: vs, h, i + 1, r', u, hr, hu => InnerOk.at_ h.2 i r' u hr hu
theorem OwnRs.in_ {W : World} {B : Nat} {v : Value} {rs : List Rw} (h : OwnRs W B v rs) : RowsIn W v rs := by
  obtain ⟨vs, h1, h2⟩ := h
  have hl := h2.len
  rw [eq_flatC (f := rwAt rs vs) (m := 2) (n := rs.length) (rowsC_len rs vs hl) (rowsC_at rs vs hl)] at h1
  obtain ⟨A, c, e1, e2, e3⟩ := row_cells (by decide) h1
  exact ⟨A, c, vs, e1, e3, e2, hl, h2.at_⟩
def txC (ts : List ByteArray) : List Value := ts.map .string
theorem own_texts {W : World} {B : Nat} {v : Value} {ts : List ByteArray} (h : W.ownsRow B 9 1 v ts.length (txC ts)) : TextsIn W v ts := by
  rw [eq_flatC (l := txC ts) (f := txAt ts) (m := 1) (n := ts.length) (by simp [txC]) (by
    intro t ht
    have hk : t < ts.length := by omega
    show (ts.map Value.string)[t]? = some (match ts[t / 1]? with | some t => .string t | none => .bool false)
    rw [Nat.div_one, List.getElem?_map, List.getElem?_eq_getElem hk]; rfl)] at h
  obtain ⟨A, c, h1, h2, h3⟩ := row_cells (by decide) h
  exact ⟨A, c, h1, h3, h2⟩
theorem cells_wd {w : World} {A : Option Addr} {l : List Wd} (h : Cells w A 3 l.length (wdAt l)) {k : Nat} {d : Wd} (hp : l[k]? = some d) :
    ∃ ab ao, A = some ⟨ab, ao, none⟩ ∧ ab < w.heap.size ∧ w.cell? ⟨ab, ao + k * 3, none⟩ = some (.int .i64 (d.a : Int)) ∧ w.cell? ⟨ab, ao + k * 3 + 1, none⟩ = some (.string d.t) ∧ w.cell? ⟨ab, ao + k * 3 + 2, none⟩ = some (.bool d.q) := by
  have hk := (List.getElem?_eq_some_iff.1 hp).1
  obtain ⟨ab, ao, rfl, hlt, hc⟩ := h (by omega)
  have e : ∀ j, wdAt l k j = ((wdC d)[j]?).getD (.bool false) := fun j => by unfold wdAt; rw [hp]
  have c0 := hc k 0 hk (by decide)
  have c1 := hc k 1 hk (by decide)
  have c2 := hc k 2 hk (by decide)
  rw [e] at c0 c1 c2
  exact ⟨ab, ao, rfl, hlt, c0, c1, c2⟩
theorem cells_rw {w : World} {A : Option Addr} {l : List Rw} {vs : List Value} (h : Cells w A 2 l.length (rwAt l vs)) {k : Nat} {d : Rw} {u : Value} (hp : l[k]? = some d) (hu : vs[k]? = some u) :
    ∃ ab ao, A = some ⟨ab, ao, none⟩ ∧ ab < w.heap.size ∧ w.cell? ⟨ab, ao + k * 2, none⟩ = some (.int .i64 (d.a : Int)) ∧ w.cell? ⟨ab, ao + k * 2 + 1, none⟩ = some u := by
  have hk := (List.getElem?_eq_some_iff.1 hp).1
  obtain ⟨ab, ao, rfl, hlt, hc⟩ := h (by omega)
  have e : ∀ j, rwAt l vs k j = if j = 0 then .int .i64 (d.a : Int) else u := fun j => by unfold rwAt; rw [hp, hu]
  have c0 := hc k 0 hk (by decide)
  have c1 := hc k 1 hk (by decide)
  rw [e] at c0 c1
  exact ⟨ab, ao, rfl, hlt, c0, c1⟩
theorem cells_tx {w : World} {A : Option Addr} {l : List ByteArray} (h : Cells w A 1 l.length (txAt l)) {k : Nat} {d : ByteArray} (hp : l[k]? = some d) :
    ∃ ab ao, A = some ⟨ab, ao, none⟩ ∧ ab < w.heap.size ∧ w.cell? ⟨ab, ao + k, none⟩ = some (.string d) := by
  have hk := (List.getElem?_eq_some_iff.1 hp).1
  obtain ⟨ab, ao, rfl, hlt, hc⟩ := h (by omega)
  have c0 := hc k 0 hk (by decide)
  rw [show txAt l k 0 = .string d by unfold txAt; rw [hp]] at c0
  exact ⟨ab, ao, rfl, hlt, by simpa using c0⟩

theorem WordsIn.drewN {W : World} {v : Value} {ws : List Wd} (h : WordsIn W v ws) (q : Nat) : WordsIn (W.drewN q) v ws := h.below (below_drewN (Below.refl _ _) q)

end Go.Proofs.YthpcbaamkeiffaaGreatDoor
namespace Go.Proofs.YthpcbaamkeiffaaGreatDoor
set_option linter.unusedVariables false

structure Flg where
  last : Bool
  next : Bool
  chain : Bool
  fin : Bool
  forb : Bool
  gone : Bool
  app : Bool
  disc : Bool
  skip : Int
  red : Int
instance : Inhabited Flg := ⟨⟨false, false, false, false, false, false, false, false, 0, 0⟩⟩

/-- A code of a redirect. -/
def codeR (n : Int) : Bool := n == 301 || n == 302 || n == 303 || n == 307 || n == 308
/-- The first six of the ways to end. -/
def way6 (f : Flg) : Nat → Bool
  | 0 => f.last
  | 1 => f.next
  | 2 => f.chain
  | 3 => f.fin
  | 4 => f.forb
  | 5 => f.gone
  | _ => false
/-- The letters of the ways among the first k. -/
def wayL (f : Flg) : Nat → List ByteArray
  | 0 => []
  | k + 1 => wayL f k ++ (if way6 f k then [⟨#[([76, 78, 67, 69, 70, 71] : List UInt8).getD k 0]⟩] else [])
def skipL (f : Flg) : List ByteArray := if f.skip = 0 then [] else [⟨#[83, 61]⟩ ++ ⟨(Lib.itoa f.skip).toArray⟩]
def redL (f : Flg) : List ByteArray := if f.red = 0 then [] else [⟨#[82, 61]⟩ ++ ⟨(Lib.itoa f.red).toArray⟩]
def waysL (f : Flg) : List ByteArray := wayL f 6 ++ skipL f ++ redL f
/-- Which ways there are. -/
def endB (f : Flg) : Nat → Bool
  | 6 => !(f.skip == 0)
  | 7 => !(f.red == 0)
  | k => way6 f k
/-- How many of the first k ways there are. -/
def endN (f : Flg) : Nat → Nat
  | 0 => 0
  | k + 1 => endN f k + (endB f k).toNat
theorem wayL_len (f : Flg) (k : Nat) (hk : k ≤ 6) : (wayL f k).length = endN f k := by
  induction k with
  | zero => rfl
  | succ k ih =>
    unfold wayL endN
    rw [List.length_append, ih (by omega)]
    have : endB f k = way6 f k := by
      match k, hk with
      | 0, _ => rfl
      | 1, _ => rfl
      | 2, _ => rfl
      | 3, _ => rfl
      | 4, _ => rfl
      | 5, _ => rfl
    rw [this]
    cases way6 f k <;> rfl
theorem waysL_len (f : Flg) : (waysL f).length = endN f 8 := by
  unfold waysL
  rw [List.length_append, List.length_append, wayL_len f 6 (by decide)]
  show _ = endN f 6 + (!(f.skip == 0)).toNat + (!(f.red == 0)).toNat
  unfold skipL redL
  have e1 : (if f.skip = 0 then ([] : List ByteArray) else [⟨#[83, 61]⟩ ++ ⟨(Lib.itoa f.skip).toArray⟩]).length = (!(f.skip == 0)).toNat := by
    by_cases h : f.skip = 0
    · rw [if_pos h, h]; rfl
    · rw [if_neg h, beq_eq_false_iff_ne.2 h]; rfl
  have e2 : (if f.red = 0 then ([] : List ByteArray) else [⟨#[82, 61]⟩ ++ ⟨(Lib.itoa f.red).toArray⟩]).length = (!(f.red == 0)).toNat := by
    by_cases h : f.red = 0
    · rw [if_pos h, h]; rfl
    · rw [if_neg h, beq_eq_false_iff_ne.2 h]; rfl
  rw [e1, e2]
theorem wayL_le (f : Flg) (k : Nat) : (wayL f k).length ≤ k := by
  induction k with
  | zero => exact Nat.le_refl _
  | succ k ih =>
    unfold wayL
    rw [List.length_append]
    split <;> simp <;> omega

def badNum (f : Flg) : Bool := decide (f.skip < 0) || decide (64 ≤ f.skip) || !(codeR f.red || f.red == 0)
def badWay (f : Flg) : Bool := decide (1 < endN f 8) || (f.app && f.disc) || ((f.app || f.disc) && (f.forb || f.gone))
/-- The error of flags. -/
def chkF (f : Flg) : Int := if badNum f then 2 else if badWay f then 15 else 0
/-- Flags without error have at most one way, no skip below 0. -/
theorem chkF_zero {f : Flg} (h : chkF f = 0) : 0 ≤ f.skip ∧ f.skip < 64 ∧ (codeR f.red || f.red == 0) = true ∧ endN f 8 ≤ 1 := by
  unfold chkF at h
  split at h
  · cases h
  · rename_i h1
    split at h
    · cases h
    · rename_i h2
      unfold badNum at h1
      unfold badWay at h2
      simp only [Bool.or_eq_true, decide_eq_true_eq, not_or, Bool.not_eq_true', Bool.not_eq_false] at h1 h2
      exact ⟨by omega, by omega, by simpa using h1.2, by omega⟩

end Go.Proofs.YthpcbaamkeiffaaGreatDoor
namespace Go.Proofs.YthpcbaamkeiffaaGreatDoor
open Go.RowKit
set_option linter.unusedVariables false
set_option linter.unusedSimpArgs false

section
variable {α : Type} {m : Nat} {cell : α → Value → List Value}
/-- Cell j of element i. -/
def atL (cell : α → Value → List Value) (xs : List α) (us : List Value) : Nat → Nat → Value := fun i j => match xs[i]?, us[i]? with
  | some x, some u => ((cell x u)[j]?).getD (.bool false)
  | _, _ => .bool false
def allL (cell : α → Value → List Value) : List α → List Value → List Value
  | x :: xs, u :: us => cell x u ++ allL cell xs us
  | _, _ => []
theorem allL_len (hm : ∀ x u, (cell x u).length = m) : ∀ (xs : List α) (us : List Value), us.length = xs.length → (allL cell xs us).length = xs.length * m
  | [], [], _ => by simp [allL]
  | x :: xs, [], h => by simp at h
  | [], v :: vs, h => by simp at h
  | x :: xs, u :: us, h => by
    have := allL_len hm xs us (by simpa using h)
    show (cell x u ++ allL cell xs us).length = _
    rw [List.length_append, hm, this, List.length_cons, Nat.succ_mul]; omega
theorem allL_at (hm : ∀ x u, (cell x u).length = m) : ∀ (xs : List α) (us : List Value), us.length = xs.length → ∀ i x u j, xs[i]? = some x → us[i]? = some u → j < m → (allL cell xs us)[i * m + j]? = (cell x u)[j]?
  | [], _, _, i, x, u, j, hx, _, _ => by simp at hx
  | x :: xs, [], h, _, _, _, _, _, _, _ => by simp at h
  | y :: xs, v :: us, h, 0, x, u, j, hx, hu, hj => by
    cases hx; cases hu
    show (cell _ _ ++ _)[0 * m + j]? = _
    rw [Nat.zero_mul, Nat.zero_add, List.getElem?_append_left (by rw [hm]; exact hj)]
  | y :: xs, v :: us, h, i + 1, x, u, j, hx, hu, hj => by
    show (cell _ _ ++ _)[(i + 1) * m + j]? = _
    rw [Nat.succ_mul, List.getElem?_append_right (by rw [hm]; omega), hm, show i * m + m + j - m = i * m + j by omega]
    exact allL_at hm xs us (by simpa using h) i x u j hx hu hj
theorem allL_flat (hm : ∀ x u, (cell x u).length = m) (h0 : 0 < m) (xs : List α) (us : List Value) (hl : us.length = xs.length) : allL cell xs us = flatC (atL cell xs us) m xs.length := by
  refine eq_flatC (allL_len hm xs us hl) (fun t ht => ?_)
  have hq : t / m < xs.length := Nat.div_lt_of_lt_mul (by rw [Nat.mul_comm]; exact ht)
  have hr : t % m < m := Nat.mod_lt _ h0
  have h1 := allL_at hm xs us hl (t / m) xs[t / m] (us[t / m]'(by omega)) (t % m) (List.getElem?_eq_getElem hq) (List.getElem?_eq_getElem (by omega)) hr
  rw [Nat.mul_comm, Nat.div_add_mod] at h1
  rw [h1]
  unfold atL
  rw [List.getElem?_eq_getElem hq, List.getElem?_eq_getElem (show t / m < us.length by omega)]
  show _ = some (((cell _ _)[t % m]?).getD _)
  rw [List.getElem?_eq_getElem (by rw [hm]; exact hr)]; rfl
theorem allL_snoc (x : α) (u : Value) : ∀ {xs : List α} {us : List Value}, us.length = xs.length → allL cell (xs ++ [x]) (us ++ [u]) = allL cell xs us ++ cell x u
  | [], [], _ => by simp [allL]
  | y :: xs, [], h => by simp at h
  | [], v :: vs, h => by simp at h
  | y :: xs, v :: us, h => by
    show cell y v ++ allL cell (xs ++ [x]) (us ++ [u]) = _
    rw [allL_snoc x u (by simpa using h), ← List.append_assoc]; rfl
theorem allL_set (hm : ∀ x u, (cell x u).length = m) : ∀ (xs : List α) (us : List Value), us.length = xs.length → ∀ i x u j c y v, xs[i]? = some x → us[i]? = some u → j < m → (cell x u).set j c = cell y v → (allL cell xs us).set (i * m + j) c = allL cell (xs.set i y) (us.set i v)
  | [], _, _, i, x, u, j, c, y, v, hx, _, _, _ => by simp at hx
  | x :: xs, [], h, _, _, _, _, _, _, _, _, _, _, _ => by simp at h
  | z :: xs, q :: us, h, 0, x, u, j, c, y, v, hx, hu, hj, he => by
    cases hx; cases hu
    show (cell _ _ ++ _).set (0 * m + j) c = _
    rw [Nat.zero_mul, Nat.zero_add, List.set_append_left _ _ (by rw [hm]; exact hj), he]; rfl
  | z :: xs, q :: us, h, i + 1, x, u, j, c, y, v, hx, hu, hj, he => by
    show (cell _ _ ++ _).set ((i + 1) * m + j) c = _
    rw [Nat.succ_mul, List.set_append_right _ _ (by rw [hm]; omega), hm, show i * m + m + j - m = i * m + j by omega, allL_set hm xs us (by simpa using h) i x u j c y v hx hu hj he]; rfl

/-! Something is known of each element and its value. -/
def Each (p : α → Value → Prop) (xs : List α) (us : List Value) : Prop := ∀ (i : Nat) (x : α) (u : Value), xs[i]? = some x → us[i]? = some u → p x u
theorem Each.imp {p q : α → Value → Prop} {xs : List α} {us : List Value} (h : Each p xs us) (hk : ∀ x u, x ∈ xs → p x u → q x u) : Each q xs us := fun i x u hx hu => hk x u (List.mem_of_getElem? hx) (h i x u hx hu)
theorem Each.nil (p : α → Value → Prop) (us : List Value) : Each p [] us := fun i x u hx => by simp at hx
theorem Each.snoc {p : α → Value → Prop} {xs : List α} {us : List Value} (h : Each p xs us) (hl : us.length = xs.length) {x : α} {u : Value} (hp : p x u) : Each p (xs ++ [x]) (us ++ [u]) := by
  intro i y v hy hv
  by_cases hi : i < xs.length
  · rw [List.getElem?_append_left hi] at hy
    rw [List.getElem?_append_left (by omega)] at hv
    exact h i y v hy hv
  · have h1 := (List.getElem?_eq_some_iff.1 hy).1
    rw [List.length_append, List.length_singleton] at h1
    have e : i = xs.length := by omega
    subst e
    rw [List.getElem?_append_right (Nat.le_refl _)] at hy
    rw [← hl, List.getElem?_append_right (Nat.le_refl _)] at hv
    rw [Nat.sub_self] at hy hv
    cases hy; cases hv
    exact hp
theorem Each.set {p : α → Value → Prop} {xs : List α} {us : List Value} (h : Each p xs us) {i : Nat} {x : α} {u : Value} (hp : p x u) : Each p (xs.set i x) (us.set i u) := by
  intro j y v hy hv
  by_cases hj : i = j
  · subst hj
    rw [List.getElem?_set_self' ] at hy hv
    cases e1 : xs[i]? with
    | none => rw [e1] at hy; cases hy
    | some a =>
      cases e2 : us[i]? with
      | none => rw [e2] at hv; cases hv
      | some b =>
        rw [e1] at hy; rw [e2] at hv
        cases hy; cases hv
        exact hp
  · rw [List.getElem?_set_ne hj] at hy hv
    exact h j y v hy hv

/-! Lists that are only read. -/
def InL (m : Nat) (cell : α → Value → List Value) (inner : World → α → Value → Prop) (W : World) (v : Value) (xs : List α) : Prop :=
  ∃ A c us, v = .slice A xs.length c ∧ ArgOk A xs.length c ∧ us.length = xs.length ∧ Cells W A m xs.length (atL cell xs us) ∧ Each (inner W) xs us
theorem InL.below {inner : World → α → Value → Prop} {W W' : World} {v : Value} {xs : List α} (h : InL m cell inner W v xs) (hb : Below W.heap.size W W') (hi : ∀ x u, inner W x u → inner W' x u) : InL m cell inner W' v xs := by
  obtain ⟨A, c, us, h1, h2, h3, h4, h5⟩ := h
  exact ⟨A, c, us, h1, h2, h3, h4.below hb, h5.imp fun x u _ => hi x u⟩
theorem InL.nil (inner : World → α → Value → Prop) (W : World) : InL m cell inner W (.slice none 0 0) [] :=
  ⟨none, 0, [], rfl, fun _ => ⟨rfl, rfl⟩, rfl, fun h => absurd h (by simp), Each.nil _ _⟩
theorem InL.slice {inner : World → α → Value → Prop} {W : World} {v : Value} {xs : List α} (h : InL m cell inner W v xs) : ∃ A c, v = .slice A xs.length c := by
  obtain ⟨A, c, us, h1, _⟩ := h
  exact ⟨A, c, h1⟩
/-- Element k of a list that is read. -/
theorem cells_at {w : World} {A : Option Addr} {xs : List α} {us : List Value} {n : Nat} (h : Cells w A m n (atL cell xs us)) (hn : n = xs.length) (hl : us.length = xs.length) {k : Nat} (hk : k < n) :
    ∃ ab ao x u, A = some ⟨ab, ao, none⟩ ∧ ab < w.heap.size ∧ xs[k]? = some x ∧ us[k]? = some u ∧ ∀ j c, j < m → (cell x u)[j]? = some c → w.cell? ⟨ab, ao + k * m + j, none⟩ = some c := by
  subst hn
  obtain ⟨ab, ao, rfl, hlt, hc⟩ := h (by omega)
  refine ⟨ab, ao, xs[k], us[k]'(by omega), rfl, hlt, List.getElem?_eq_getElem hk, List.getElem?_eq_getElem (by omega), fun j c hj hc' => ?_⟩
  rw [hc k j hk hj]
  unfold atL
  rw [List.getElem?_eq_getElem hk, List.getElem?_eq_getElem (show k < us.length by omega)]
  show some (((cell _ _)[j]?).getD _) = _
  rw [hc']; rfl

/-! Lists that a call owns. -/
def OwnU (T : TypeId) (m : Nat) (cell : α → Value → List Value) (W : World) (B : Nat) (v : Value) (xs : List α) (us : List Value) : Prop :=
  us.length = xs.length ∧ W.ownsRow B T m v xs.length (allL cell xs us)
theorem OwnU.nil (T : TypeId) (W : World) (B : Nat) : OwnU T m cell W B (.slice none 0 0) [] [] := ⟨rfl, World.ownsRow_nil _ _ _ _⟩
theorem OwnU.slice {T : TypeId} {W : World} {B : Nat} {v : Value} {xs : List α} {us : List Value} (h : OwnU T m cell W B v xs us) : ∃ A c, v = .slice A xs.length c := own_slice h.2
theorem OwnU.in_ {T : TypeId} {W : World} {B : Nat} {v : Value} {xs : List α} {us : List Value} (h : OwnU T m cell W B v xs us) (hm : ∀ x u, (cell x u).length = m) (h0 : 0 < m) {inner : World → α → Value → Prop} (hi : Each (inner W) xs us) : InL m cell inner W v xs := by
  have h2 := h.2
  rw [allL_flat hm h0 xs us h.1] at h2
  obtain ⟨A, c, e1, e2, e3⟩ := row_cells h0 h2
  exact ⟨A, c, us, e1, e3, h.1, e2, hi⟩
theorem OwnU.keep {T : TypeId} {W W' : World} {B : Nat} {v : Value} {xs : List α} {us : List Value} (h : OwnU T m cell W B v xs us) (hk : ∀ k cs, v.ownBlock = some k → Blk W k T cs → Blk W' k T cs) : OwnU T m cell W' B v xs us := by
  refine ⟨h.1, h.2.1, ?_⟩
  rcases h.2.2 with h2 | ⟨g, cap, cur, hv, hg, hh, r⟩
  · exact .inl h2
  · exact .inr ⟨g, cap, cur, hv, hg, hk g cur (by rw [hv]; rfl) hh, r⟩
theorem OwnU.below {T : TypeId} {W W' : World} {B : Nat} {v : Value} {xs : List α} {us : List Value} (h : OwnU T m cell W B v xs us) (hb : Below W.heap.size W W') : OwnU T m cell W' B v xs us := h.keep fun _ _ _ hk => hk.call hb
theorem OwnU.weaken {T : TypeId} {W : World} {B B' : Nat} {v : Value} {xs : List α} {us : List Value} (h : OwnU T m cell W B v xs us) (hb : B' ≤ B) : OwnU T m cell W B' v xs us := ⟨h.1, own_weaken h.2 hb⟩
theorem OwnU.block {T : TypeId} {W : World} {B : Nat} {v : Value} {xs : List α} {us : List Value} (h : OwnU T m cell W B v xs us) {k : Nat} (hk : v.ownBlock = some k) : B ≤ k ∧ k < W.heap.size := h.2.lt k hk
/-- One element more; what is known is told of the world behind it. -/
theorem OwnU.append {T : TypeId} {W : World} {B : Nat} {v : Value} {xs : List α} {us : List Value} (h : OwnU T m cell W B v xs us) (hm : ∀ x u, (cell x u).length = m) (h0 : 0 < m)
    {P : Program} {t : TypeId} {i : TypeInfo} {z : Value} {bytes : Nat} (ht : P.underlying t = some (.slice T)) (hi : P.info? T = some i) (hz : i.zero = some z) (hsize : i.size = m) (hby : i.bytes = bytes) (hzs : z.cells.size = m)
    {x : α} {u : Value} {ad : Addr} {c : Nat} (hnews : ∀ j q, (cell x u)[j]? = some q → W.cell? (ad.add j) = some q) (h1 : ∀ q ∈ cell x u, q.oneCell' = true) (hn : xs.length < 1000000000) (hb : bytes ≤ 1000) (hB : B ≤ W.heap.size) (ty : TypeId) :
    ∃ g cap W', (Builtin.append_ #[t, t] ty #[v, .slice (some ad) 1 c]).run P W = .ok (.slice (some ⟨g, 0, none⟩) (xs.length + 1) cap) W' ∧ OwnU T m cell W' B (.slice (some ⟨g, 0, none⟩) (xs.length + 1) cap) (xs ++ [x]) (us ++ [u]) ∧
      W.grownBy W' v.ownBlock ∧ (v.ownBlock = some g ∨ g = W.heap.size) ∧ g < W'.heap.size := by
  obtain ⟨g, cap, W', hr, h2, h3, h4, h5⟩ := run_append_lies (P := P) W t ty B T i z m bytes ht hi hz hsize hby hzs h0 v xs.length _ h.2 ad 1 c (cell x u) (by rw [hm, Nat.one_mul]) hnews h1 (by decide) (by unfold maxLen; omega)
    (Nat.le_trans (Nat.mul_le_mul (show xs.length + 1 ≤ 1000000000 by omega) hb) (by decide)) hB W.heap.size rfl
  refine ⟨g, cap, W', hr, ⟨by simp [h.1], ?_⟩, h3, h4, h5⟩
  rw [allL_snoc x u h.1, List.length_append, List.length_singleton]
  exact h2
/-- One cell is written. -/
theorem OwnU.stored {T : TypeId} {W : World} {B g n cap : Nat} {xs : List α} {us : List Value} (h : OwnU T m cell W B (.slice (some ⟨g, 0, none⟩) n cap) xs us) (hm : ∀ x u, (cell x u).length = m) {i j : Nat} {x y : α} {u v c : Value}
    (hx : xs[i]? = some x) (hu : us[i]? = some u) (hj : j < m) (he : (cell x u).set j c = cell y v) : OwnU T m cell (W.setCell ⟨g, i * m + j, none⟩ c) B (.slice (some ⟨g, 0, none⟩) n cap) (xs.set i y) (us.set i v) := by
  obtain ⟨A, d, e⟩ := h.slice
  have hn : n = xs.length := by injection e
  subst hn
  refine ⟨by simpa using h.1, ?_⟩
  have h2 := (h.2.stored (i * m + j) c).1
  rw [allL_set hm xs us h.1 i x u j c y v hx hu hj he] at h2
  simpa using h2
/-- The cells of element k. -/
theorem OwnU.cellAt {T : TypeId} {W : World} {B g n cap : Nat} {xs : List α} {us : List Value} (h : OwnU T m cell W B (.slice (some ⟨g, 0, none⟩) n cap) xs us) (hm : ∀ x u, (cell x u).length = m) {i j : Nat} {x : α} {u c : Value}
    (hx : xs[i]? = some x) (hu : us[i]? = some u) (hj : j < m) (hc : (cell x u)[j]? = some c) : W.cell? ⟨g, i * m + j, none⟩ = some c := by
  obtain ⟨A, d, e⟩ := h.slice
  have hn : n = xs.length := by injection e
  subst hn
  have h1 := h.2.cellAt (i * m + j) (row_lt (List.getElem?_eq_some_iff.1 hx).1 hj)
  rw [h1, allL_at hm xs us h.1 i x u j hx hu hj, hc]
theorem OwnU.frozen {T : TypeId} {W : World} {B g n cap : Nat} {xs : List α} {us : List Value} (h : OwnU T m cell W B (.slice (some ⟨g, 0, none⟩) n cap) xs us) (i : Nat) : W.frozen? ⟨g, i, none⟩ = false := by
  obtain ⟨A, d, e⟩ := h.slice
  have hn : n = xs.length := by injection e
  subst hn
  exact h.2.frozenAt i
theorem OwnU.form {T : TypeId} {W : World} {B : Nat} {v : Value} {xs : List α} {us : List Value} (h : OwnU T m cell W B v xs us) (h0 : 0 < xs.length) : ∃ g cap, v = .slice (some ⟨g, 0, none⟩) xs.length cap ∧ B ≤ g ∧ g < W.heap.size := h.2.form h0
end
end Go.Proofs.YthpcbaamkeiffaaGreatDoor
namespace Go.Proofs.YthpcbaamkeiffaaGreatDoor
open Go.RowKit
set_option linter.unusedVariables false
set_option linter.unusedSimpArgs false

def flgT (f : Flg) : (Bool × Bool × Bool × Bool) × (Bool × Bool × Bool × Bool) × Int × Int := ((f.last, f.next, f.chain, f.fin), (f.forb, f.gone, f.app, f.disc), f.skip, f.red)
theorem flgT_inj {a b : Flg} (h : flgT a = flgT b) : a = b := by
  cases a; cases b
  simp [flgT] at h
  simp [h]
instance : DecidableEq Flg := fun a b => decidable_of_iff (flgT a = flgT b) ⟨flgT_inj, fun h => by rw [h]⟩
structure Cd where
  t : ByteArray
  no : Bool
  p : ByteArray
  nc : Bool
  orr : Bool
deriving DecidableEq
structure Ru where
  p : ByteArray
  nc : Bool
  cds : List Cd
  tg : ByteArray
  fl : Flg
deriving DecidableEq
structure Dr where
  path : ByteArray
  mode : Int
  rus : List Ru
deriving DecidableEq
structure Ro where
  seg : List ByteArray
  kind : Int
  txt : ByteArray
deriving DecidableEq
structure Cf where
  cap : Int
  lim : Int
  dirs : List Dr
  ros : List Ro
deriving DecidableEq
instance : Inhabited Cd := ⟨⟨⟨#[]⟩, false, ⟨#[]⟩, false, false⟩⟩
instance : Inhabited Ru := ⟨⟨⟨#[]⟩, false, [], ⟨#[]⟩, default⟩⟩
def zeroCf : Cf := ⟨0, 0, [], []⟩

/-! The cells of each. -/
def cdC (x : Cd) (_ : Value) : List Value := [.string x.t, .bool x.no, .string x.p, .bool x.nc, .bool x.orr]
def ruC (x : Ru) (u : Value) : List Value := [.string x.p, .bool x.nc, u, .string x.tg, Value.bool x.fl.last, .bool x.fl.next, .bool x.fl.chain, .bool x.fl.fin, .bool x.fl.forb, .bool x.fl.gone, .bool x.fl.app, .bool x.fl.disc, .int .i64 x.fl.skip, .int .i64 x.fl.red]
def drC (x : Dr) (u : Value) : List Value := [.string x.path, .int .i64 x.mode, u]
def roC (x : Ro) (u : Value) : List Value := [u, .int .i64 x.kind, .string x.txt]
theorem cdC_len (x : Cd) (u : Value) : (cdC x u).length = 5 := rfl
theorem ruC_len (x : Ru) (u : Value) : (ruC x u).length = 14 := rfl
theorem drC_len (x : Dr) (u : Value) : (drC x u).length = 3 := rfl
theorem roC_len (x : Ro) (u : Value) : (roC x u).length = 3 := rfl

/-! Read. -/
def CondsIn (W : World) (v : Value) (xs : List Cd) : Prop := InL 5 cdC (fun _ _ _ => True) W v xs
def RulesIn (W : World) (v : Value) (xs : List Ru) : Prop := InL 14 ruC (fun W x u => CondsIn W u x.cds) W v xs
def DirsIn (W : World) (v : Value) (xs : List Dr) : Prop := InL 3 drC (fun W x u => RulesIn W u x.rus) W v xs
/-- A slice's length is within its capacity. -/
def CapOk (v : Value) : Prop := ∀ a n c, v = .slice a n c → n ≤ c
def RoutesIn (W : World) (v : Value) (xs : List Ro) : Prop := InL 3 roC (fun W x u => TextsIn W u x.seg ∧ CapOk u) W v xs
theorem CondsIn.below {W W' : World} {v : Value} {xs : List Cd} (h : CondsIn W v xs) (hb : Below W.heap.size W W') : CondsIn W' v xs := InL.below h hb fun _ _ _ => trivial
theorem RulesIn.below {W W' : World} {v : Value} {xs : List Ru} (h : RulesIn W v xs) (hb : Below W.heap.size W W') : RulesIn W' v xs := InL.below h hb fun _ _ h => h.below hb
theorem DirsIn.below {W W' : World} {v : Value} {xs : List Dr} (h : DirsIn W v xs) (hb : Below W.heap.size W W') : DirsIn W' v xs := InL.below h hb fun _ _ h => h.below hb
theorem RoutesIn.below {W W' : World} {v : Value} {xs : List Ro} (h : RoutesIn W v xs) (hb : Below W.heap.size W W') : RoutesIn W' v xs := InL.below h hb fun _ _ h => ⟨h.1.below hb, h.2⟩
/-- A value shows a configuration. -/
def CfIn (W : World) (v : Value) (c : Cf) : Prop := ∃ d r, v = .agg #[.int .i64 c.cap, .int .i64 c.lim, d, r] ∧ DirsIn W d c.dirs ∧ RoutesIn W r c.ros
theorem CfIn.below {W W' : World} {v : Value} {c : Cf} (h : CfIn W v c) (hb : Below W.heap.size W W') : CfIn W' v c := by
  obtain ⟨d, r, h1, h2, h3⟩ := h
  exact ⟨d, r, h1, h2.below hb, h3.below hb⟩

/-! The elements of each. -/
section
variable {w : World} {A : Option Addr} {n : Nat} {us : List Value} {k : Nat}
theorem cells_cd {l : List Cd} (h : Cells w A 5 n (atL cdC l us)) (hn : n = l.length) (hl : us.length = l.length) (hk : k < n) : ∃ ab ao x, A = some ⟨ab, ao, none⟩ ∧ ab < w.heap.size ∧ l[k]? = some x ∧
    w.cell? ⟨ab, ao + k * 5, none⟩ = some (.string x.t) ∧ w.cell? ⟨ab, ao + k * 5 + 1, none⟩ = some (.bool x.no) ∧ w.cell? ⟨ab, ao + k * 5 + 2, none⟩ = some (.string x.p) ∧ w.cell? ⟨ab, ao + k * 5 + 3, none⟩ = some (.bool x.nc) ∧
    w.cell? ⟨ab, ao + k * 5 + 4, none⟩ = some (.bool x.orr) := by
  obtain ⟨ab, ao, x, u, hA, hb, hx, _, hc⟩ := cells_at h hn hl hk
  exact ⟨ab, ao, x, hA, hb, hx, hc 0 _ (by decide) rfl, hc 1 _ (by decide) rfl, hc 2 _ (by decide) rfl, hc 3 _ (by decide) rfl, hc 4 _ (by decide) rfl⟩
theorem cells_ru {l : List Ru} (h : Cells w A 14 n (atL ruC l us)) (hn : n = l.length) (hl : us.length = l.length) (hk : k < n) : ∃ ab ao x u, A = some ⟨ab, ao, none⟩ ∧ ab < w.heap.size ∧ l[k]? = some x ∧ us[k]? = some u ∧
    w.cell? ⟨ab, ao + k * 14, none⟩ = some (.string x.p) ∧ w.cell? ⟨ab, ao + k * 14 + 1, none⟩ = some (.bool x.nc) ∧ w.cell? ⟨ab, ao + k * 14 + 2, none⟩ = some u ∧ w.cell? ⟨ab, ao + k * 14 + 3, none⟩ = some (.string x.tg) ∧
    w.cell? ⟨ab, ao + k * 14 + 4, none⟩ = some (.bool x.fl.last) ∧ w.cell? ⟨ab, ao + k * 14 + 5, none⟩ = some (.bool x.fl.next) ∧ w.cell? ⟨ab, ao + k * 14 + 6, none⟩ = some (.bool x.fl.chain) ∧ w.cell? ⟨ab, ao + k * 14 + 7, none⟩ = some (.bool x.fl.fin) ∧
    w.cell? ⟨ab, ao + k * 14 + 8, none⟩ = some (.bool x.fl.forb) ∧ w.cell? ⟨ab, ao + k * 14 + 9, none⟩ = some (.bool x.fl.gone) ∧ w.cell? ⟨ab, ao + k * 14 + 10, none⟩ = some (.bool x.fl.app) ∧ w.cell? ⟨ab, ao + k * 14 + 11, none⟩ = some (.bool x.fl.disc) ∧
    w.cell? ⟨ab, ao + k * 14 + 12, none⟩ = some (.int .i64 x.fl.skip) ∧ w.cell? ⟨ab, ao + k * 14 + 13, none⟩ = some (.int .i64 x.fl.red) := by
  obtain ⟨ab, ao, x, u, hA, hb, hx, hu, hc⟩ := cells_at h hn hl hk
  exact ⟨ab, ao, x, u, hA, hb, hx, hu, hc 0 _ (by decide) rfl, hc 1 _ (by decide) rfl, hc 2 _ (by decide) rfl, hc 3 _ (by decide) rfl, hc 4 _ (by decide) rfl, hc 5 _ (by decide) rfl, hc 6 _ (by decide) rfl, hc 7 _ (by decide) rfl,
    hc 8 _ (by decide) rfl, hc 9 _ (by decide) rfl, hc 10 _ (by decide) rfl, hc 11 _ (by decide) rfl, hc 12 _ (by decide) rfl, hc 13 _ (by decide) rfl⟩
theorem cells_dr {l : List Dr} (h : Cells w A 3 n (atL drC l us)) (hn : n = l.length) (hl : us.length = l.length) (hk : k < n) : ∃ ab ao x u, A = some ⟨ab, ao, none⟩ ∧ ab < w.heap.size ∧ l[k]? = some x ∧ us[k]? = some u ∧
    w.cell? ⟨ab, ao + k * 3, none⟩ = some (.string x.path) ∧ w.cell? ⟨ab, ao + k * 3 + 1, none⟩ = some (.int .i64 x.mode) ∧ w.cell? ⟨ab, ao + k * 3 + 2, none⟩ = some u := by
  obtain ⟨ab, ao, x, u, hA, hb, hx, hu, hc⟩ := cells_at h hn hl hk
  exact ⟨ab, ao, x, u, hA, hb, hx, hu, hc 0 _ (by decide) rfl, hc 1 _ (by decide) rfl, hc 2 _ (by decide) rfl⟩
theorem cells_ro {l : List Ro} (h : Cells w A 3 n (atL roC l us)) (hn : n = l.length) (hl : us.length = l.length) (hk : k < n) : ∃ ab ao x u, A = some ⟨ab, ao, none⟩ ∧ ab < w.heap.size ∧ l[k]? = some x ∧ us[k]? = some u ∧
    w.cell? ⟨ab, ao + k * 3, none⟩ = some u ∧ w.cell? ⟨ab, ao + k * 3 + 1, none⟩ = some (.int .i64 x.kind) ∧ w.cell? ⟨ab, ao + k * 3 + 2, none⟩ = some (.string x.txt) := by
  obtain ⟨ab, ao, x, u, hA, hb, hx, hu, hc⟩ := cells_at h hn hl hk
  exact ⟨ab, ao, x, u, hA, hb, hx, hu, hc 0 _ (by decide) rfl, hc 1 _ (by decide) rfl, hc 2 _ (by decide) rfl⟩
end
end Go.Proofs.YthpcbaamkeiffaaGreatDoor
namespace Go.Proofs.YthpcbaamkeiffaaGreatDoor
set_option linter.unusedVariables false
set_option linter.unusedSimpArgs false

/-! Texts of rows: read back. -/
theorem lineW_one (t : ByteArray) : lineW [t] = wrW t.data.toList := by simp [lineW]
theorem lineW_cons (t u : ByteArray) (ws : List ByteArray) : lineW (t :: u :: ws) = wrW t.data.toList ++ 32 :: lineW (u :: ws) := by simp [lineW]
theorem lineW_all : ∀ ws : List ByteArray, (lineW ws).all (fun x => decide (32 ≤ x.toNat) && decide (x.toNat ≤ 126)) = true
  | [] => rfl
  | [t] => by rw [lineW_one]; exact wrW_all _
  | t :: u :: ws => by
    rw [lineW_cons, List.all_append, wrW_all, List.all_cons, lineW_all (u :: ws)]; rfl
theorem textF_cons (r : List ByteArray) (rs : List (List ByteArray)) (out : List UInt8) : textF (r :: rs) out =
    if r = [] then (none, 3) else if 1000 < (lineW r).length ∨ 20000 < out.length + (lineW r).length + 1 then (none, 4) else textF rs (out ++ lineW r ++ [10]) := rfl
theorem textF_err : ∀ (rs : List (List ByteArray)) (out : List UInt8), (∀ r ∈ rs, r ≠ []) → (∃ s, textF rs out = (some s, 0)) ∨ textF rs out = (none, 4)
  | [], out, _ => .inl ⟨out, rfl⟩
  | r :: rs, out, h => by
    rw [textF_cons, if_neg (h r (by simp))]
    split
    · exact .inr rfl
    · exact textF_err rs _ (fun x hx => h x (by simp [hx]))
end Go.Proofs.YthpcbaamkeiffaaGreatDoor
namespace Go.Proofs.YthpcbaamkeiffaaGreatDoor
set_option linter.unusedVariables false
set_option linter.unusedSimpArgs false

theorem lineW_snoc : ∀ (l : List ByteArray) (t : ByteArray), lineW (l ++ [t]) = if l = [] then wrW t.data.toList else lineW l ++ 32 :: wrW t.data.toList
  | [], t => by rw [if_pos rfl]; exact lineW_one t
  | [a], t => by rw [if_neg (by simp), List.singleton_append, lineW_cons, lineW_one, lineW_one]
  | a :: b :: l, t => by
    have h := lineW_snoc (b :: l) t
    rw [if_neg (by simp)] at h ⊢
    rw [List.cons_append, List.cons_append, lineW_cons, ← List.cons_append, h, lineW_cons, List.append_assoc]; rfl
theorem lineW_len (m : Nat) : ∀ ws : List ByteArray, (∀ t ∈ ws, t.size ≤ m) → (lineW ws).length ≤ ws.length * (4 * m + 3)
  | [], _ => Nat.zero_le _
  | [t], h => by
    have h1 := wrW_len t.data.toList
    rw [size_data] at h1
    have := h t (by simp)
    rw [lineW_one, List.length_singleton]; omega
  | t :: u :: ws, h => by
    have h1 := wrW_len t.data.toList
    rw [size_data] at h1
    have h2 := h t (by simp)
    have h3 := lineW_len m (u :: ws) (fun x hx => h x (by simp at hx ⊢; exact .inr hx))
    rw [lineW_cons, List.length_append, List.length_cons, List.length_cons]
    rw [Nat.add_mul, Nat.one_mul]
    omega
/-- The texts of rows. -/
def txR (rs : List Rw) : List (List ByteArray) := rs.map fun r => r.w.map (·.t)
/-- How far a writer has come. -/
def TAt (rs : List Rw) (k : Nat) (out : List UInt8) : Prop := k ≤ rs.length ∧ out.length ≤ 20000 ∧ textF (txR rs) [] = textF (txR (rs.drop k)) out
theorem TAt.start (rs : List Rw) : TAt rs 0 [] := ⟨Nat.zero_le _, by simp, by rw [List.drop_zero]⟩
theorem TAt.over {rs : List Rw} {k : Nat} {out : List UInt8} (h : TAt rs k out) (hk : ¬ k < rs.length) : textF (txR rs) [] = (some out, 0) := by
  rw [h.2.2, List.drop_eq_nil_of_le (by omega)]; rfl
theorem txR_at {rs : List Rw} {k : Nat} {r : Rw} (hr : rs[k]? = some r) : txR (rs.drop k) = r.w.map (·.t) :: txR (rs.drop (k + 1)) := by
  have hk := (List.getElem?_eq_some_iff.1 hr).1
  rw [List.drop_eq_getElem_cons hk, (List.getElem?_eq_some_iff.1 hr).2]; rfl
theorem TAt.noW {rs : List Rw} {k : Nat} {out : List UInt8} {r : Rw} (h : TAt rs k out) (hr : rs[k]? = some r) (hw : r.w = []) : textF (txR rs) [] = (none, 3) := by
  rw [h.2.2, txR_at hr, textF_cons, if_pos (by rw [hw]; rfl)]
theorem TAt.long {rs : List Rw} {k : Nat} {out : List UInt8} {r : Rw} (h : TAt rs k out) (hr : rs[k]? = some r) (hw : r.w ≠ [])
    (hl : 1000 < (lineW (r.w.map (·.t))).length ∨ 20000 < out.length + (lineW (r.w.map (·.t))).length + 1) : textF (txR rs) [] = (none, 4) := by
  rw [h.2.2, txR_at hr, textF_cons, if_neg (by simpa using hw), if_pos hl]
theorem TAt.line {rs : List Rw} {k : Nat} {out : List UInt8} {r : Rw} (h : TAt rs k out) (hr : rs[k]? = some r) (hw : r.w ≠ [])
    (hl : ¬ (1000 < (lineW (r.w.map (·.t))).length ∨ 20000 < out.length + (lineW (r.w.map (·.t))).length + 1)) : TAt rs (k + 1) (out ++ lineW (r.w.map (·.t)) ++ [10]) := by
  have hk := (List.getElem?_eq_some_iff.1 hr).1
  refine ⟨hk, by simp only [List.length_append, List.length_singleton]; omega, ?_⟩
  rw [h.2.2, txR_at hr, textF_cons, if_neg (by simpa using hw), if_neg hl]
/-- The words of a line that are written. -/
def preT (r : Rw) (j : Nat) : List UInt8 := lineW ((r.w.take j).map (·.t))
theorem preT_zero (r : Rw) : preT r 0 = [] := by unfold preT; rw [List.take_zero]; rfl
theorem preT_all (r : Rw) {j : Nat} (h : ¬ j < r.w.length) : preT r j = lineW (r.w.map (·.t)) := by unfold preT; rw [List.take_of_length_le (by omega)]
theorem preT_first {r : Rw} {d : Wd} (hd : r.w[0]? = some d) : preT r 1 = wrW d.t.data.toList := by
  unfold preT
  rw [List.take_add_one, hd]
  exact lineW_one d.t
theorem preT_next {r : Rw} {j : Nat} {d : Wd} (hj : 0 < j) (hd : r.w[j]? = some d) : preT r (j + 1) = preT r j ++ 32 :: wrW d.t.data.toList := by
  unfold preT
  rw [List.take_add_one, hd, List.map_append]
  have hk := (List.getElem?_eq_some_iff.1 hd).1
  show lineW (_ ++ [d.t]) = _
  rw [lineW_snoc, if_neg (by
    intro e
    have := congrArg List.length e
    rw [List.length_map, List.length_take, List.length_nil] at this
    omega)]
theorem preT_len {r : Rw} (m j : Nat) (h : ∀ d ∈ r.w, d.t.size ≤ m) : (preT r j).length ≤ r.w.length * (4 * m + 3) := by
  unfold preT
  have h1 := lineW_len m ((r.w.take j).map (·.t)) (fun t ht => by
    obtain ⟨d, hd, rfl⟩ := List.mem_map.1 ht
    exact h d (List.mem_of_mem_take hd))
  rw [List.length_map, List.length_take] at h1
  exact Nat.le_trans h1 (Nat.mul_le_mul_right _ (Nat.min_le_right _ _))
end Go.Proofs.YthpcbaamkeiffaaGreatDoor
