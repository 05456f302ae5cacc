/-
  Lists of numbers and lists of lists that a call owns; (*graph).components, walked; conditions: at most 64 nodes.
-/
import Derived.Test.YtjgkiiohbceocaaScF
import Derived.Test.YtjgkiiohbceocaaScI
import Derived.Maps.AppendAt
namespace Go.Proofs.Ytjgkiiohbceocaa
open Go.RowKit
set_option linter.unusedVariables false
set_option linter.unusedSimpArgs false

theorem infoInt : (Try.prog.info? 3).map (fun i => (i.zero, i.size, i.bytes)) = some (some (.int .i64 0), 1, 8) := by kernel_rfl
theorem infoInts : (Try.prog.info? 25).map (fun i => (i.zero, i.size, i.bytes)) = some (some (.slice none 0 0), 1, 24) := by kernel_rfl
theorem infoBool : (Try.prog.info? 4).map (fun i => (i.zero, i.size, i.bytes)) = some (some (.bool false), 1, 1) := by kernel_rfl
theorem info_parts {t : TypeId} {z : Value} {s b : Nat} (h : (Try.prog.info? t).map (fun i => (i.zero, i.size, i.bytes)) = some (some z, s, b)) : ∃ i, Try.prog.info? t = some i ∧ i.zero = some z ∧ i.size = s ∧ i.bytes = b := by
  cases e : Try.prog.info? t with
  | none => rw [e] at h; cases h
  | some i =>
    rw [e] at h
    simp only [Option.map_some, Option.some.injEq, Prod.mk.injEq] at h
    exact ⟨i, rfl, h.1, h.2.1, h.2.2⟩
theorem own_blks {W W' : World} {B size n : Nat} {e : TypeId} {v : Value} {xs : List Value} (h : W.ownsRow B e size v n xs) (hk : ∀ k cs, B ≤ k → Blk W k e cs → Blk W' k e cs) : W'.ownsRow B e size v n xs := by
  refine ⟨h.1, ?_⟩
  rcases h.2 with h2 | ⟨g, cap, cur, hv, hg, hh, r⟩
  · exact .inl h2
  · exact .inr ⟨g, cap, cur, hv, hg, hk g cur hg hh, r⟩
/-- The cells of a list of nodes. -/
def natC (l : List Nat) : List Value := l.map fun (x : Nat) => Value.int .i64 (x : Int)
theorem natC_len (l : List Nat) : (natC l).length = l.length := by simp [natC]
theorem natC_snoc (l : List Nat) (x : Nat) : natC (l ++ [x]) = natC l ++ [.int .i64 (x : Int)] := by simp [natC]
abbrev OwnN (W : World) (B : Nat) (v : Value) (l : List Nat) : Prop := W.ownsRow B 3 1 v l.length (natC l)
def InnN (W : World) (B : Nat) : List (List Nat) → List Value → Prop
  | [], [] => True
  | l :: ls, v :: vs => OwnN W B v l ∧ InnN W B ls vs
  | _, _ => False
theorem InnN.keep {W W' : World} {B : Nat} (hk : ∀ k cs, B ≤ k → Blk W k 3 cs → Blk W' k 3 cs) : ∀ {ls : List (List Nat)} {vs : List Value}, InnN W B ls vs → InnN W' B ls vs
  | [], [], _ => trivial
  | l :: ls, v :: vs, h => ⟨own_blks h.1 hk, InnN.keep hk h.2⟩
theorem InnN.len {W : World} {B : Nat} : ∀ {ls : List (List Nat)} {vs : List Value}, InnN W B ls vs → vs.length = ls.length
  | [], [], _ => rfl
  | l :: ls, v :: vs, h => by simp [InnN.len h.2]
theorem InnN.snoc {W : World} {B : Nat} {l : List Nat} {v : Value} (hr : OwnN W B v l) : ∀ {ls : List (List Nat)} {vs : List Value}, InnN W B ls vs → InnN W B (ls ++ [l]) (vs ++ [v])
  | [], [], _ => ⟨hr, trivial⟩
  | _ :: ls, _ :: vs, h => ⟨h.1, InnN.snoc hr h.2⟩
theorem InnN.at_ {W : World} {B : Nat} : ∀ {ls : List (List Nat)} {vs : List Value}, InnN W B ls vs → ∀ (i : Nat) (l : List Nat) (u : Value), ls[i]? = some l → vs[i]? = some u → OwnN W B u l
  | [], [], _, _, _, _, h, _ => by simp at h
  | l :: ls, v :: vs, h, 0, _, _, h1, h2 => by
    simp at h1 h2
    subst h1 h2
    exact h.1
  | l :: ls, v :: vs, h, i + 1, _, _, h1, h2 => InnN.at_ h.2 i _ _ (by simpa using h1) (by simpa using h2)
/-- A list of lists. -/
def OwnLL (W : World) (B : Nat) (v : Value) (ls : List (List Nat)) : Prop := ∃ vs, W.ownsRow B 25 1 v ls.length vs ∧ InnN W B ls vs
theorem OwnLL.keep {W W' : World} {B : Nat} {v : Value} {ls : List (List Nat)} (h : OwnLL W B v ls) (hk : ∀ k t cs, B ≤ k → Blk W k t cs → t = 25 ∨ t = 3 → Blk W' k t cs) : OwnLL W' B v ls := by
  obtain ⟨vs, h1, h2⟩ := h
  exact ⟨vs, own_blks h1 (fun k cs hB hb => hk k _ cs hB hb (.inl rfl)), h2.keep (fun k cs hB hb => hk k _ cs hB hb (.inr rfl))⟩
theorem OwnLL.below {W W' : World} {B : Nat} {v : Value} {ls : List (List Nat)} (h : OwnLL W B v ls) (hb : Below W.heap.size W W') : OwnLL W' B v ls := h.keep (fun _ _ _ _ hk _ => hk.call hb)
theorem OwnLL.nil (W : World) (B : Nat) : OwnLL W B (.slice none 0 0) [] := ⟨[], World.ownsRow_nil _ _ _ _, trivial⟩
theorem OwnLL.slice {W : World} {B : Nat} {v : Value} {ls : List (List Nat)} (h : OwnLL W B v ls) : ∃ a c, v = .slice a ls.length c := own_slice h.choose_spec.1
theorem own_one {W : World} {B : Nat} {e : TypeId} {v : Value} {n : Nat} {xs : List Value} (h : W.ownsRow B e 1 v n xs) : v.oneCell' = true := by
  rcases h.2 with ⟨rfl, _⟩ | ⟨g, cap, cur, rfl, _⟩ <;> rfl
/-- What a row that is owned holds. -/
theorem own_cell {W : World} {B : Nat} {e : TypeId} {v : Value} {n : Nat} {xs : List Value} (h : W.ownsRow B e 1 v n xs) {i : Nat} {u : Value} (hu : xs[i]? = some u) :
    ∃ g cap, v = .slice (some ⟨g, 0, none⟩) n cap ∧ B ≤ g ∧ g < W.heap.size ∧ W.cell? ⟨g, i, none⟩ = some u ∧ W.frozen? ⟨g, i, none⟩ = false ∧ i < n := by
  have hi : i < n := by
    have := (List.getElem?_eq_some_iff.1 hu).1
    rw [h.1] at this
    omega
  rcases h.2 with ⟨_, h0⟩ | ⟨g, cap, cur, rfl, hg, hh, _, _, _, htk⟩
  · omega
  · refine ⟨g, cap, rfl, hg, (Array.getElem?_eq_some_iff.1 hh).1, ?_, Blk.frozen (t := e) hh i, hi⟩
    rw [cell_of_row W g i cur e (0, 0) hh, ← hu, ← htk, List.getElem?_take, if_pos (by omega)]
    simp

/-- n cells, each known by its number. -/
def vecC (n : Nat) (f : Nat → Value) : Array Value := ((List.range n).map f).toArray
theorem vecC_at {n : Nat} (f : Nat → Value) {k : Nat} (hk : k < n) : (vecC n f)[k]? = some (f k) := by
  unfold vecC
  rw [List.getElem?_toArray, List.getElem?_map, List.getElem?_range hk]; rfl
theorem vecC_size (n : Nat) (f : Nat → Value) : (vecC n f).size = n := by simp [vecC]
theorem vecC_congr {n : Nat} {f g : Nat → Value} (h : ∀ j, j < n → g j = f j) : vecC n f = vecC n g := by
  apply Array.ext_getElem?
  intro j
  by_cases hj : j < n
  · rw [vecC_at f hj, vecC_at g hj, h j hj]
  · rw [Array.getElem?_eq_none (by rw [vecC_size]; omega), Array.getElem?_eq_none (by rw [vecC_size]; omega)]
theorem vecC_set {n : Nat} {f g : Nat → Value} {k : Nat} {b : Value} (hk : k < n) (hb : g k = b) (h : ∀ j, j < n → j ≠ k → g j = f j) : (vecC n f).setIfInBounds k b = vecC n g := by
  apply Array.ext_getElem?
  intro j
  rw [Array.getElem?_setIfInBounds]
  by_cases e : k = j
  · subst e
    rw [if_pos rfl, if_pos (by rw [vecC_size]; exact hk), vecC_at g hk, hb]
  · rw [if_neg e]
    by_cases hj : j < n
    · rw [vecC_at f hj, vecC_at g hj, h j hj (fun e' => e e'.symm)]
    · rw [Array.getElem?_eq_none (by rw [vecC_size]; omega), Array.getElem?_eq_none (by rw [vecC_size]; omega)]
/-- Truth values of n nodes; numbers of n nodes. -/
abbrev boolC (n : Nat) (f : Nat → Bool) : Array Value := vecC n fun k => .bool (f k)
abbrev numC (n : Nat) (f : Nat → Nat) : Array Value := vecC n fun k => .int .i64 (f k : Int)
theorem boolC_congr {n : Nat} {f g : Nat → Bool} (h : ∀ j, j < n → g j = f j) : boolC n f = boolC n g := vecC_congr fun j hj => by rw [h j hj]
theorem numC_congr {n : Nat} {f g : Nat → Nat} (h : ∀ j, j < n → g j = f j) : numC n f = numC n g := vecC_congr fun j hj => by rw [h j hj]
theorem boolC_set {n : Nat} {f g : Nat → Bool} {k : Nat} {b : Bool} (hk : k < n) (hb : g k = b) (h : ∀ j, j < n → j ≠ k → g j = f j) : (boolC n f).setIfInBounds k (.bool b) = boolC n g :=
  vecC_set hk (by rw [hb]) fun j hj hn => by rw [h j hj hn]
theorem numC_set {n : Nat} {f g : Nat → Nat} {k b : Nat} (hk : k < n) (hb : g k = b) (h : ∀ j, j < n → j ≠ k → g j = f j) : (numC n f).setIfInBounds k (.int .i64 (b : Int)) = numC n g :=
  vecC_set hk (by rw [hb]) fun j hj hn => by rw [h j hj hn]
/-- make of n cells. -/
theorem mk_vec {t e : TypeId} {z : Value} {b : Nat} (ht : Try.prog.underlying t = some (.slice e)) (hinfo : (Try.prog.info? e).map (fun i => (i.zero, i.size, i.bytes)) = some (some z, 1, b)) (hz : z.cells = #[z]) (hb : b ≤ 24) (n : Nat) (hn : n ≤ 1000000) (w : World) :
    (Instr.makeSlice t (.int .i64 (n : Int)) (.int .i64 (n : Int))).run Try.prog w = .ok (.slice (some ⟨w.heap.size, 0, none⟩) n n) (w.alloc (.cells (vecC n fun _ => z) e)) := by
  obtain ⟨i, hi, hz0, hz1, hz2⟩ := info_parts hinfo
  have h := run_make (P := Try.prog) w t e i z ht hi hz0 .i64 .i64 (n : Int) (n : Int) (by omega) (Int.le_refl _) (by
    rw [hz2]
    have : (b : Int) * (n : Int) ≤ 24 * 1000000 := Int.mul_le_mul (by omega) (by omega) (by omega) (by omega)
    omega) (by omega)
  rw [hz1, hz, Int.toNat_natCast, Nat.mul_one] at h
  rw [h]
  congr 4
  apply Array.ext_getElem?
  intro j
  by_cases hj : j < n
  · rw [vecC_at _ hj]
    unfold madeCells
    rw [Array.getElem?_map, Array.getElem?_range, if_pos hj]
    simp [Nat.mod_one]
  · rw [Array.getElem?_eq_none (by rw [size_madeCells]; omega), Array.getElem?_eq_none (by rw [vecC_size]; omega)]

/-- append of one element that lies in a block of its own. -/
theorem app_one {w : World} {ops : Array Oper} {rest : List Oper} {o : Oper} {a : Act} {Q : Exit → Act → World → Prop} (hgd : o.guard = none) (s x : Operand) {t e : TypeId} {z : Value} {b : Nat}
    (ho : o.op = .call { callee := .builtin .append, args := #[s, x], argTypes := #[t, t] }) (base : Nat) (ht : Try.prog.underlying t = some (.slice e)) (hinfo : (Try.prog.info? e).map (fun i => (i.zero, i.size, i.bytes)) = some (some z, 1, b)) (hz : z.cells.size = 1) (hb : b ≤ 24)
    (v : Value) (n : Nat) (xs : List Value) (hs : a.eval s = v) (hown : w.ownsRow base e 1 v n xs) (g : Nat) (u : Value) (hx : a.eval x = .slice (some ⟨g, 0, none⟩) 1 1) (hu : w.cell? ⟨g, 0, none⟩ = some u) (hu1 : u.oneCell' = true) (hn : n ≤ 1000000) (hbase : base ≤ w.heap.size)
    (h : ∀ v' w', w'.ownsRow base e 1 v' (n + 1) (xs ++ [u]) → w.grownBy w' v.ownBlock → (v'.ownBlock = v.ownBlock ∨ v'.ownBlock = some w.heap.size) → wpList Try.prog ops Q rest (a.put o.dst v') w') : wpList Try.prog ops Q (o :: rest) a w := by
  obtain ⟨i, hi, hz0, hz1, hz2⟩ := info_parts hinfo
  refine wpList_append_own_at (w := w) hgd s x t ho base e i z 1 b ht hi hz0 hz1 hz2 hz (by decide) v n xs hs hown ⟨g, 0, none⟩ 1 1 [u] hx rfl ?_ ?_ ?_ ?_ hbase (fun v' w' h1 h2 _ h4 => h v' w' h1 h2 h4)
  · intro j u' hj
    match j, hj with
    | 0, hj =>
      simp at hj
      subst hj
      exact hu
  · intro u' hu'
    simp at hu'
    subst hu'
    exact hu1
  · unfold maxLen; omega
  · have : (n + 1) * b ≤ 1000001 * 24 := Nat.mul_le_mul (by omega) hb
    omega

/-! Components, step by step. -/
def sn (T : Nat → Nat → Bool) (i k : Nat) : Bool := (List.range i).any fun r => tog T r k
theorem sn_iff {T : Nat → Nat → Bool} {i k : Nat} : sn T i k = true ↔ ∃ r, r < i ∧ tog T r k = true := by
  unfold sn
  rw [List.any_eq_true]
  constructor
  · rintro ⟨r, h1, h2⟩; exact ⟨r, List.mem_range.1 h1, h2⟩
  · rintro ⟨r, h1, h2⟩; exact ⟨r, List.mem_range.2 h1, h2⟩
theorem sn_root {T : Nat → Nat → Bool} {i : Nat} : isRoot T i = !sn T i i := by
  cases h : sn T i i with
  | false =>
    show isRoot T i = true
    refine isRoot_iff.2 fun k hk => ?_
    cases e : tog T k i with
    | false => rfl
    | true => rw [sn_iff.2 ⟨k, hk, e⟩] at h; cases h
  | true =>
    show isRoot T i = false
    obtain ⟨r, h1, h2⟩ := sn_iff.1 h
    cases e : isRoot T i with
    | false => rfl
    | true => rw [isRoot_iff.1 e r h1] at h2; cases h2
theorem sn_succ (T : Nat → Nat → Bool) (i k : Nat) : sn T (i + 1) k = (sn T i k || tog T i k) := by
  unfold sn
  rw [List.range_succ, List.any_append]
  simp
theorem sn_skip {T : Nat → Nat → Bool} (ht : Trans' T) {i : Nat} (h : sn T i i = true) (k : Nat) : sn T (i + 1) k = sn T i k := by
  rw [sn_succ]
  cases e : tog T i k with
  | false => rw [Bool.or_false]
  | true =>
    rw [Bool.or_true]
    obtain ⟨r, h1, h2⟩ := sn_iff.1 h
    exact (sn_iff.2 ⟨r, h1, tog_trans ht h2 e⟩).symm
/-- What is seen while the component of i is gathered. -/
def snT (T : Nat → Nat → Bool) (i k j : Nat) : Bool := sn T i j || (decide (j < k) && tog T i j)
theorem snT_start {T : Nat → Nat → Bool} {i : Nat} (h : isRoot T i = true) (j : Nat) : snT T i i j = sn T i j := by
  unfold snT
  by_cases hj : j < i
  · rw [decide_eq_true hj, Bool.true_and]
    cases e : tog T i j with
    | false => rw [Bool.or_false]
    | true => exact absurd (tog_symm e) (by rw [isRoot_iff.1 h j hj]; decide)
  · rw [decide_eq_false hj, Bool.false_and, Bool.or_false]
theorem snT_end {T : Nat → Nat → Bool} {i n : Nat} (j : Nat) (hj : j < n) : sn T (i + 1) j = snT T i n j := by
  unfold snT
  rw [sn_succ, decide_eq_true hj, Bool.true_and]
def memT (T : Nat → Nat → Bool) (i k : Nat) : List Nat := (List.range k).filter fun j => tog T i j
theorem memT_succ (T : Nat → Nat → Bool) (i k : Nat) : memT T i (k + 1) = if tog T i k = true then memT T i k ++ [k] else memT T i k := by
  unfold memT
  rw [List.range_succ, List.filter_append, List.filter_cons, List.filter_nil]
  split
  · rfl
  · rw [List.append_nil]
theorem memT_start {T : Nat → Nat → Bool} {i : Nat} (h : isRoot T i = true) : memT T i i = [] := by
  unfold memT
  rw [List.filter_eq_nil_iff]
  intro k hk hh
  have := isRoot_iff.1 h k (List.mem_range.1 hk)
  rw [tog_symm hh] at this
  cases this
theorem roots_succ (i : Nat) (T : Nat → Nat → Bool) : roots (i + 1) T = if isRoot T i = true then roots i T ++ [i] else roots i T := by
  unfold roots
  rw [List.range_succ, List.filter_append, List.filter_cons, List.filter_nil]
  split
  · rfl
  · rw [List.append_nil]
theorem memT_len (T : Nat → Nat → Bool) (i k : Nat) : (memT T i k).length ≤ k := by
  unfold memT
  exact Nat.le_trans (List.length_filter_le _ _) (by simp)
end Go.Proofs.Ytjgkiiohbceocaa
