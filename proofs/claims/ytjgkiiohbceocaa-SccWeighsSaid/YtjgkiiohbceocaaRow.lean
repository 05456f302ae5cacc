/-
  Lists that came in, read cell by cell; rows that a call owns; append of a list that came in: no program is in sight; no condition.
-/
import Derived.Test.YtjgkiiohbceocaaBase
import Derived.Laws.AppendOwnNone
namespace Go.Proofs.Ytjgkiiohbceocaa
open Go.RowKit
set_option linter.unusedVariables false
set_option linter.unusedSimpArgs false

theorem blk_at {w : World} {t : TypeId} {cs : Array Value} {n : Nat} (h : n = w.heap.size) : Blk (w.alloc (.cells cs t)) n t cs := by
  subst h
  exact Blk.new w t cs
/-- A list whose element i has the cells f i 0, f i 1, .. -/
def Cells (w : World) (A : Option Addr) (m n : Nat) (f : Nat → Nat → Value) : Prop :=
  0 < n → ∃ b off, A = some ⟨b, off, none⟩ ∧ b < w.heap.size ∧ ∀ i j, i < n → j < m → w.cell? ⟨b, off + i * m + j, none⟩ = some (f i j)
theorem Cells.below {w w' : World} {A : Option Addr} {m n : Nat} {f : Nat → Nat → Value} (h : Cells w A m n f) (hb : Below w.heap.size w w') : Cells w' A m n f := by
  intro hn
  obtain ⟨b, off, ha, hl, hc⟩ := h hn
  exact ⟨b, off, ha, Nat.lt_of_lt_of_le hl hb.size, fun i j hi hj => by rw [hb.cell (p := ⟨b, off + i * m + j, none⟩) hl]; exact hc i j hi hj⟩

/-- The cells of n elements of m cells, one behind the other. -/
def flatC (f : Nat → Nat → Value) (m n : Nat) : List Value := (List.range (n * m)).map fun t => f (t / m) (t % m)
theorem flatC_len (f : Nat → Nat → Value) (m n : Nat) : (flatC f m n).length = n * m := by simp [flatC]
theorem flatC_at (f : Nat → Nat → Value) (m n j : Nat) (hj : j < n * m) : (flatC f m n)[j]? = some (f (j / m) (j % m)) := by
  unfold flatC
  rw [List.getElem?_map, List.getElem?_range hj]; rfl
theorem row_lt {m n i j : Nat} (hi : i < n) (hj : j < m) : i * m + j < n * m :=
  Nat.lt_of_lt_of_le (Nat.add_lt_add_left hj _) (by rw [← Nat.succ_mul]; exact Nat.mul_le_mul_right _ hi)
/-- A list that came in: where it is nil it has nothing. -/
def ArgOk (A : Option Addr) (n c : Nat) : Prop := A = none → n = 0 ∧ c = 0

theorem row_cells {W : World} {B e m n : Nat} {v : Value} {f : Nat → Nat → Value} (hm : 0 < m) (h : W.ownsRow B e m v n (flatC f m n)) : ∃ A c, v = .slice A n c ∧ Cells W A m n f ∧ ArgOk A n c := by
  rcases h.2 with ⟨rfl, h0⟩ | ⟨g, cap, cur, rfl, hBg, hg, _, _, _, htk⟩
  · exact ⟨_, _, by rw [h0], fun hn => absurd hn (by omega), fun _ => ⟨h0, rfl⟩⟩
  · refine ⟨_, _, rfl, fun _ => ⟨g, 0, rfl, (Array.getElem?_eq_some_iff.1 hg).1, fun i j hi hj => ?_⟩, fun ha => by cases ha⟩
    have hlt := row_lt hi hj
    have h1 := flatC_at f m n (i * m + j) hlt
    rw [← htk, List.getElem?_take, if_pos hlt] at h1
    have e1 : (i * m + j) / m = i := by rw [Nat.mul_comm, Nat.mul_add_div hm, Nat.div_eq_of_lt hj]; omega
    have e2 : (i * m + j) % m = j := by rw [Nat.mul_comm, Nat.mul_add_mod, Nat.mod_eq_of_lt hj]
    rw [e1, e2] at h1
    rw [Nat.zero_add, cell_of_row W g _ cur _ _ hg]
    simpa using h1
theorem own_empty (w : World) (B : Nat) (e : TypeId) (size : Nat) (hB : B ≤ w.heap.size) : (w.alloc (.cells #[] e)).ownsRow B e size (.slice (some ⟨w.heap.size, 0, none⟩) 0 0) 0 [] :=
  ⟨by simp, .inr ⟨w.heap.size, 0, #[], rfl, hB, heap_alloc_new w _, Nat.le_refl _, by unfold maxLen; omega, by simp, by simp⟩⟩
theorem append_any {P : Program} {w : World} {ops : Array Oper} {rest : List Oper} {o : Oper} {a : Act} {Q : Exit → Act → World → Prop} (hgd : o.guard = none) (s x : Operand) (t : TypeId)
    (ho : o.op = .call { callee := .builtin .append, args := #[s, x], argTypes := #[t, t] })
    (base : Nat) (e : TypeId) (i : TypeInfo) (z : Value) (size bytes : Nat) (ht : P.underlying t = some (.slice e)) (hi : P.info? e = some i) (hz : i.zero = some z)
    (hsize : i.size = size) (hby : i.bytes = bytes) (hzs : z.cells.size = size) (hsz : 0 < size)
    (v : Value) (hs : a.eval s = v) (hown : w.ownsRow base e size v 0 [])
    (A : Option Addr) (m c : Nat) (f : Nat → Nat → Value) (hx : a.eval x = .slice A m c) (hA : ArgOk A m c) (hc : Cells w A size m f) (h1 : ∀ i j, (f i j).oneCell' = true)
    (h63 : m ≤ maxLen) (hbytes : m * bytes ≤ 140737488355328) (hbase : base ≤ w.heap.size)
    (h : ∀ v' w', w'.ownsRow base e size v' m (flatC f size m) → w.grownBy w' v.ownBlock → wpList P ops Q rest (a.put o.dst v') w') : wpList P ops Q (o :: rest) a w := by
  cases A with
  | none =>
    obtain ⟨rfl, rfl⟩ := hA rfl
    refine wpList_append_own_none hgd s x t ho base e i size ht hi v 0 [] hs hown hx (h _ _ ?_ (only_refl w _))
    have : flatC f size 0 = [] := by simp [flatC]
    rw [this]; exact hown
  | some ad =>
    refine wpList_append_own (w := w) hgd s x t ho base e i z size bytes ht hi hz hsize hby hzs hsz v 0 [] hs hown ad m c (flatC f size m) hx (flatC_len _ _ _) (fun j u hj => ?_) (fun u hu => ?_) (by omega) (by simpa using hbytes) hbase (fun v' w' h2 h3 _ => h v' w' (by simpa using h2) h3)
    · have hjl : j < m * size := by
        have := (List.getElem?_eq_some_iff.1 hj).1
        rwa [flatC_len] at this
      rw [flatC_at f size m j hjl] at hj
      have hm0 : 0 < m := Nat.pos_of_ne_zero (fun e => by subst e; simp at hjl)
      obtain ⟨b, off, ea, _, hcl⟩ := hc hm0
      cases ea
      have := hcl (j / size) (j % size) (Nat.div_lt_of_lt_mul (by rw [Nat.mul_comm]; exact hjl)) (Nat.mod_lt _ hsz)
      have ej : off + j / size * size + j % size = off + j := by
        have := Nat.div_add_mod j size
        rw [Nat.mul_comm] at this
        omega
      rw [ej] at this
      rw [Addr.add_lit, this]
      exact hj
    · obtain ⟨t', _, rfl⟩ := List.mem_map.1 hu
      exact h1 _ _
theorem Cells.grown {w w' : World} {A : Option Addr} {m n : Nat} {f : Nat → Nat → Value} {row : Option Nat} (h : Cells w A m n f) (hg : w.grownBy w' row) (hr : ∀ a k, A = some a → row = some k → a.block ≠ k) : Cells w' A m n f := by
  intro hn
  obtain ⟨b, off, ha, hl, hc⟩ := h hn
  refine ⟨b, off, ha, Nat.lt_of_lt_of_le hl hg.size, fun i j hi hj => ?_⟩
  have := hg.block b hl (fun e => hr _ b ha e.symm rfl)
  rw [World.cell?_of_block (w := w) (w' := w') (a := ⟨b, off + i * m + j, none⟩) this]
  exact hc i j hi hj
end Go.Proofs.Ytjgkiiohbceocaa
