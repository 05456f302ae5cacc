/-
  Lists of cells as rows that a call owns, append of a list that came in: no condition.
-/
import Derived.Test.YtcfdadgijnmemaaDoorSetLT
import Derived.Laws.AppendOwnNone
namespace Go.Proofs.YtcfdadgijnmemaaDoor
open Go.RowKit
set_option linter.unusedVariables false
set_option linter.unusedSimpArgs false

/-- The cells of n elements of m cells, one behind the other. -/
def flatC (f : Nat → Nat → Value) (m n : Nat) : List Value := (List.range (n * m)).map fun t => f (t / m) (t % m)
theorem flatC_len (f : Nat → Nat → Value) (m n : Nat) : (flatC f m n).length = n * m := by simp [flatC]
theorem flatC_at (f : Nat → Nat → Value) (m n j : Nat) (hj : j < n * m) : (flatC f m n)[j]? = some (f (j / m) (j % m)) := by
  unfold flatC
  rw [List.getElem?_map, List.getElem?_range hj]; rfl
theorem row_lt {m n i j : Nat} (hi : i < n) (hj : j < m) : i * m + j < n * m :=
  Nat.lt_of_lt_of_le (Nat.add_lt_add_left hj _) (by rw [← Nat.succ_mul]; exact Nat.mul_le_mul_right _ hi)
/-- A list that came in: where it is nil it has nothing. -/
def ArgOk (A : Option Addr) (n c : Nat) : Prop := A = none → n = 0 ∧ c = 0

theorem row_cells {W : World} {B e m n : Nat} {v : Value} {f : Nat → Nat → Value} (hm : 0 < m) (h : W.ownsRow B e m v n (flatC f m n)) : ∃ A c, v = .slice A n c ∧ Cells W A m n f ∧ ArgOk A n c := by
  rcases h.2 with ⟨rfl, h0⟩ | ⟨g, cap, cur, rfl, hBg, hg, _, _, _, htk⟩
  · exact ⟨_, _, by rw [h0], fun hn => absurd hn (by omega), fun _ => ⟨h0, rfl⟩⟩
  · refine ⟨_, _, rfl, fun _ => ⟨g, 0, rfl, (Array.getElem?_eq_some_iff.1 hg).1, fun i j hi hj => ?_⟩, fun ha => by cases ha⟩
    have hlt := row_lt hi hj
    have h1 := flatC_at f m n (i * m + j) hlt
    rw [← htk, List.getElem?_take, if_pos hlt] at h1
    have e1 : (i * m + j) / m = i := by rw [Nat.mul_comm, Nat.mul_add_div hm, Nat.div_eq_of_lt hj]; omega
    have e2 : (i * m + j) % m = j := by rw [Nat.mul_comm, Nat.mul_add_mod, Nat.mod_eq_of_lt hj]
    rw [e1, e2] at h1
    rw [Nat.zero_add, cell_of_row W g _ cur _ _ hg]
    simpa using h1
theorem own_empty (w : World) (B : Nat) (e : TypeId) (size : Nat) (hB : B ≤ w.heap.size) : (w.alloc (.cells #[] e)).ownsRow B e size (.slice (some ⟨w.heap.size, 0, none⟩) 0 0) 0 [] :=
  ⟨by simp, .inr ⟨w.heap.size, 0, #[], rfl, hB, heap_alloc_new w _, Nat.le_refl _, by unfold maxLen; omega, by simp, by simp⟩⟩
theorem append_any {P : Program} {w : World} {ops : Array Oper} {rest : List Oper} {o : Oper} {a : Act} {Q : Exit → Act → World → Prop} (hgd : o.guard = none) (s x : Operand) (t : TypeId)
    (ho : o.op = .call { callee := .builtin .append, args := #[s, x], argTypes := #[t, t] })
    (base : Nat) (e : TypeId) (i : TypeInfo) (z : Value) (size bytes : Nat) (ht : P.underlying t = some (.slice e)) (hi : P.info? e = some i) (hz : i.zero = some z)
    (hsize : i.size = size) (hby : i.bytes = bytes) (hzs : z.cells.size = size) (hsz : 0 < size)
    (v : Value) (hs : a.eval s = v) (hown : w.ownsRow base e size v 0 [])
    (A : Option Addr) (m c : Nat) (f : Nat → Nat → Value) (hx : a.eval x = .slice A m c) (hA : ArgOk A m c) (hc : Cells w A size m f) (h1 : ∀ i j, (f i j).oneCell' = true)
    (h63 : m ≤ maxLen) (hbytes : m * bytes ≤ 140737488355328) (hbase : base ≤ w.heap.size)
    (h : ∀ v' w', w'.ownsRow base e size v' m (flatC f size m) → w.grownBy w' v.ownBlock → wpList P ops Q rest (a.put o.dst v') w') : wpList P ops Q (o :: rest) a w := by
  cases A with
  | none =>
    obtain ⟨rfl, rfl⟩ := hA rfl
    refine wpList_append_own_none hgd s x t ho base e i size ht hi v 0 [] hs hown hx (h _ _ ?_ (only_refl w _))
    have : flatC f size 0 = [] := by simp [flatC]
    rw [this]; exact hown
  | some ad =>
    refine wpList_append_own (w := w) hgd s x t ho base e i z size bytes ht hi hz hsize hby hzs hsz v 0 [] hs hown ad m c (flatC f size m) hx (flatC_len _ _ _) (fun j u hj => ?_) (fun u hu => ?_) (by omega) (by simpa using hbytes) hbase (fun v' w' h2 h3 _ => h v' w' (by simpa using h2) h3)
    · have hjl : j < m * size := by
        have := (List.getElem?_eq_some_iff.1 hj).1
        rwa [flatC_len] at this
      rw [flatC_at f size m j hjl] at hj
      have hm0 : 0 < m := Nat.pos_of_ne_zero (fun e => by subst e; simp at hjl)
      obtain ⟨b, off, ea, _, hcl⟩ := hc hm0
      cases ea
      have := hcl (j / size) (j % size) (Nat.div_lt_of_lt_mul (by rw [Nat.mul_comm]; exact hjl)) (Nat.mod_lt _ hsz)
      have ej : off + j / size * size + j % size = off + j := by
        have := Nat.div_add_mod j size
        rw [Nat.mul_comm] at this
        omega
      rw [ej] at this
      rw [Addr.add_lit, this]
      exact hj
    · obtain ⟨t', _, rfl⟩ := List.mem_map.1 hu
      exact h1 _ _
theorem infoRange : (Tryd.prog.info? 35).map (fun i => (i.zero, i.size, i.bytes)) = some (some (.agg #[.int .u8 0, .int .u8 0]), 2, 2) := by kernel_rfl
theorem infoSet : (Tryd.prog.info? 28).map (fun i => (i.zero, i.size, i.bytes)) = some (some (.agg #[.int .u64 0, .int .u64 0, .int .u64 0, .int .u64 0]), 4, 32) := by kernel_rfl
/-- What a list of bytes says as a string. -/
def strZ (Z : Nat → Nat) (n : Nat) : List UInt8 := (List.range n).map fun i => UInt8.ofNat (Z i)
theorem conv_cells {W : World} {A : Option Addr} {n c : Nat} {Z : Nat → Nat} (hZ : ∀ i, Z i < 256) (hA : ArgOk A n c) (h : Cells W A 1 n (byteAt Z)) :
    (convert 22 9 (.slice A n c)).run Tryd.prog W = .ok (.string ⟨(strZ Z n).toArray⟩) W := by
  cases A with
  | none =>
    obtain ⟨rfl, rfl⟩ := hA rfl
    exact Lib.run_convert_nil_bytes W _ _ 5 0 Tryd.underlying22 Tryd.underlying5 Tryd.underlying9
  | some a =>
    have hl : (strZ Z n).length = n := by simp [strZ]
    have := run_convert_bytes_back W 22 9 5 a c (strZ Z n) Tryd.underlying22 Tryd.underlying5 Tryd.underlying9 (fun j hj => by
      have hjn : j < n := by rw [hl] at hj; exact hj
      obtain ⟨b, off, ea, _, hc⟩ := h (by omega)
      cases ea
      have := hc j 0 hjn (by decide)
      rw [Addr.add_lit]
      have hz := hZ j
      simp only [Nat.mul_one, Nat.add_zero] at this
      rw [this, byteAt]
      simp [strZ, Nat.mod_eq_of_lt hz])
    rw [hl] at this
    exact this
set_option maxRecDepth 100000 in
theorem eqRng (a b a' b' : Int) (w : World) : (Op.equalIn 10000 35 (.agg #[.int .u8 a, .int .u8 b]) (.agg #[.int .u8 a', .int .u8 b'])).run Tryd.prog w = .ok (a == a' && b == b') w := by
  have u3 := Tryd.underlying5
  have a3 := Tryd.isAgg5
  have z3 := Tryd.sizeOf5
  rw [show (10000 : Nat) = 9999 + 1 from rfl, Op.equalIn]
  simp only [Sem.run_bind, run_underlying Tryd.underlying35, Result.andThen_ok]
  go_simp
  by_cases h1 : a = a' <;> by_cases h2 : b = b' <;> simp [h1, h2]
theorem Cells.grown {w w' : World} {A : Option Addr} {m n : Nat} {f : Nat → Nat → Value} {row : Option Nat} (h : Cells w A m n f) (hg : w.grownBy w' row) (hr : ∀ a k, A = some a → row = some k → a.block ≠ k) : Cells w' A m n f := by
  intro hn
  obtain ⟨b, off, ha, hl, hc⟩ := h hn
  refine ⟨b, off, ha, Nat.lt_of_lt_of_le hl hg.size, fun i j hi hj => ?_⟩
  have := hg.block b hl (fun e => hr _ b ha e.symm rfl)
  rw [World.cell?_of_block (w := w) (w' := w') (a := ⟨b, off + i * m + j, none⟩) this]
  exact hc i j hi hj
end Go.Proofs.YtcfdadgijnmemaaDoor
