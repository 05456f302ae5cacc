/-
  A run of a pass, as plain data; note, walked; condition: none.
-/
import Derived.Test.YtjkmkpehnnkpiaaDoorPasF
import Derived.Test.YtjkmkpehnnkpiaaDoorRng
namespace Go.Proofs.YtjkmkpehnnkpiaaDoor
open Go.RowKit Go.Joins Go.Shelf
set_option linter.unusedVariables false
set_option linter.unusedSimpArgs false

/-- The rule after i tries, with answers by rule and number. -/
def atN (F : Nat → Flg) (n : Nat) (ans : Nat → Nat → Option Bool) (a0 : Nat) : Nat → Nat
  | 0 => a0
  | i + 1 => match ans (atN F n ans a0 i) i with
    | some h => nextP F n (atN F n ans a0 i) h
    | none => atN F n ans a0 i
def enN (F : Nat → Flg) (n : Nat) (ans : Nat → Nat → Option Bool) (a0 : Nat) (e0 : Bool) : Nat → Bool
  | 0 => e0
  | i + 1 => match ans (atN F n ans a0 i) i with
    | some h => overP F (atN F n ans a0 i) h
    | none => enN F n ans a0 e0 i
/-- All tries before the i-th were made. -/
def Good (F : Nat → Flg) (n : Nat) (ans : Nat → Nat → Option Bool) (a0 i : Nat) : Prop := ∀ j, j < i → atN F n ans a0 j < n ∧ ∃ h, ans (atN F n ans a0 j) j = some h
/-- No try is made any more. -/
def Halt (F : Nat → Flg) (n : Nat) (ans : Nat → Nat → Option Bool) (a0 i : Nat) : Prop := ¬ atN F n ans a0 i < n ∨ ans (atN F n ans a0 i) i = none
def triedN (F : Nat → Flg) (n : Nat) (ans : Nat → Nat → Option Bool) (a0 i : Nat) : List Nat := (List.range i).map (atN F n ans a0)

theorem over_next {F : Nat → Flg} {n k : Nat} {h : Bool} (ho : overP F k h = true) : nextP F n k h = n := by
  unfold overP at ho
  unfold nextP
  cases h with
  | false => cases ho
  | true =>
    cases hn : (F k).next with
    | true => rw [hn] at ho; cases ho
    | false =>
      rw [hn] at ho
      rw [if_pos rfl, if_neg (by decide), if_pos (by simpa using ho)]
theorem en_false {F : Nat → Flg} {n : Nat} {ans : Nat → Nat → Option Bool} {a0 : Nat} {e0 : Bool} (h0 : a0 < n → e0 = false) {i : Nat} (hg : Good F n ans a0 i) (hlt : atN F n ans a0 i < n) : enN F n ans a0 e0 i = false := by
  cases i with
  | zero => exact h0 hlt
  | succ i =>
    obtain ⟨_, h, hh⟩ := hg i (Nat.lt_succ_self _)
    unfold enN
    unfold atN at hlt
    rw [hh] at hlt ⊢
    simp only at hlt ⊢
    cases ho : overP F (atN F n ans a0 i) h with
    | false => rfl
    | true => rw [over_next ho] at hlt; omega
theorem triedN_succ (F : Nat → Flg) (n : Nat) (ans : Nat → Nat → Option Bool) (a0 i : Nat) : triedN F n ans a0 (i + 1) = triedN F n ans a0 i ++ [atN F n ans a0 i] := by
  unfold triedN
  rw [List.range_succ, List.map_append]
  rfl
theorem triedN_len (F : Nat → Flg) (n : Nat) (ans : Nat → Nat → Option Bool) (a0 i : Nat) : (triedN F n ans a0 i).length = i := by simp [triedN]
theorem good_succ {F : Nat → Flg} {n : Nat} {ans : Nat → Nat → Option Bool} {a0 i : Nat} {h : Bool} (hg : Good F n ans a0 i) (hlt : atN F n ans a0 i < n) (ha : ans (atN F n ans a0 i) i = some h) : Good F n ans a0 (i + 1) := by
  intro j hj
  by_cases e : j = i
  · subst e; exact ⟨hlt, h, ha⟩
  · exact hg j (by omega)
theorem at_succ {F : Nat → Flg} {n : Nat} {ans : Nat → Nat → Option Bool} {a0 i : Nat} {h : Bool} (ha : ans (atN F n ans a0 i) i = some h) : atN F n ans a0 (i + 1) = nextP F n (atN F n ans a0 i) h := by
  show (match ans (atN F n ans a0 i) i with | some h => _ | none => _) = _
  rw [ha]
theorem en_succ {F : Nat → Flg} {n : Nat} {ans : Nat → Nat → Option Bool} {a0 i : Nat} {e0 h : Bool} (ha : ans (atN F n ans a0 i) i = some h) : enN F n ans a0 e0 (i + 1) = overP F (atN F n ans a0 i) h := by
  show (match ans (atN F n ans a0 i) i with | some h => _ | none => _) = _
  rw [ha]

def intL (l : List Nat) : List Value := l.map fun (k : Nat) => Value.int .i64 (k : Int)
/-- The trial's block and the list of what was tried. -/
def Trial (w0 : World) (B : Nat) (A : Option Addr) (n c : Nat) (t : Nat) (e : Bool) (l : List Nat) (W : World) : Prop :=
  ∃ v, Blk W B 73 #[.slice A n c, .int .i64 (t : Int), .bool e, v] ∧ W.ownsRow w0.heap.size 3 1 v l.length (intL l) ∧ w0.grownBy W (some B)
theorem grown_mix {a b c : World} {B : Nat} {row : Option Nat} (h : a.grownBy b (some B)) (k : b.grownBy c row) (hr : ∀ q, row = some q → q = B ∨ a.heap.size ≤ q) : a.grownBy c (some B) :=
  ⟨k.os.trans h.os, k.tape.trans h.tape, k.output.trans h.output, Nat.le_trans h.size k.size, fun i hi hne => (k.block i (Nat.lt_of_lt_of_le hi h.size) (fun e => by
    rcases hr i e.symm with h1 | h1
    · exact hne (by rw [h1])
    · omega)).trans (h.block i hi hne)⟩
theorem infoInt : (Tryd.prog.info? 3).map (fun i => (i.zero, i.size, i.bytes)) = some (some (.int .i64 0), 1, 8) := by kernel_rfl

theorem own_cells {w : World} {base size n : Nat} {e : TypeId} {v : Value} {xs : List Value} (h : w.ownsRow base e size v n xs) {j : Nat} {o : Obj} (hj : v.ownBlock = some j) (ho : w.heap[j]? = some o) : o.isCells = true := by
  rcases h.2 with ⟨rfl, _⟩ | ⟨g, cap, cur, rfl, _, hg, _⟩
  · cases hj
  · have : g = j := by simpa [Value.ownBlock] using hj
    subst this
    rw [hg] at ho
    cases ho
    rfl
/-- What the note of one rule does. -/
theorem intL_snoc (l : List Nat) (x : Nat) : intL (l ++ [x]) = intL l ++ [.int .i64 (x : Int)] := by simp [intL]

set_option maxRecDepth 100000 in
set_option maxHeartbeats 2000000 in
theorem pnote (w0 : World) (B : Nat) (A : Option Addr) (n c t : Nat) (e : Bool) (l : List Nat) (x : Nat) (g : Nat) (w : World) (hB : B < w0.heap.size) (hl : l.length ≤ 1000000) (ht : Trial w0 B A n c t e l w) (hx : Blk w g 3 #[.int .i64 (x : Int)]) :
    Calls Tryd.prog 56 #[.pointer (some ⟨B, 0, none⟩), .slice (some ⟨g, 0, none⟩) 1 1] w fun e' w' => e' = .returned (.tuple #[]) ∧ Trial w0 B A n c t e (l ++ [x]) w' ∧ KeepsOthers w w' := by
  obtain ⟨i0, hi, hz0, hz1, hz2⟩ := info_parts infoInt
  obtain ⟨v, hblk, hown, hgr⟩ := ht
  have c3 := hblk.cell' (i := 3) rfl
  have cf := hblk.frozen 3
  have hBw := hblk.lt
  have hs := hgr.size
  have H := Lib.hid (And.intro hblk (And.intro hown hgr))
  have HX := Lib.hid hx
  clear hblk hown hgr hx
  go_enter Tryd.func56, Tryd.ntmps56
  go_wp2_with (at_builtin; refine wpList_append_own _ rfl _ _ 40 rfl w0.heap.size 3 i0 (.int .i64 0) 1 8 Tryd.underlying40 hi hz0 hz1 hz2 rfl (by decide) _ _ _ rfl H.out.2.1 ⟨g, 0, none⟩ 1 1 [.int .i64 (x : Int)] rfl rfl ?c1 ?c2 ?c3 ?c4 ?c5 ?_)
  case c1 =>
    intro j u hj
    match j, hj with
    | 0, hj =>
      simp at hj
      subst hj
      exact HX.out.cell' rfl
  case c2 => exact one_int _ _
  case c3 => unfold maxLen; omega
  case c4 => omega
  case c5 => exact hs
  intro v' w2 hown' hgrow _
  obtain ⟨va, vc, rfl⟩ := own_slice hown'
  have hb2 := H.out.1.grown hgrow (own_blk_ne H.out.2.1 H.out.1 (by decide))
  have hg2 := grown_mix H.out.2.2 hgrow (fun q hq => Or.inr (H.out.2.1.lt q hq).1)
  have hko := KeepsOthers.of_grownBy hgrow (fun j o hj ho => own_cells H.out.2.1 hj ho)
  have cf2 := hb2.frozen 3
  have c32 := hb2.cell' (i := 3) rfl
  have hl2 := hb2.lt
  have H2 := Lib.hid (And.intro hb2 (And.intro hown' (And.intro hg2 hko)))
  clear hb2 hown' hg2 hko hgrow c3 cf
  go_wp2_with (fail)
  refine bodyPost_end (v := .tuple #[]) (by simp [results, Tryd.results56, go_sem]) rfl ⟨rfl, ⟨_, H2.out.1.set_ 3 (.slice va (l.length + 1) vc), ?_, ?_⟩, H2.out.2.2.2.trans (KeepsOthers.setCell _ _ _)⟩
  · rw [intL_snoc, List.length_append]
    exact own_setCell H2.out.2.1 H2.out.1 (by decide) _
  · exact only_setCell H2.out.2.2.1 (Or.inl rfl) _
end Go.Proofs.YtjkmkpehnnkpiaaDoor
