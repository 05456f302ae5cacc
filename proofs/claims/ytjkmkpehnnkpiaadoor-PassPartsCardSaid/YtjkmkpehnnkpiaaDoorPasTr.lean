/-
  pass.Tried, walked: which rules are ever tried; condition: the flags are without error, as many answers as rules.
-/
import Derived.Test.YtjkmkpehnnkpiaaDoorPasFx
import Derived.Test.YtjkmkpehnnkpiaaDoorPasY
import Derived.Deep.OwnRows
namespace Go.Proofs.YtjkmkpehnnkpiaaDoor
open Go.RowKit Go.Joins Go.Shelf
set_option linter.unusedVariables false
set_option linter.unusedSimpArgs false

def inL (l : List Nat) : Nat → Bool := fun k => decide (k ∈ l)
/-- The list of what was tried as n answers. -/
def outC (l : List Nat) (n : Nat) : Array Value := ((List.range n).map fun k => Value.bool (inL l k)).toArray
theorem outC_size (l : List Nat) (n : Nat) : (outC l n).size = n := by simp [outC]
theorem outC_at (l : List Nat) (n k : Nat) (hk : k < n) : (outC l n)[k]? = some (.bool (inL l k)) := by simp [outC, hk]
theorem outC_set (l : List Nat) (n r : Nat) : (outC l n).setIfInBounds r (.bool true) = outC (l ++ [r]) n := by
  apply Array.ext_getElem?
  intro k
  rw [Array.getElem?_setIfInBounds, outC_size]
  by_cases hk : k < n
  · rw [outC_at _ _ _ hk, outC_at _ _ _ hk]
    by_cases e : r = k
    · subst e; rw [if_pos rfl, if_pos hk]; simp [inL]
    · rw [if_neg e]; congr 2; unfold inL; rw [decide_eq_decide]; simp only [List.mem_append, List.mem_singleton]; exact ⟨Or.inl, fun h => h.resolve_right (fun h => e h.symm)⟩
  · rw [Array.getElem?_eq_none (by rw [outC_size]; omega), Array.getElem?_eq_none (by rw [outC_size]; omega)]
    split
    · rw [if_neg (by omega)]
    · rfl
theorem made_outC (n : Nat) : madeCells #[.bool false] n = outC [] n := by
  apply Array.ext_getElem?
  intro k
  by_cases hk : k < n
  · rw [outC_at _ _ _ hk]; simp [madeCells, hk, inL, Nat.mod_one]
  · rw [Array.getElem?_eq_none (by rw [size_madeCells]; omega), Array.getElem?_eq_none (by rw [outC_size]; omega)]
def TrRel (l : List Nat) (n : Nat) (w : World) (v : Value) (D : Nat) (i : Value) (wr : World) : Prop :=
  ∃ j : Nat, j ≤ l.length ∧ i = .int .i64 (j : Int) ∧ wr.ownsRow w.heap.size 3 1 v l.length (intL l) ∧ Blk wr D 4 (outC (l.take j) n) ∧ Below w.heap.size w wr

set_option maxRecDepth 100000 in
set_option maxHeartbeats 4000000 in
theorem ptried (F : Nat → Flg) (hF : SkipOk F) (A AA : Option Addr) (n c cc : Nat) (G : Nat → Bool) (hn : n ≤ 10000) (w : World) (hT : Tabs w) (hA : ArgOk A n c) (hc : Cells w A 10 n (flgAt F)) (hg : Cells w AA 1 n (boolAt G)) (he : flagsE F n = 0) :
    Calls Tryd.prog 32 #[.slice A n c, .slice AA n cc] w fun e W' => ∃ D i, e = .returned (.tuple #[.slice (some ⟨D, 0, none⟩) n n, .int .i64 0]) ∧
      i ≤ 2 * n ∧ Halt F n (ansF G (2 * n)) 0 i ∧ Good F n (ansF G (2 * n)) 0 i ∧ Cells W' (some ⟨D, 0, none⟩) 1 n (boolAt (inL (triedN F n (ansF G (2 * n)) 0 i))) ∧ Below w.heap.size w W' := by
  have H := Lib.hid (And.intro hF (And.intro hT (And.intro hc (And.intro hA (And.intro hg he)))))
  clear hF hT hc hA hg he
  go_enter Tryd.func32, Tryd.ntmps32
  go_wp2_with (fail)
  have k := pfixed F H.out.1 A AA n c cc (2 * n) G (by omega) (by omega) w H.out.2.1 H.out.2.2.2.1 H.out.2.2.1 H.out.2.2.2.2.1 H.out.2.2.2.2.2
  rw [show ((2 * n : Nat) : Int) = 2 * (n : Int) by omega] at k
  refine k.mono ?_
  clear k
  rintro e W1 ⟨g, B, d, i, v, rfl, h1, h2, h3, h4, h5, h6⟩
  have x1 := h4.cell' (i := 3) rfl
  have xl := h4.lt
  obtain ⟨l, hl⟩ : ∃ l, l = triedN F n (ansF G (2 * n)) 0 i := ⟨_, rfl⟩
  have hll : l.length = i := by rw [hl, triedN_len]
  have hlt : ∀ r ∈ l, r < n := by
    intro r hr
    rw [hl] at hr
    unfold triedN at hr
    obtain ⟨j, hj, rfl⟩ := List.mem_map.1 hr
    exact (h3 j (List.mem_range.1 hj)).1
  rw [← hl] at h5
  subst hll
  have hmk := fun W => run_make_row' 31 4 (.bool false) 1 Tryd.underlying31 infoBoolY rfl .i64 .i64 n (by omega) (by omega) W
  simp only [made_outC] at hmk
  obtain ⟨va, vc, rfl⟩ := own_slice h5
  have hD := h6.size
  have b1 := h4.alloc (.cells (outC [] n) 4)
  have x2 := b1.cell' (i := 3) rfl
  have b2 := Blk.new W1 4 (outC [] n)
  have H1 := Lib.hid (And.intro h1 (And.intro h2 (And.intro h3 (And.intro (h5.alloc (.cells (outC [] n) 4)) (And.intro (gr_alloc h6 (.cells (outC [] n) 4)) (And.intro b2 (And.intro hl hlt)))))))
  clear h1 h2 h3 h4 h5 h6 b1 b2 hl hlt
  go_wp2_with (fail)
  have hL : l.length ≤ 100000 := by have := H1.out.1; omega
  go_loopw [31] (fun i wr => TrRel l n w (.slice va l.length vc) W1.heap.size i wr) (fun i _ => l.length - (intOf i).toNat)
  case atStart => exact ⟨0, Nat.zero_le _, rfl, H1.out.2.2.2.1, H1.out.2.2.2.2.2.1, H1.out.2.2.2.2.1⟩
  case round =>
    obtain ⟨j, hj, rfl, how, hb, hz⟩ := hrel
    by_cases hlt : j < l.length
    · obtain ⟨A', c', e1, hcl, _⟩ := own_ints rfl how
      cases e1
      obtain ⟨ab, ao, rfl, had, hcl⟩ := hcl (by omega)
      have c0 : wr.cell? ⟨ab, ao + j, none⟩ = some (.int .i64 ((l[j] : Nat) : Int)) := by
        have h1 := hcl j 0 hlt (by decide)
        rw [Nat.mul_one, Nat.add_zero] at h1
        rw [h1]
        simp [intsAt, hlt]
      have hr := H1.out.2.2.2.2.2.2.2 l[j] (List.getElem_mem _)
      have htk : l.take (j + 1) = l.take j ++ [l[j]] := by rw [List.take_add_one, List.getElem?_eq_getElem hlt]; rfl
      generalize l[j] = r at c0 hr htk
      have b0 := hb.cell' (i := r) (outC_at _ _ _ hr)
      have bf := hb.frozen r
      have bl := hb.lt
      have hri : (r : Int) < (n : Int) := by omega
      have HR := Lib.hid (And.intro how (And.intro hb (And.intro hz htk)))
      clear how hb hz htk hcl
      go_wp2_with (fail)
      exact ⟨⟨j + 1, by omega, by go_num, own_setCell HR.out.1 HR.out.2.1 (by decide) _, by rw [HR.out.2.2.2, ← outC_set]; exact HR.out.2.1.set_ _ _, gr_set HR.out.2.2.1 (p := ⟨W1.heap.size, r, none⟩) hD _⟩, by simp [intOf]; omega⟩
    · obtain rfl : j = l.length := by omega
      have HR := Lib.hid (And.intro how (And.intro hb hz))
      clear how hb hz
      go_wp2_with (fail)
      go_ret2
      refine ⟨W1.heap.size, l.length, rfl, H1.out.1, H1.out.2.1, H1.out.2.2.1, fun _ => ⟨W1.heap.size, 0, rfl, HR.out.2.1.lt, fun i j hi hj => ?_⟩, HR.out.2.2⟩
      obtain rfl : j = 0 := by omega
      rw [Nat.zero_add, Nat.mul_one, Nat.add_zero, HR.out.2.1.cell, List.take_length, outC_at _ _ _ hi, ← H1.out.2.2.2.2.2.2.1]
      rfl
end Go.Proofs.YtjkmkpehnnkpiaaDoor
