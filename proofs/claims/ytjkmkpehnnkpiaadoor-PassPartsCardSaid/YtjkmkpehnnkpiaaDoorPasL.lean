/-
  The law's after and awake, walked: true; condition: the two tables lie as they are laid.
-/
import Derived.Test.YtjkmkpehnnkpiaaDoorPasJ
import Derived.Test.YtjkmkpehnnkpiaaDoorPasK
namespace Go.Proofs.YtjkmkpehnnkpiaaDoor
open Go.RowKit Go.Joins Go.Shelf
set_option linter.unusedVariables false
set_option linter.unusedSimpArgs false

theorem steps_unique {F : Nat → Flg} {n : Nat} {ans : Nat → Nat → Option Bool} {a0 i j : Nat} (hi : Halt F n ans a0 i) (gi : Good F n ans a0 i) (hj : Halt F n ans a0 j) (gj : Good F n ans a0 j) : i = j := by
  have no : ∀ {a b : Nat}, Halt F n ans a0 a → Good F n ans a0 b → ¬ a < b := by
    intro a b ha gb hlt
    obtain ⟨h1, h, h2⟩ := gb a hlt
    rcases ha with ha | ha
    · exact ha h1
    · rw [h2] at ha; cases ha
  rcases Nat.lt_trichotomy i j with h | h | h
  · exact absurd h (no hi gj)
  · exact h
  · exact absurd h (no hj gi)
def goodB (F : Nat → Flg) (n : Nat) (ans : Nat → Nat → Option Bool) (a0 i : Nat) : Bool := (List.range i).all fun j => decide (atN F n ans a0 j < n) && (ans (atN F n ans a0 j) j).isSome
theorem good_of {F : Nat → Flg} {n : Nat} {ans : Nat → Nat → Option Bool} {a0 i : Nat} (h : goodB F n ans a0 i = true) : Good F n ans a0 i := by
  intro j hj
  have := List.all_eq_true.1 h j (List.mem_range.2 hj)
  simp only [Bool.and_eq_true, decide_eq_true_eq] at this
  exact ⟨this.1, Option.isSome_iff_exists.1 this.2⟩
theorem intL_flat (l : List Nat) : flatC (intsAt (l.map fun (k : Nat) => (k : Int))) 1 l.length = intL l := by
  unfold flatC intL intsAt
  apply List.ext_getElem (by simp)
  intro i h1 h2
  have hi : i < l.length := by simpa using h2
  simp [hi]
theorem own_ints {W : World} {B : Nat} {v : Value} {n : Nat} {l : List Nat} (hn : n = l.length) (h : W.ownsRow B 3 1 v n (intL l)) : ∃ A c, v = .slice A l.length c ∧ Cells W A 1 l.length (intsAt (l.map fun (k : Nat) => (k : Int))) ∧ ArgOk A l.length c := by
  subst hn
  rw [← intL_flat] at h
  exact row_cells (by decide) h

set_option maxRecDepth 100000 in
set_option maxHeartbeats 2000000 in
theorem lafter (r : Int) (h : Bool) (want : Int) (hr : -9223372036854775808 ≤ r ∧ r ≤ 9223372036854775807) (h1 : afterV Fr 6 r h = want) (h2 : afterE Fr 6 r = 0) (w : World) (hT : Tabs w) :
    Calls Tryd.prog 39 #[.int .i64 r, .bool h, .int .i64 want] w fun e W' => e = .returned (.bool true) ∧ Below w.heap.size w W' := by
  have HH := Lib.hid (And.intro h1 (And.intro h2 (And.intro hT hr)))
  clear h1 h2 hT hr
  go_enter Tryd.func39, Tryd.ntmps39
  go_wp2_with (fail)
  refine (lrules _).mono ?_
  rintro e W1 ⟨rfl, k1, k2⟩
  have H1 := Lib.hid (And.intro k1 k2)
  clear k1 k2
  go_wp2_with (fail)
  refine (pafter Fr Fr_ok _ 6 6 r HH.out.2.2.2 h (by decide) _ (HH.out.2.2.1.below H1.out.2 (Nat.le_refl _)) (show ArgOk _ _ _ from fun h => by cases h) H1.out.1).mono ?_
  rintro e W2 ⟨rfl, k2⟩
  have H2 := Lib.hid (gr_call H1.out.2 k2)
  rw [HH.out.1, HH.out.2.1]
  clear k2 H1
  go_wp2_with (fail)
  go_ret
  exact ⟨rfl, H2.out⟩

def G5 : Nat → Bool := fun i => ([true, true, false, true, false] : List Bool).getD i false
theorem run5 : goodB Fr 6 (ansL G5 5) 0 5 = true ∧ atN Fr 6 (ansL G5 5) 0 5 = 6 ∧ enN Fr 6 (ansL G5 5) 0 false 5 = false ∧ triedN Fr 6 (ansL G5 5) 0 5 = [0, 1, 2, 3, 5] := by decide +kernel
theorem flags6 : flagsE Fr 6 = 0 := by decide +kernel

set_option maxRecDepth 100000 in
set_option maxHeartbeats 4000000 in
theorem awake (w : World) (hT : Tabs w) : Calls Tryd.prog 10 #[] w fun e W' => e = .returned (.bool true) ∧ Below w.heap.size w W' := by
  have HT := Lib.hid hT
  clear hT
  go_enter Tryd.func10, Tryd.ntmps10
  go_wp2_with (fail)
  refine (lrules _).mono ?_
  rintro e W1 ⟨rfl, k1, k2⟩
  have H1 := Lib.hid (And.intro k1 k2)
  clear k1 k2
  go_wp2_with (fail)
  refine (pstart Fr Fr_ok _ 6 6 (by decide) _ (HT.out.below H1.out.2 (Nat.le_refl _)) (show ArgOk _ _ _ from fun h => by cases h) H1.out.1).mono ?_
  rintro e W2 ⟨B, d, rfl, k1, k2, k3, k4⟩
  have hs : startN Fr 6 = 6 := by unfold startN; rw [if_pos flags6]
  rw [hs] at k1 k2 ⊢
  rw [flags6]
  have z2 := gr_alloc (gr_call H1.out.2 k3) (.cells #[.slice B 6 d, .int .i64 0, .bool false] 30)
  have f2 := Blk.new W2 30 #[.slice B 6 d, .int .i64 0, .bool false]
  have q2 := k1.below (gr_alloc (Below.refl W2.heap.size W2) (.cells #[.slice B 6 d, .int .i64 0, .bool false] 30))
  have H2z : Hid (w.heap.size ≤ W2.heap.size) := Lib.hid (gr_call H1.out.2 k3).size
  have H2 := Lib.hid (And.intro z2 (And.intro f2 (And.intro q2 k2)))
  clear z2 f2 q2 k1 k2 k3 k4 hs H1
  go_wp2_with (fail)
  have hgc : Cells ((W2.alloc (.cells #[.slice B 6 d, .int .i64 0, .bool false] 30)).alloc (.cells #[.bool true, .bool true, .bool false, .bool true, .bool false] 4)) (some ⟨W2.heap.size + 1, 0, none⟩) 1 5 (boolAt G5) := by
    intro _
    refine ⟨_, _, rfl, by simp, fun i j hi hj => ?_⟩
    have h5 : Blk ((W2.alloc (.cells #[.slice B 6 d, .int .i64 0, .bool false] 30)).alloc (.cells #[.bool true, .bool true, .bool false, .bool true, .bool false] 4)) (W2.heap.size + 1) 4 #[.bool true, .bool true, .bool false, .bool true, .bool false] := blk_at (by simp)
    have hi' : i = 0 ∨ i = 1 ∨ i = 2 ∨ i = 3 ∨ i = 4 := by omega
    obtain rfl : j = 0 := by omega
    rcases hi' with rfl | rfl | rfl | rfl | rfl <;> exact h5.cell' rfl
  have z3 := gr_alloc H2.out.1 (.cells #[.bool true, .bool true, .bool false, .bool true, .bool false] 4)
  have q3 := H2.out.2.2.1.below (gr_alloc (Below.refl _ _) (.cells #[.bool true, .bool true, .bool false, .bool true, .bool false] 4))
  have f3 := H2.out.2.1.alloc (.cells #[.bool true, .bool true, .bool false, .bool true, .bool false] 4)
  have H3 := Lib.hid (And.intro z3 (And.intro f3 q3))
  refine (prun_ok Fr Fr_ok B _ 6 d 5 5 0 false G5 (by decide) (by decide) _ (HT.out.below z3 (Nat.le_refl _)) H2.out.2.2.2 q3 hgc (by rw [show ((0 : Nat) : Int) = 0 from rfl, passE_start]; exact flags6)).mono ?_
  rintro e W4 ⟨B', d', i, v, rfl, hi, hh, hg, k1, k2, hown, hbel⟩
  have hi5 : i = 5 := steps_unique hh hg (by exact Or.inl (by rw [run5.2.1]; decide)) (good_of run5.1)
  subst hi5
  rw [run5.2.1, run5.2.2.1]
  rw [run5.2.2.2] at hown
  obtain ⟨A5, c5, rfl, hints, _⟩ := own_ints (l := [0, 1, 2, 3, 5]) rfl hown
  have z4 := gr_call z3 hbel
  have f4 := f3.call hbel
  have uf0 := f4.frozen 0
  have uf1 := f4.frozen 1
  have uf2 := f4.frozen 2
  have u0 := f4.cell' (i := 0) rfl
  have u1 := f4.cell' (i := 1) rfl
  have u2 := f4.cell' (i := 2) rfl
  have ul := f4.lt
  have HQ := Lib.hid (And.intro z4 (And.intro f4 (And.intro hints hown)))
  clear z3 q3 f3 hgc z4 f4 hints hown hbel H3 H2 hh hg k1 k2
  go_wp2_with (fail)
  have hX : Blk (((W4.setCell ⟨W2.heap.size, 0, none⟩ (.slice B' 6 d')).setCell ⟨W2.heap.size, 1, none⟩ (.int .i64 6)).setCell ⟨W2.heap.size, 2, none⟩ (.bool false)) W2.heap.size 30 #[.slice B' 6 d', .int .i64 6, .bool false] := ((HQ.out.2.1.set_ 0 (.slice B' 6 d')).set_ 1 (.int .i64 6)).set_ 2 (.bool false)
  have hO := own_setCell (i := 2) (own_setCell (i := 1) (own_setCell (i := 0) HQ.out.2.2.2 HQ.out.2.1 (by decide) (.slice B' 6 d')) (HQ.out.2.1.set_ 0 (.slice B' 6 d')) (by decide) (.int .i64 6)) ((HQ.out.2.1.set_ 0 (.slice B' 6 d')).set_ 1 (.int .i64 6)) (by decide) (.bool false)
  have hz : Below w.heap.size w (((W4.setCell ⟨W2.heap.size, 0, none⟩ (.slice B' 6 d')).setCell ⟨W2.heap.size, 1, none⟩ (.int .i64 6)).setCell ⟨W2.heap.size, 2, none⟩ (.bool false)) := gr_set (gr_set (gr_set HQ.out.1 (by have := H2z.out; simp; omega) _) (by have := H2z.out; simp; omega) _) (by have := H2z.out; simp; omega) _
  have hsX : (((W4.setCell ⟨W2.heap.size, 0, none⟩ (.slice B' 6 d')).setCell ⟨W2.heap.size, 1, none⟩ (.int .i64 6)).setCell ⟨W2.heap.size, 2, none⟩ (.bool false)).heap.size = W4.heap.size := by simp
  generalize (((W4.setCell ⟨W2.heap.size, 0, none⟩ (.slice B' 6 d')).setCell ⟨W2.heap.size, 1, none⟩ (.int .i64 6)).setCell ⟨W2.heap.size, 2, none⟩ (.bool false)) = X at hX hO hz hsX ⊢
  rw [← hsX]
  obtain ⟨A6, c6, e6, h6, _⟩ := own_ints (l := [0, 1, 2, 3, 5]) rfl hO
  cases e6
  have h7 := Blk.new X 3 #[.int .i64 0, .int .i64 1, .int .i64 2, .int .i64 3, .int .i64 5]
  have hc7 : Cells (X.alloc (.cells #[.int .i64 0, .int .i64 1, .int .i64 2, .int .i64 3, .int .i64 5] 3)) (some ⟨X.heap.size, 0, none⟩) 1 ([0, 1, 2, 3, 5] : List Int).length (intsAt [0, 1, 2, 3, 5]) := by
    intro _
    refine ⟨_, _, rfl, by simp, fun i j hi hj => ?_⟩
    have hi' : i = 0 ∨ i = 1 ∨ i = 2 ∨ i = 3 ∨ i = 4 := by simp at hi; omega
    obtain rfl : j = 0 := by omega
    rcases hi' with rfl | rfl | rfl | rfl | rfl <;> exact h7.cell' rfl
  have h8 := h6.below (gr_alloc (Below.refl _ _) (.cells #[.int .i64 0, .int .i64 1, .int .i64 2, .int .i64 3, .int .i64 5] 3))
  have z8 := gr_alloc hz (.cells #[.int .i64 0, .int .i64 1, .int .i64 2, .int .i64 3, .int .i64 5] 3)
  have f8 := hX.alloc (.cells #[.int .i64 0, .int .i64 1, .int .i64 2, .int .i64 3, .int .i64 5] 3)
  have H8 := Lib.hid (And.intro z8 (And.intro f8 (And.intro h8 hc7)))
  clear hX hO hz h6 h7 hc7 h8 z8 f8 HQ u0 u1 u2 uf0 uf1 uf2 ul hsX
  refine (sameInts [0, 1, 2, 3, 5] [0, 1, 2, 3, 5] _ _ _ 5 (by decide) (by decide) _ H8.out.2.2.1 H8.out.2.2.2).mono ?_
  rintro e W5 ⟨rfl, h5⟩
  have z5 := gr_call H8.out.1 h5
  have f5 := H8.out.2.1.call h5
  have u1 := f5.cell' (i := 1) rfl
  have u2 := f5.cell' (i := 2) rfl
  have ul := f5.lt
  have H5 := Lib.hid z5
  rw [decide_eq_true rfl]
  clear z5 f5 h5 H8
  go_wp2_with (fail)
  refine (lafter 0 false 3 (by decide) (by decide +kernel) (by decide +kernel) _ (HT.out.below H5.out (Nat.le_refl _))).mono ?_
  rintro e W6 ⟨rfl, h6⟩
  have H6 := Lib.hid (gr_call H5.out h6)
  clear h6 H5
  go_wp2_with (fail)
  go_ret
  exact ⟨rfl, H6.out⟩
end Go.Proofs.YtjkmkpehnnkpiaaDoor
