/-
  pass.Start and After, the reference's After, walked: the plain functions; condition: the two tables lie as they are laid.
-/
import Derived.Test.YtjkmkpehnnkpiaaDoorPasD
namespace Go.Proofs.YtjkmkpehnnkpiaaDoor
open Go.RowKit Go.Joins
set_option linter.unusedVariables false
set_option linter.unusedSimpArgs false

theorem passE_start (F : Nat → Flg) (n : Nat) : passE F n 0 false = flagsE F n := by
  unfold passE
  split
  · rename_i h
    rw [h, if_neg (by omega), if_neg (by simp)]
  · rfl
theorem Cells.far {w : World} {A : Option Addr} {m n : Nat} {f : Nat → Nat → Value} {g : Nat} (h : Cells w A m n f) (hA : ∀ a, A = some a → a.block ≠ g) (i : Nat) (u : Value) : Cells (w.setCell ⟨g, i, none⟩ u) A m n f :=
  h.grown (only_setCell (only_refl w _) (Or.inl rfl) u) (fun a k ha hk => by cases hk; exact hA a ha)
/-- The flags that a pass starts with. -/
def startN (F : Nat → Flg) (n : Nat) : Nat := if flagsE F n = 0 then n else 0
/-- What After answers: the rule, the error. -/
def afterV (F : Nat → Flg) (n : Nat) (r : Int) (h : Bool) : Int := if flagsE F n = 0 ∧ 0 ≤ r ∧ r < n then nextP F n r.toNat h else 0
def afterE (F : Nat → Flg) (n : Nat) (r : Int) : Int := if flagsE F n = 0 then (if 0 ≤ r ∧ r < n then 0 else 2) else flagsE F n

set_option maxRecDepth 100000 in
set_option maxHeartbeats 4000000 in
theorem pstart (F : Nat → Flg) (hF : SkipOk F) (A : Option Addr) (n c : Nat) (hn : n ≤ 1000000) (w : World) (hT : Tabs w) (hA : ArgOk A n c) (hc : Cells w A 10 n (flgAt F)) :
    Calls Tryd.prog 15 #[.slice A n c] w fun e W' => ∃ B d, e = .returned (.tuple #[.agg #[.slice B (startN F n) d, .int .i64 0, .bool false], .int .i64 (flagsE F n)]) ∧ Cells W' B 10 (startN F n) (flgAt F) ∧ ArgOk B (startN F n) d ∧ Below w.heap.size w W' ∧ ∀ a, B = some a → w.heap.size ≤ a.block ∧ a.block < W'.heap.size := by
  have HA := Lib.hid (And.intro hA (And.intro hc (And.intro hF hT)))
  clear hA hc hF hT
  have z0 := gr_alloc (Below.refl w.heap.size w) (.cells #[.slice none 0 0, .int .i64 0, .bool false] 30)
  have f0 := Blk.new w 30 #[.slice none 0 0, .int .i64 0, .bool false]
  have H0 := Lib.hid (And.intro z0 f0)
  clear z0 f0
  go_enter Tryd.func15, Tryd.ntmps15
  go_wp2_with (fail)
  refine (powns F A n c hn _ HA.out.1 (HA.out.2.1.below H0.out.1)).mono ?_
  rintro e W1 ⟨B, d, rfl, k1, k2, k3, k4⟩
  have z1 := gr_alloc (gr_call H0.out.1 k3) (.cells #[.slice B n d, .int .i64 0, .bool false] 30)
  have f1 := (H0.out.2.call k3).alloc (.cells #[.slice B n d, .int .i64 0, .bool false] 30)
  have g1 := Blk.new W1 30 #[.slice B n d, .int .i64 0, .bool false]
  have q1 := k1.below (gr_alloc (Below.refl W1.heap.size W1) (.cells #[.slice B n d, .int .i64 0, .bool false] 30))
  have H1 := Lib.hid (And.intro z1 (And.intro f1 (And.intro g1 (And.intro q1 (And.intro k2 k4)))))
  clear z1 f1 g1 q1 k1 k2 k3 k4
  go_wp2_with (fail)
  refine (pcheck F HA.out.2.2.1 B n d 0 false ⟨by omega, by omega⟩ hn _ (HA.out.2.2.2.below H1.out.1 (Nat.le_refl _)) H1.out.2.2.2.1).mono ?_
  rintro e W2 ⟨rfl, h2⟩
  have z2 := gr_call H1.out.1 h2
  have f2 := H1.out.2.1.call h2
  have g2 := H1.out.2.2.1.call h2
  have q2 := H1.out.2.2.2.1.below h2
  have x0 := f2.cell' (i := 0) rfl
  have x1 := f2.cell' (i := 1) rfl
  have x2 := f2.cell' (i := 2) rfl
  have xf0 := f2.frozen 0
  have xf1 := f2.frozen 1
  have xf2 := f2.frozen 2
  have y0 := g2.cell' (i := 0) rfl
  have y1 := g2.cell' (i := 1) rfl
  have y2 := g2.cell' (i := 2) rfl
  have hl0 := f2.lt
  have hl1 := g2.lt
  have H2 := Lib.hid (And.intro z2 (And.intro f2 (And.intro q2 H1.out.2.2.2.2)))
  have h2s : Hid (W1.heap.size ≤ W2.heap.size) := Lib.hid (by have := h2.size; simp at this; omega)
  clear z2 f2 g2 q2 H1 h2
  rw [passE_start]
  by_cases he : flagsE F n = 0
  · have HS : Hid (startN F n = n ∧ flagsE F n = 0) := Lib.hid ⟨by unfold startN; rw [if_pos he], he⟩
    rw [he]
    clear he
    go_wp2_with (fail)
    refine bodyPost_ret (v := .tuple #[.agg #[.slice B n d, .int .i64 0, .bool false], .int .i64 0]) (by simp [results, Tryd.results15, go_sem, x0, x1, x2, hl0]) rfl ⟨B, d, ?_, ?_, ?_, ?_, ?_⟩
    · rw [HS.out.1, HS.out.2]
    · rw [HS.out.1]
      have hB : ∀ a, B = some a → a.block ≠ w.heap.size := fun a ha => by have := (H2.out.2.2.2.2 a ha).1; simp at this; omega
      exact ((H2.out.2.2.1.far hB _ _).far hB _ _).far hB _ _
    · rw [HS.out.1]; exact H2.out.2.2.2.1
    · exact gr_set (gr_set (gr_set H2.out.1 (by simp) _) (by simp) _) (by simp) _
    · exact fun a ha => by have h1 := (H2.out.2.2.2.2 a ha).1; have h2 := (H2.out.2.2.2.2 a ha).2; have h3 := h2s.out; simp at h1; simp; omega
  · have HS : Hid (startN F n = 0) := Lib.hid (by unfold startN; rw [if_neg he])
    generalize hx : flagsE F n = x at he ⊢
    go_wp2_with (fail)
    refine bodyPost_ret (v := .tuple #[.agg #[.slice none 0 0, .int .i64 0, .bool false], .int .i64 x]) (by simp [results, Tryd.results15, go_sem, x0, x1, x2, hl0]) rfl ⟨none, 0, ?_, ?_, ?_, ?_, ?_⟩
    · rw [HS.out, hx]
    · rw [HS.out]; exact fun h => absurd h (by decide)
    · rw [HS.out]; exact fun _ => ⟨rfl, rfl⟩
    · exact gr_set (gr_set (gr_set H2.out.1 (by simp) _) (by simp) _) (by simp) _
    · exact fun a ha => by cases ha
end Go.Proofs.YtjkmkpehnnkpiaaDoor
