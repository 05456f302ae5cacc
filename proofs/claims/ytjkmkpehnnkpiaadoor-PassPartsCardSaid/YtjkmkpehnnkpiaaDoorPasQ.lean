/-
  Check, Over and Next of passes, of the program and of the reference, walked: the plain functions; condition: the two tables lie as they are laid.
-/
import Derived.Test.YtjkmkpehnnkpiaaDoorPasM
namespace Go.Proofs.YtjkmkpehnnkpiaaDoor
open Go.RowKit Go.Joins Go.Shelf
set_option linter.unusedVariables false
set_option linter.unusedSimpArgs false

set_option maxRecDepth 100000 in
set_option maxHeartbeats 4000000 in
theorem rcheckP (F : Nat → Flg) (hF : SkipOk F) (A : Option Addr) (n c : Nat) (t : Int) (en : Bool) (ht : -9223372036854775808 ≤ t ∧ t ≤ 9223372036854775807) (hn : n ≤ 1000000) (w : World) (hA : Cells w A 10 n (flgAt F)) :
    Calls Tryd.prog 18 #[.agg #[.slice A n c, .int .i64 t, .bool en]] w fun e W' => e = .returned (.int .i64 (passE F n t en)) ∧ Below w.heap.size w W' := by
  have HA := Lib.hid (And.intro hA hF)
  clear hA hF
  obtain ⟨ht1, ht2⟩ := ht
  have z0 := gr_alloc (Below.refl w.heap.size w) (.cells #[.slice A n c, .int .i64 t, .bool en] 30)
  have f0 := Blk.new w 30 #[.slice A n c, .int .i64 t, .bool en]
  have H0 := Lib.hid (And.intro z0 f0)
  clear z0 f0
  go_enter Tryd.func18, Tryd.ntmps18
  go_wp2_with (fail)
  refine (rflags F HA.out.2 A n c hn _ (HA.out.1.below H0.out.1)).mono ?_
  rintro e W1 ⟨rfl, h1⟩
  have hblk := H0.out.2.call h1
  have c0 := hblk.cell' (i := 0) rfl
  have c1 := hblk.cell' (i := 1) rfl
  have c2 := hblk.cell' (i := 2) rfl
  have hw0 := hblk.lt
  have HB := Lib.hid (gr_call H0.out.1 h1)
  clear hblk h1 H0
  by_cases hz : flagsE F n = 0
  · have e : ∀ y : Int, (if t < 0 ∨ (n : Int) < t then 2 else if en = true ∧ t < n then 9 else 0) = y → passE F n t en = y := by
      intro y hy
      unfold passE
      rw [if_pos hz]; exact hy
    have HY := Lib.hid e
    rw [hz]
    clear hz e
    by_cases a1 : t < 0
    · go_wp2_with (fail)
      go_ret
      exact ⟨ret_int (HY.out _ (by rw [if_pos (Or.inl a1)])).symm, HB.out⟩
    by_cases a2 : (n : Int) < t
    · go_wp2_with (fail)
      go_ret
      exact ⟨ret_int (HY.out _ (by rw [if_pos (Or.inr a2)])).symm, HB.out⟩
    by_cases a3 : t < n
    · cases en
      · go_wp2_with (fail)
        go_ret
        exact ⟨ret_int (HY.out _ (by rw [if_neg (by omega), if_neg (by simp)])).symm, HB.out⟩
      · go_wp2_with (fail)
        go_ret
        exact ⟨ret_int (HY.out _ (by rw [if_neg (by omega)]; simp [a3])).symm, HB.out⟩
    · cases en
      · go_wp2_with (fail)
        go_ret
        exact ⟨ret_int (HY.out _ (by rw [if_neg (by omega), if_neg (by simp)])).symm, HB.out⟩
      · go_wp2_with (fail)
        go_ret
        exact ⟨ret_int (HY.out _ (by rw [if_neg (by omega), if_neg (by omega)])).symm, HB.out⟩
  · have e : passE F n t en = flagsE F n := by unfold passE; rw [if_neg hz]
    generalize flagsE F n = x at hz e ⊢
    have HE := Lib.hid e
    clear e
    go_wp2_with (fail)
    go_ret
    exact ⟨ret_int HE.out.symm, HB.out⟩

/-- What Over says. -/
def overV (F : Nat → Flg) (n : Nat) (t : Int) (e : Bool) : Bool := decide (passE F n t e = 0) && (t == n)

set_option maxRecDepth 100000 in
set_option maxHeartbeats 4000000 in
theorem pover2 (F : Nat → Flg) (hF : SkipOk F) (A : Option Addr) (n c : Nat) (t : Int) (en : Bool) (ht : -9223372036854775808 ≤ t ∧ t ≤ 9223372036854775807) (hn : n ≤ 1000000) (w : World) (hT : Tabs w) (hA : Cells w A 10 n (flgAt F)) :
    Calls Tryd.prog 20 #[.agg #[.slice A n c, .int .i64 t, .bool en]] w fun e W' => e = .returned (.tuple #[.bool (overV F n t en), .int .i64 (passE F n t en)]) ∧ Below w.heap.size w W' := by
  have HA := Lib.hid (And.intro hA (And.intro hF (And.intro hT ht)))
  clear hA hF hT ht
  have z0 := gr_alloc (Below.refl w.heap.size w) (.cells #[.slice A n c, .int .i64 t, .bool en] 30)
  have f0 := Blk.new w 30 #[.slice A n c, .int .i64 t, .bool en]
  have H0 := Lib.hid (And.intro z0 f0)
  clear z0 f0
  go_enter Tryd.func20, Tryd.ntmps20
  go_wp2_with (fail)
  refine (pcheck F HA.out.2.1 A n c t en HA.out.2.2.2 hn _ (HA.out.2.2.1.below H0.out.1 (Nat.le_refl _)) (HA.out.1.below H0.out.1)).mono ?_
  rintro e W1 ⟨rfl, h1⟩
  have hblk := H0.out.2.call h1
  have c0 := hblk.cell' (i := 0) rfl
  have c1 := hblk.cell' (i := 1) rfl
  have hw0 := hblk.lt
  have HB := Lib.hid (gr_call H0.out.1 h1)
  clear hblk h1 H0
  by_cases hz : passE F n t en = 0
  · have e : overV F n t en = (t == n) := by unfold overV; rw [decide_eq_true hz]; simp
    rw [hz]
    have HE := Lib.hid (And.intro e hz)
    clear e hz
    go_wp2_with (fail)
    go_ret2
    refine ⟨?_, HB.out⟩
    rw [HE.out.1, HE.out.2]
    rfl
  · have e : overV F n t en = false := by unfold overV; rw [decide_eq_false hz]; simp
    generalize hx : passE F n t en = x at hz ⊢
    have HE := Lib.hid (And.intro e hx)
    clear e hx
    go_wp2_with (fail)
    go_ret2
    refine ⟨?_, HB.out⟩
    rw [HE.out.1, HE.out.2]
    rfl

set_option maxRecDepth 100000 in
set_option maxHeartbeats 4000000 in
theorem rover2 (F : Nat → Flg) (hF : SkipOk F) (A : Option Addr) (n c : Nat) (t : Int) (en : Bool) (ht : -9223372036854775808 ≤ t ∧ t ≤ 9223372036854775807) (hn : n ≤ 1000000) (w : World) (hA : Cells w A 10 n (flgAt F)) :
    Calls Tryd.prog 21 #[.agg #[.slice A n c, .int .i64 t, .bool en]] w fun e W' => e = .returned (.tuple #[.bool (overV F n t en), .int .i64 (passE F n t en)]) ∧ Below w.heap.size w W' := by
  have HA := Lib.hid (And.intro hA (And.intro hF ht))
  clear hA hF ht
  have z0 := gr_alloc (Below.refl w.heap.size w) (.cells #[.slice A n c, .int .i64 t, .bool en] 30)
  have f0 := Blk.new w 30 #[.slice A n c, .int .i64 t, .bool en]
  have H0 := Lib.hid (And.intro z0 f0)
  clear z0 f0
  go_enter Tryd.func21, Tryd.ntmps21
  go_wp2_with (fail)
  refine (rcheckP F HA.out.2.1 A n c t en HA.out.2.2 hn _ (HA.out.1.below H0.out.1)).mono ?_
  rintro e W1 ⟨rfl, h1⟩
  have hblk := H0.out.2.call h1
  have c0 := hblk.cell' (i := 0) rfl
  have c1 := hblk.cell' (i := 1) rfl
  have hw0 := hblk.lt
  have HB := Lib.hid (gr_call H0.out.1 h1)
  clear hblk h1 H0
  by_cases hz : passE F n t en = 0
  · have e : overV F n t en = (t == n) := by unfold overV; rw [decide_eq_true hz]; simp
    rw [hz]
    have HE := Lib.hid (And.intro e hz)
    clear e hz
    go_wp2_with (fail)
    go_ret2
    refine ⟨?_, HB.out⟩
    rw [HE.out.1, HE.out.2]
    rfl
  · have e : overV F n t en = false := by unfold overV; rw [decide_eq_false hz]; simp
    generalize hx : passE F n t en = x at hz ⊢
    have hxb : (x == 0) = false := beq_eq_false_iff_ne.2 hz
    have HE := Lib.hid (And.intro e hx)
    clear e hx
    go_wp2_with (fail)
    go_ret2
    refine ⟨?_, HB.out⟩
    rw [HE.out.1, HE.out.2]
    rfl
end Go.Proofs.YtjkmkpehnnkpiaaDoor
