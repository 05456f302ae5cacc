/-
  percent.Canonical and percent.Is: as the plain functions say; condition: strings of at most 1000000000 bytes.
-/
import Derived.Test.YtgbnppdcolednaaPctE
namespace Go.Proofs.Ytgbnppdcolednaa
open Go.RowKit
set_option linter.unusedVariables false
set_option linter.unusedSimpArgs false

/-- The canonical encoding of what a string says. -/
def canS (S : Nat → Nat) (s : ByteArray) : ByteArray := if okS s then encS S (rOut s) else ⟨#[]⟩
def CanPost (S : Nat → Nat) (s : ByteArray) (w : World) (e : Ending) (w' : World) : Prop :=
  e = .returned (.tuple #[.string (canS S s), .agg #[.int .i64 (rErr s), .int .i64 (rAt s)]]) ∧ Below w.heap.size w w'

theorem rOut_size (s : ByteArray) : (rOut s).size ≤ s.size := by
  unfold rOut
  split
  · have h := scan_le s.data.toList
    rw [size_data] at h
    have e : (⟨(scan s.data.toList).1.toArray⟩ : ByteArray).size = (scan s.data.toList).1.length := by rw [← size_data]
    omega
  · exact Nat.zero_le _

set_option maxRecDepth 100000 in
set_option maxHeartbeats 1000000 in
theorem pcanonical (S : Nat → Nat) (hS : ∀ k, S k < 2 ^ 64) (s : ByteArray) (w : World) (hs : s.size ≤ 1000000000) :
    Calls Try.prog 17 #[.string s, .agg #[.int .u64 (S 0 : Int), .int .u64 (S 1 : Int), .int .u64 (S 2 : Int), .int .u64 (S 3 : Int)]] w (CanPost S s w) := by
  have hz := rOut_size s
  have hS := Lib.hid hS
  by_cases ho : okS s
  · obtain ⟨e1, e2, e3, e4⟩ := rOk ho
    have E3 : Hid (canS S s = encS S (rOut s)) := Lib.hid (by unfold canS; rw [if_pos ho])
    clear e3 e4 ho
    go_enter Try.func17, Try.ntmps17
    go_wp2_with (go_at_call 15; refine (pdecode s _ hs).mono ?_)
    rintro e w1 ⟨rfl, hbel⟩
    have hb0 := ((Blk.new w 31 #[.int .u64 (S 0 : Int), .int .u64 (S 1 : Int), .int .u64 (S 2 : Int), .int .u64 (S 3 : Int)]).alloc (.cells #[.int .i64 0, .int .i64 0] 33)).below hbel (by simp; omega)
    have hb1 : Blk w1 (w.heap.size + 1) 33 #[.int .i64 0, .int .i64 0] := by simpa using (Blk.new (w.alloc (.cells #[.int .u64 (S 0 : Int), .int .u64 (S 1 : Int), .int .u64 (S 2 : Int), .int .u64 (S 3 : Int)] 31)) 33 #[.int .i64 0, .int .i64 0]).below hbel (by simp)
    have hz1 : w.heap.size + 1 < w1.heap.size := by have := hbel.size; simp at this; omega
    have hz0 : w.heap.size < w1.heap.size := by omega
    have a0 := hb0.cell' (i := 0) (v := .int .u64 (S 0 : Int)) rfl
    have a1 := hb0.cell' (i := 1) (v := .int .u64 (S 1 : Int)) rfl
    have a2 := hb0.cell' (i := 2) (v := .int .u64 (S 2 : Int)) rfl
    have a3 := hb0.cell' (i := 3) (v := .int .u64 (S 3 : Int)) rfl
    have H1 : Below w.heap.size w w1 := (((Below.refl _ _).alloc (Nat.le_refl _) _).alloc (by simp) _).trans (hbel.mono (by simp; omega))
    have H := Lib.hid (And.intro H1 (And.intro hb0 hb1))
    clear hbel hb0 hb1 H1
    go_wp2_with (fail)
    have c0 := (H.out.2.2).cell' (i := 0) (v := .int .i64 0) rfl
    have c1 := (H.out.2.2).cell' (i := 1) (v := .int .i64 0) rfl
    have f0 := (H.out.2.2).frozen 0
    have f1 := (H.out.2.2).frozen 1
    go_region_with (go_at_call 21; refine (pencode S hS.out _ _ (by omega)).mono ?_; rintro e W2 ⟨rfl, hw2⟩; obtain ⟨q1, q2⟩ := bcell hw2; have q3 := hw2.size; simp at q1 q2 q3)
    all_goals
      go_wp2
      refine bodyPost_ret (v := .tuple #[.string (encS S (rOut s)), .agg #[.int .i64 0, .int .i64 0]]) (by simp [results, Try.results17, go_sem, q1, q3, hz0, hz1, c0, c1]) rfl ?_
      refine ⟨by rw [E3.out, e1, e2], ?_⟩
      have h2 : Below w.heap.size w W2 := (H.out.1.alloc (by omega) _).drew.trans (hw2.mono (by show w.heap.size ≤ (w1.alloc _).heap.size; rw [World.size_alloc]; omega))
      repeat (first | exact h2 | refine below_drewN ?_ _ | refine Below.drew ?_ | refine Below.setCell ?_ (by simp) _)
  · obtain ⟨e1, e2, e3, e4⟩ := rNo ho
    have E3 : Hid (canS S s = ⟨#[]⟩) := Lib.hid (by unfold canS; rw [if_neg ho])
    clear e3 e4 ho e2
    go_enter Try.func17, Try.ntmps17
    go_wp2_with (go_at_call 15; refine (pdecode s _ hs).mono ?_)
    rintro e w1 ⟨rfl, hbel⟩
    have hb1 : Blk w1 (w.heap.size + 1) 33 #[.int .i64 0, .int .i64 0] := by simpa using (Blk.new (w.alloc (.cells #[.int .u64 (S 0 : Int), .int .u64 (S 1 : Int), .int .u64 (S 2 : Int), .int .u64 (S 3 : Int)] 31)) 33 #[.int .i64 0, .int .i64 0]).below hbel (by simp)
    have hz1 : w.heap.size + 1 < w1.heap.size := by have := hbel.size; simp at this; omega
    have hz0 : w.heap.size < w1.heap.size := by omega
    have H1 : Below w.heap.size w w1 := (((Below.refl _ _).alloc (Nat.le_refl _) _).alloc (by simp) _).trans (hbel.mono (by simp; omega))
    have c0 := hb1.cell' (i := 0) (v := .int .i64 0) rfl
    have c1 := hb1.cell' (i := 1) (v := .int .i64 0) rfl
    have f0 := hb1.frozen 0
    have f1 := hb1.frozen 1
    have H := Lib.hid H1
    clear hbel hb1 H1
    go_wp2_with (fail)
    go_region
    all_goals go_wp2
    refine bodyPost_ret (v := .tuple #[.string ⟨#[]⟩, .agg #[.int .i64 3, .int .i64 (rAt s)]]) (by simp [results, Try.results17, go_sem, hz1, c0, c1]) rfl ?_
    refine ⟨by rw [E3.out, e1], ?_⟩
    have h2 := H.out
    repeat (first | exact h2 | refine below_drewN ?_ _ | refine Below.drew ?_ | refine Below.setCell ?_ (by simp) _ | refine Below.alloc ?_ (by simp; omega) _)

theorem okS_err (s : ByteArray) : (rErr s == 0) = decide (okS s) := by
  by_cases h : okS s
  · rw [(rOk h).1]; simp [h]
  · rw [(rNo h).1]; simp [h]

set_option maxRecDepth 100000 in
set_option maxHeartbeats 1000000 in
theorem pis (S : Nat → Nat) (hS : ∀ k, S k < 2 ^ 64) (s : ByteArray) (w : World) (hs : s.size ≤ 1000000000) :
    Calls Try.prog 25 #[.string s, .agg #[.int .u64 (S 0 : Int), .int .u64 (S 1 : Int), .int .u64 (S 2 : Int), .int .u64 (S 3 : Int)]] w fun e w' => e = .returned (.bool (decide (okS s) && decide (canS S s = s))) ∧ Below w.heap.size w w' := by
  have hS := Lib.hid hS
  have eo := okS_err s
  by_cases ho : okS s
  · simp only [ho, decide_true] at eo
    have HO := Lib.hid ho
    go_enter Try.func25, Try.ntmps25
    go_wp2_with (go_at_call 17; refine (pcanonical S hS.out s _ hs).mono ?_; rintro e w1 ⟨rfl, hbel⟩)
    go_ret
    have h2 : Below w.heap.size w w1 := ((Below.refl _ _).alloc (Nat.le_refl _) _).trans (hbel.mono (by simp))
    exact ⟨ret_bool (by rw [str_beq]; simp [HO.out]), h2.alloc h2.size _⟩
  · simp only [ho, decide_false] at eo
    have HO := Lib.hid ho
    go_enter Try.func25, Try.ntmps25
    go_wp2_with (go_at_call 17; refine (pcanonical S hS.out s _ hs).mono ?_; rintro e w1 ⟨rfl, hbel⟩)
    go_ret
    have h2 : Below w.heap.size w w1 := ((Below.refl _ _).alloc (Nat.le_refl _) _).trans (hbel.mono (by simp))
    exact ⟨ret_bool (by simp [HO.out]), h2.alloc h2.size _⟩
end Go.Proofs.Ytgbnppdcolednaa
