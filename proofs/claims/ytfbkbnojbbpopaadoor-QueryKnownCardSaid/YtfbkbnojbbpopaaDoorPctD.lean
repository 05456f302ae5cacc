/-
  percent.Decode: what the plain functions say (chapter 16's cut of the text); condition: strings no longer than Go's own.
-/
import Derived.Test.YtfbkbnojbbpopaaDoorPctR
namespace Go.Proofs.YtfbkbnojbbpopaaDoor
open Go.RowKit
set_option linter.unusedVariables false
set_option linter.unusedSimpArgs false

def DecPost (s : ByteArray) (w : World) (e : Ending) (w' : World) : Prop :=
  e = .returned (.tuple #[.string (rOut s), .agg #[.int .i64 (rErr s), .int .i64 (rAt s)]]) ∧ Below w.heap.size w w'

theorem rOk {s : ByteArray} (h : okS s) : rErr s = 0 ∧ rAt s = 0 ∧ rOut s = ⟨(scan s.data.toList).1.toArray⟩ ∧ rEsc s = ((scan s.data.toList).2.2 : Int) := by
  unfold rErr rAt rOut rEsc; rw [if_pos h, if_pos h, if_pos h, if_pos h]; exact ⟨rfl, rfl, rfl, rfl⟩
theorem rNo {s : ByteArray} (h : ¬ okS s) : rErr s = 3 ∧ rAt s = ((scan s.data.toList).2.1 : Int) ∧ rOut s = ⟨#[]⟩ ∧ rEsc s = 0 := by
  unfold rErr rAt rOut rEsc; rw [if_neg h, if_neg h, if_neg h, if_neg h]; exact ⟨rfl, rfl, rfl, rfl⟩

set_option maxRecDepth 100000 in
set_option maxHeartbeats 1000000 in
theorem pdecode (s : ByteArray) (w : World) (hs : s.size ≤ 1000000000) :
    Calls Tryd.prog 23 #[.string s] w (DecPost s w) := by
  by_cases ho : okS s
  · obtain ⟨e1, e2, e3, e4⟩ := rOk ho
    have E3 := Lib.hid e3
    clear e3 e4 ho
    go_enter Tryd.func23, Tryd.ntmps23
    go_wp2_with (go_at_call 45; refine (pread s _ hs).mono ?_)
    rintro e w1 ⟨g, v, rfl, hblk, hown, hg, hbel⟩
    have hz : w.heap.size < w1.heap.size := by have := hbel.size; simp at this; omega
    have hf0 := (Blk.new w 40 #[.int .i64 0, .int .i64 0]).below hbel (by simp)
    have d0 := hf0.cell' (i := 0) (v := .int .i64 0) rfl
    have d1 := hf0.cell' (i := 1) (v := .int .i64 0) rfl
    have f0 := hf0.frozen 0
    have f1 := hf0.frozen 1
    have c2 := hblk.cell' (i := 2) (v := v) rfl
    have hcv := fun o => run_own_string (P := Tryd.prog) (w := (w1.alloc o).drew) (src := 63) (dst := 9) Tryd.underlying63 Tryd.underlying5 Tryd.underlying9 rfl (hown.alloc o)
    have hgz := hblk.lt
    have hbel' := Lib.hid (((Below.refl _ _).alloc (Nat.le_refl _) _).trans (hbel.mono (by simp)))
    clear hblk hown hg hbel hf0
    go_wp2_with (fail)
    go_region
    all_goals go_wp2
    refine bodyPost_ret (v := .tuple #[.string ⟨(scan s.data.toList).1.toArray⟩, .agg #[.int .i64 0, .int .i64 0]]) (by simp [results, Tryd.results23, go_sem, d0, d1, hz]) rfl ?_
    exact ⟨by rw [E3.out, e1, e2], below_drewN (((hbel'.out.setCell (by simp) _).setCell (by simp) _).alloc (by simp; omega) _) 1⟩
  · obtain ⟨e1, e2, e3, e4⟩ := rNo ho
    have E3 := Lib.hid e3
    have E2 := Lib.hid e2
    clear e3 e4 ho e2
    go_enter Tryd.func23, Tryd.ntmps23
    go_wp2_with (go_at_call 45; refine (pread s _ hs).mono ?_)
    rintro e w1 ⟨g, v, rfl, hblk, hown, hg, hbel⟩
    have hz : w.heap.size < w1.heap.size := by have := hbel.size; simp at this; omega
    have hf0 := (Blk.new w 40 #[.int .i64 0, .int .i64 0]).below hbel (by simp)
    have d0 := hf0.cell' (i := 0) (v := .int .i64 0) rfl
    have d1 := hf0.cell' (i := 1) (v := .int .i64 0) rfl
    have f0 := hf0.frozen 0
    have f1 := hf0.frozen 1
    have hbel' := Lib.hid (((Below.refl _ _).alloc (Nat.le_refl _) _).trans (hbel.mono (by simp)))
    clear hblk hown hg hbel hf0
    go_wp2_with (fail)
    go_region
    all_goals go_wp2
    refine bodyPost_ret (v := .tuple #[.string ⟨#[]⟩, .agg #[.int .i64 3, .int .i64 (rAt s)]]) (by simp [results, Tryd.results23, go_sem, d0, d1, hz]) rfl ?_
    exact ⟨by rw [E3.out, e1], below_drewN (((hbel'.out.setCell (by simp) _).setCell (by simp) _).alloc (by simp; omega) _) 1⟩

end Go.Proofs.YtfbkbnojbbpopaaDoor
